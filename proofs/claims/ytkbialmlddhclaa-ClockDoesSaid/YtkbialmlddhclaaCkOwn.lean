/- A row of ints that begins anywhere in its own block; what append does to it. -/
import Derived.Test.YtkbialmlddhclaaCkRem
namespace Go.Proofs.Ytkbialmlddhclaa.Ck
open Go.RowKit Go.Proofs.YtkbialmlddhclaaW.PrintWords Go.Proofs.YtkbialmlddhclaaW.PrintMore
set_option linter.unusedSimpArgs false
set_option linter.unusedVariables false
/-- Ints in a block of one's own, from off on. -/
def IOwn (base : Nat) (w : World) (v : Value) (l : List Int) : Prop :=
  ∃ g off c cs, v = .slice (some ⟨g, off, none⟩) l.length c ∧ base ≤ g ∧ w.heap[g]? = some (.cells cs TI (0, 0)) ∧ l.length ≤ c ∧ c ≤ maxLen ∧ off + c ≤ cs.size ∧ ∀ j x, l[j]? = some x → cs[off + j]? = some (.int .i64 x)
section
variable {base : Nat} {w w' : World} {v : Value} {l : List Int}
theorem IOwn.step (h : IOwn base w v l) (hm : ∀ k, base ≤ k → k < w.heap.size → w'.heap[k]? = w.heap[k]?) : IOwn base w' v l := by
  obtain ⟨g, off, c, cs, h1, h2, h3, h4⟩ := h
  exact ⟨g, off, c, cs, h1, h2, (hm g h2 (blt h3)).trans h3, h4⟩
theorem IOwn.row (h : IOwn base w v l) : RowV w v l := by
  obtain ⟨g, off, c, cs, rfl, h2, h3, h4, h5, h6, h7⟩ := h
  refine ⟨_, c, rfl, h4, cells_kI rfl (by have : maxLen = 9223372036854775807 := rfl; omega) (fun j hj => ?_), fun ad hA h0 => ?_⟩
  · rw [bcell h3, h7 j _ (List.getElem?_eq_getElem hj), List.getD_eq_getElem?_getD, List.getElem?_eq_getElem hj]
    rfl
  · injection hA with hA
    rw [← hA]
    exact ⟨cs, _, h3⟩
theorem IOwn.ofR {ok : Nat → Prop} (h : kI.R TI w base ok v l) (h0 : 0 < l.length) : IOwn base w v l := by
  obtain ⟨A, c, hv, hc, hC⟩ := Kd.R_reads h
  obtain ⟨inner, ho⟩ := Kd.R_own h
  rcases ho.2 with ⟨h1, h2⟩ | ⟨g, cap, cur, rfl, hb, hg, hle, hmx, hsz, _⟩
  · omega
  · injection hv with e1 e2 e3
    subst e1 e3
    have hsz2 : cur.size = cap := by rw [hsz]; exact Nat.mul_one _
    refine ⟨g, 0, cap, cur, rfl, hb, hg, hle, hmx, by omega, fun j x hj => ?_⟩
    obtain ⟨ad, e, hcell⟩ := kI_cell hC hj
    cases e
    rw [Addr.add_lit, bcell hg] at hcell
    exact hcell
/-- The row without its first one. -/
theorem IOwn.tail {x : Int} (h : IOwn base w v (x :: l)) : ∃ g off c, v = .slice (some ⟨g, off, none⟩) (l.length + 1) c ∧ l.length + 1 ≤ c ∧ w.cell? ⟨g, off, none⟩ = some (.int .i64 x) ∧ IOwn base w (.slice (some ⟨g, if c = 1 then off else off + 1, none⟩) l.length (c - 1)) l := by
  obtain ⟨g, off, c, cs, rfl, h2, h3, h4, h5, h6, h7⟩ := h
  rw [List.length_cons] at h4
  refine ⟨g, off, c, by rw [List.length_cons], h4, by rw [bcell h3]; exact h7 0 x rfl, g, _, c - 1, cs, rfl, h2, h3, by omega, by omega, by split <;> omega, fun j y hj => ?_⟩
  have hj2 := (List.getElem?_eq_some_iff.1 hj).1
  rw [if_neg (by omega)]
  have := h7 (j + 1) y (by simpa using hj)
  rwa [show off + (j + 1) = off + 1 + j by omega] at this
theorem IOwn.append {y : Int} {b : Nat} {ty : TypeId} (h : IOwn base w v l) (hb : w.cell? ⟨b, 0, none⟩ = some (.int .i64 y)) (hbase : base ≤ w.heap.size) (hl : l.length ≤ 1000) :
    ∃ v' w', (Builtin.append_ #[44, 44] ty #[v, .slice (some ⟨b, 0, none⟩) 1 1]).run Try.prog w = .ok v' w' ∧ IOwn base w' v' (l ++ [y]) ∧ Upd (fun k => base ≤ k) w w' := by
  obtain ⟨i0, hi, hz0, hz1, hz2⟩ := info_parts info_int
  have hmx : maxLen = 9223372036854775807 := rfl
  have hs : Src Try.prog i0.size 44 (.slice (some ⟨b, 0, none⟩) 1 1) 1 [.int .i64 y] w := by
    rw [hz1]
    refine Src.ofSlice w Try.underlying44 _ 1 1 _ rfl (fun j u hj => ?_) (fun u hu => ?_)
    · cases j with
      | zero => simp at hj; subst hj; rw [Addr.add_lit]; exact hb
      | succ j => simp at hj
    · simp at hu
      subst hu
      rfl
  obtain ⟨g, off, c, cs, rfl, h2, h3, h4, h5, h6, h7⟩ := h
  by_cases hroom : l.length + 1 ≤ c
  · have hrun := run_append_room_src (P := Try.prog) w 44 44 ty TI i0 Try.underlying44 hi g off l.length c _ 1 [.int .i64 y] hs hroom (fun j hj => by
      have : j = 0 := by simpa using hj
      subst this
      rw [bcell h3, hz1, Array.getElem?_eq_getElem (by omega)]
      rfl) (fun j hj => bfrozen h3 _)
    rw [hz1, Nat.mul_one] at hrun
    have e1 : w.setCells g (off + l.length) [.int .i64 y] = w.setCell ⟨g, off + l.length, none⟩ (.int .i64 y) := rfl
    rw [e1] at hrun
    refine ⟨_, _, hrun, ⟨g, off, c, _, by rw [List.length_append]; rfl, h2, bset h3 _ _, by rw [List.length_append]; exact hroom, h5, by simpa using h6, fun j x hj => ?_⟩, Upd.setCell w (p := ⟨g, off + l.length, none⟩) h2 _⟩
    rw [Array.getElem?_setIfInBounds]
    by_cases hjl : j < l.length
    · rw [if_neg (by omega)]
      rw [List.getElem?_append_left hjl] at hj
      exact h7 j x hj
    · have hj2 := (List.getElem?_eq_some_iff.1 hj).1
      rw [List.length_append, List.length_singleton] at hj2
      obtain rfl : j = l.length := by omega
      rw [if_pos rfl, if_pos (by omega)]
      simp at hj
      rw [hj]
  · have hcl : c = l.length := by omega
    have hold : (Builtin.firstCells i0.size l.length (.slice (some ⟨g, off, none⟩) l.length c)).run Try.prog w.drew = .ok (l.map (fun x => Value.int .i64 x)).toArray w.drew := by
      rw [hz1]
      refine run_firstCells_some w.drew 1 l.length ⟨g, off, none⟩ l.length c _ (by simp) (fun j u hj => ?_)
      rw [List.getElem?_map] at hj
      obtain ⟨x, hx, rfl⟩ := Option.map_eq_some_iff.1 hj
      rw [Addr.add_lit]
      show w.cell? _ = _
      rw [bcell h3]
      exact h7 j x hx
    have hrun := run_append_grow_src (P := Try.prog) w 44 44 ty TI i0 _ Try.underlying44 hi hz0 (some ⟨g, off, none⟩) l.length c _ hold _ 1 [.int .i64 y] hs (by omega) (by omega) (by rw [hz2]; exact growslice_fits (by omega) (by omega))
    have hge := grownCap_ge w (l.length + 1) c TI
    have hcm := grownCap_le_maxLen w (l.length + 1) c TI (by omega)
    refine ⟨_, _, hrun, ⟨w.heap.size, 0, _, _, by rw [List.length_append]; rfl, hbase, blk_new w.drew _, by rw [List.length_append]; exact hge, hcm, ?_, fun j x hj => ?_⟩, Upd.ofBelow (below_alloc (Below.refl _ w).drew _) _⟩
    · rw [Array.size_append, List.size_toArray, size_zeroCells]
      simp [Value.cells]
      omega
    · have hj2 := (List.getElem?_eq_some_iff.1 hj).1
      rw [List.length_append, List.length_singleton] at hj2
      rw [Nat.zero_add, Array.getElem?_append_left (by simp; omega), List.getElem?_toArray]
      have : l.map (fun x => Value.int .i64 x) ++ [.int .i64 y] = (l ++ [y]).map (fun x => Value.int .i64 x) := by simp
      rw [this, List.getElem?_map, hj]
      rfl
end
section
variable {ops : Array Oper} {o : Oper} {rest : List Oper} {a : Act} {X : World} {Q : Exit → Act → World → Prop}
theorem wl_append (hgd : o.guard = none) {s x : Operand} (ho : o.op = .call { callee := .builtin .append, args := #[s, x], argTypes := #[44, 44] }) {base : Nat} {v : Value} {l : List Int} (hv : a.eval s = v) (hI : IOwn base X v l) {b : Nat} {y : Int} (hx : a.eval x = .slice (some ⟨b, 0, none⟩) 1 1) (hy : X.cell? ⟨b, 0, none⟩ = some (.int .i64 y)) (hbase : base ≤ X.heap.size) (hl : l.length ≤ 1000)
    (h : ∀ v' Y, IOwn base Y v' (l ++ [y]) → Upd (fun k => base ≤ k) X Y → wpList Try.prog ops Q rest (a.put o.dst v') Y) : wpList Try.prog ops Q (o :: rest) a X := by
  refine wpList_plain hgd fun K hK' => ?_
  obtain ⟨v', w', hrun, h1, h2⟩ := IOwn.append (ty := o.type) hI hy hbase hl
  unfold Oper.wp
  simp [execOp, ho, resolve, invoke, builtin, hv, hx, hrun, Result.andThen]
  exact hK' _ _ (h v' w' h1 h2)
end
/-- How many are marked. -/
def cntT (ms : List Bool) : Nat := (ms.filter (fun b => b)).length
theorem cntT_set : ∀ {ms : List Bool} {i : Nat}, ms[i]? = some true → cntT ms = cntT (ms.set i false) + 1
  | [], i, h => by simp at h
  | b :: ms, 0, h => by
    simp at h
    subst h
    simp [cntT]
  | b :: ms, i + 1, h => by
    rw [List.getElem?_cons_succ] at h
    have := cntT_set h
    cases b <;> simp [cntT] at * <;> omega
/-- The victim: the first who isn't marked; those ahead of it lose their marks, and go to the end. -/
def vict : Nat → List Int → List Bool → Int × RG
  | _, [], ms => (0, ⟨[], ms⟩)
  | 0, x :: l, ms => (x, ⟨x :: l, ms⟩)
  | f + 1, x :: l, ms => if ms.getD x.toNat false = true then vict f (l ++ [x]) (ms.set x.toNat false) else (x, ⟨x :: l, ms⟩)
theorem vict_stop {f : Nat} {x : Int} {l : List Int} {ms : List Bool} (h : ms.getD x.toNat false = false) : vict f (x :: l) ms = (x, ⟨x :: l, ms⟩) := by
  cases f with
  | zero => rfl
  | succ f => unfold vict; rw [h]; rfl
def victR (r : RG) : Int × RG := vict (cntT r.ms) r.row r.ms
end Go.Proofs.Ytkbialmlddhclaa.Ck
