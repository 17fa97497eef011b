/- A ring's cells as one block. -/
import Derived.Test.YtkbialmlddhclaaCkRing
import Derived.Laws.Rows
import Derived.Laws.Tables
namespace Go.Proofs.Ytkbialmlddhclaa.Ck
open Go.RowKit Go.Proofs.YtkbialmlddhclaaW.PrintWords Go.Proofs.YtkbialmlddhclaaW.PrintMore
set_option linter.unusedSimpArgs false
set_option linter.unusedVariables false
theorem size_alloc (w : World) (o : Obj) : (w.alloc o).heap.size = w.heap.size + 1 := by
  show (w.heap.push o).size = _
  rw [Array.size_push]
theorem pair_blk (w : World) (o o' : Obj) : ((w.alloc o).alloc o').heap[w.heap.size]? = some o ∧ ((w.alloc o).alloc o').heap[w.heap.size + 1]? = some o' := by
  have h1 := blk_new w o
  have h2 := blk_new (w.alloc o) o'
  have hs := size_alloc w o
  rw [hs] at h2
  exact ⟨((below_alloc (Below.refl _ _) _).block _ (by rw [hs]; omega)).trans h1, h2⟩
theorem ringC_size {v : Value} {ms : List Bool} (h : ms.length = 16) : (ringC v ms).toArray.size = 17 := by simp [ringC, h]
theorem ringC_get0 (v : Value) (ms : List Bool) : (ringC v ms).toArray[0]? = some v := rfl
theorem ringC_get {v : Value} {ms : List Bool} {n : Nat} {x : Bool} (h : ms[n]? = some x) : (ringC v ms).toArray[1 + n]? = some (.bool x) := by
  rw [Nat.add_comm]
  simp [ringC, h]
theorem ringC_set0 (v v' : Value) (ms : List Bool) : (ringC v ms).toArray.setIfInBounds 0 v' = (ringC v' ms).toArray := by simp [ringC]
theorem ringC_set (v : Value) (ms : List Bool) (n : Nat) (x : Bool) : (ringC v ms).toArray.setIfInBounds (1 + n) (.bool x) = (ringC v (ms.set n x)).toArray := by
  rw [Nat.add_comm]
  simp [ringC, List.map_set]
theorem ringC_one {v : Value} {ms : List Bool} (h : v.oneCell' = true) : (ringC v ms).toArray.all (·.oneCell') = true := by
  rw [Array.all_eq_true_iff_forall_mem]
  intro x hx
  simp only [ringC, List.mem_toArray, List.mem_cons, List.mem_map] at hx
  rcases hx with rfl | ⟨b, _, rfl⟩
  · exact h
  · rfl
theorem RowV.one {w : World} {v : Value} {l : List Int} (h : RowV w v l) : v.oneCell' = true := by
  obtain ⟨A, c, rfl, _⟩ := h
  rfl
theorem info_ring : (Try.prog.info? TR).map (·.size) = some 17 := by kernel_rfl
section
variable {ops : Array Oper} {o : Oper} {rest : List Oper} {a : Act} {X : World} {Q : Exit → Act → World → Prop}
theorem wl_load (hgd : o.guard = none) {x : Operand} (ho : o.op = .load TR x) {g : Nat} (hx : a.eval x = .pointer (some ⟨g, 0, none⟩)) {v : Value} {ms : List Bool} (hg : X.heap[g]? = some (.cells (ringC v ms).toArray TR (0, 0))) (h16 : ms.length = 16)
    (h : wpList Try.prog ops Q rest (a.put o.dst (ringV v ms)) X) : wpList Try.prog ops Q (o :: rest) a X :=
  wpList_plain hgd fun K hK => wp_load_row TR x ho g hx TR _ (0, 0) _ hg Try.underlying47 rfl (by rw [info_ring, ringC_size h16]) (hK _ _ h)
theorem wl_loadG (hw : Region.wanted o (yielded ops a.tmps) = true) {x : Operand} (ho : o.op = .load TR x) {g : Nat} (hx : a.eval x = .pointer (some ⟨g, 0, none⟩)) {v : Value} {ms : List Bool} (hg : X.heap[g]? = some (.cells (ringC v ms).toArray TR (0, 0))) (h16 : ms.length = 16)
    (h : wpList Try.prog ops Q rest (a.put o.dst (ringV v ms)) X) : wpList Try.prog ops Q (o :: rest) a X :=
  wpList_step fun K hK => by
    simp only [hw, if_true]
    exact wp_load_row TR x ho g hx TR _ (0, 0) _ hg Try.underlying47 rfl (by rw [info_ring, ringC_size h16]) (hK _ _ h)
theorem setRow_upd {w : World} {g : Nat} (cs : Array Value) : Upd (fun k => k = g) w (w.setRow g cs) :=
  ⟨rfl, rfl, rfl, by simp [World.setRow], fun k _ hn => by
    have hne : ¬ g = k := fun e => hn e.symm
    simp only [World.setRow, Array.getElem?_modify, if_neg hne]⟩
theorem setRow_blk {w : World} {g : Nat} {old cs : Array Value} {t : TypeId} (h : w.heap[g]? = some (.cells old t (0, 0))) : (w.setRow g cs).heap[g]? = some (.cells cs t (0, 0)) := by
  simp [World.setRow, Array.getElem?_modify, h]
theorem wl_store (hgd : o.guard = none) {x y : Operand} (ho : o.op = .store TR x y) {g : Nat} {v : Value} {ms : List Bool} (hx : a.eval x = .pointer (some ⟨g, 0, none⟩)) (hy : a.eval y = ringV v ms) (hv : v.oneCell' = true) {old : Array Value} (hg : X.heap[g]? = some (.cells old TR (0, 0))) (hold : old.size = 17) (h16 : ms.length = 16)
    (h : ∀ Y, Y.heap[g]? = some (.cells (ringC v ms).toArray TR (0, 0)) → Upd (fun k => k = g) X Y → wpList Try.prog ops Q rest (a.put o.dst undef) Y) : wpList Try.prog ops Q (o :: rest) a X :=
  wpList_plain hgd fun K hK => wp_store_row TR x y ho g _ hx hy TR old hg (by rw [info_ring, ringC_size h16]) (by rw [hold, ringC_size h16]) (ringC_one hv) (hK _ _ (h _ (setRow_blk hg) (setRow_upd _)))
theorem st_store {K : Act → World → Prop} (hw : Region.wanted o (yielded ops a.tmps) = true) {x y : Operand} (ho : o.op = .store TR x y) {g : Nat} {v : Value} {ms : List Bool} (hx : a.eval x = .pointer (some ⟨g, 0, none⟩)) (hy : a.eval y = ringV v ms) (hv : v.oneCell' = true) {old : Array Value} (hg : X.heap[g]? = some (.cells old TR (0, 0))) (hold : old.size = 17) (h16 : ms.length = 16)
    (h : ∀ Y, Y.heap[g]? = some (.cells (ringC v ms).toArray TR (0, 0)) → Upd (fun k => k = g) X Y → K (a.put o.dst undef) Y) : if Region.wanted o (yielded ops a.tmps) = true then Oper.wp Try.prog o a X K Q else K (a.put o.dst undef) X := by
  rw [if_pos hw]
  exact wp_store_row TR x y ho g _ hx hy TR old hg (by rw [info_ring, ringC_size h16]) (by rw [hold, ringC_size h16]) (ringC_one hv) (h _ (setRow_blk hg) (setRow_upd _))
end
theorem res_ring {fn : Func} {t : Tmp} (h : fn.results = #[.cell t TR]) (tmps : Array Value) {z : Nat} (ht : tmps.getD t undef = .pointer (some ⟨z, 0, none⟩)) {X : World} {v : Value} {ms : List Bool} (hg : X.heap[z]? = some (.cells (ringC v ms).toArray TR (0, 0))) (h16 : ms.length = 16) :
    (results fn tmps).run Try.prog X = .ok (ringV v ms) X := results_cell_row h tmps X z TR _ (0, 0) _ ht hg Try.underlying47 rfl (by rw [info_ring, ringC_size h16])
def zeroC : List Value := ringC (.slice none 0 0) (List.replicate 16 false)
theorem RingIs.of {w : World} {v : Value} {r : RG} (h : RowV w v r.row) (h16 : r.ms.length = 16) : RingIs w (ringV v r.ms) r := ⟨v, rfl, h, h16⟩
theorem RingIs.cells {w : World} {V : Value} {r : RG} (h : RingIs w V r) : ∃ cs v, V = .agg cs ∧ cs = (ringC v r.ms).toArray ∧ RowV w v r.row ∧ r.ms.length = 16 := by
  obtain ⟨v, rfl, h1, h2⟩ := h
  exact ⟨_, v, rfl, rfl, h1, h2⟩
abbrev ZR : Obj := .cells #[.slice none 0 0, .bool false, .bool false, .bool false, .bool false, .bool false, .bool false, .bool false, .bool false, .bool false, .bool false, .bool false, .bool false, .bool false, .bool false, .bool false, .bool false] TR
theorem box_pair {w : World} {cs : Array Value} : ∃ W, W = (w.alloc (.cells cs TR)).alloc (.cells #[.slice none 0 0, .bool false, .bool false, .bool false, .bool false, .bool false, .bool false, .bool false, .bool false, .bool false, .bool false, .bool false, .bool false, .bool false, .bool false, .bool false, .bool false] TR) ∧ W.heap[w.heap.size]? = some (.cells cs TR (0, 0)) ∧ W.heap[w.heap.size + 1]? = some ZR ∧ Below w.heap.size w W ∧ W.heap.size = w.heap.size + 2 :=
  ⟨_, rfl, (pair_blk w _ _).1, (pair_blk w _ _).2, below_alloc (below_alloc (Below.refl _ _) _) _, by rw [size_alloc, size_alloc]⟩
/-- A row above a base stays where only what is below it changes. -/
theorem row_far {w w' : World} {base : Nat} {S : Nat → Prop} {v : Value} {l : List Int} (h : kI.R TI w base (fun _ => True) v l) (hu : Upd S w w') (hS : ∀ k, S k → k < base) : kI.R TI w' base (fun _ => True) v l :=
  Kd.R_mono (Kd.R_move (Kd.R_bound h) (fun k hk => hu.block k hk.2.2.1 (fun hs => by have := hS k hs; have := hk.2.1; omega))) (fun _ _ => trivial)
end Go.Proofs.Ytkbialmlddhclaa.Ck
