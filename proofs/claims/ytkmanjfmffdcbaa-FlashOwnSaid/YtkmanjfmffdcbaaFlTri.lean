/- The driver's device, its copy and the document's device in one memory. -/
import Derived.Test.YtkmanjfmffdcbaaFlNil
import Derived.Laws.AppendOwnNone
namespace Go.Proofs.Ytkmanjfmffdcbaa.Fl
open Go.RowKit Go.Proofs.YtkmanjfmffdcbaaW.PrintWords Go.Proofs.YtkmanjfmffdcbaaW.PrintMore Go.Maps
set_option linter.unusedSimpArgs false
set_option linter.unusedVariables false
def Tri (K : Nat → Prop) (N0 p x c : Nat) (D : PD) (s : Int × Int × Int) (ps : List Pg) (E : PD) (w : World) : Prop :=
  ∃ okD okX okC : Nat → Prop, DevIs N0 p D okD w ∧ RefIs N0 x s ps okX w ∧ DevIs N0 c E okC w ∧ (∀ k, okD k → okX k → False) ∧ (∀ k, okC k → okX k → False) ∧ (∀ k, okC k → okD k → ∃ cs fr, w.heap[k]? = some (.cells cs TB fr)) ∧
    (∀ k, okD k → N0 ≤ k ∧ k < w.heap.size) ∧ (∀ k, okX k → N0 ≤ k ∧ k < w.heap.size) ∧ (∀ k, okC k → N0 ≤ k ∧ k < w.heap.size) ∧ N0 ≤ w.heap.size ∧ (∀ k, K k → k < w.heap.size ∧ ¬ okD k ∧ ¬ okX k ∧ ¬ okC k)
section
variable {K : Nat → Prop} {N0 p x c : Nat} {D E D' : PD} {s : Int × Int × Int} {ps : List Pg} {w w' : World} {f : FuncId} {args : Array Value} {res : Ending}
theorem Two.copy (h : Two K N0 p x D s ps w) (hm : D.dirty.length < 1000000) : Calls Try.prog 42 #[.pointer (some ⟨p, 0, none⟩)] w fun e w' => ∃ c, e = .returned (.pointer (some ⟨c, 0, none⟩)) ∧ Tri (fun _ => False) N0 p x c D s ps D w' ∧ Below w.heap.size w w' := by
  obtain ⟨okD, okX, hD, hX, hd, h1, h2, h0, hK⟩ := h
  refine (Copy_any hD.bound hm).mono fun e w' ⟨c, he, _, hC, hb⟩ => ⟨c, he, ⟨_, _, _, hD.bound.below hb, hX.bound.below hb, hC.bound, fun k h1 h2 => hd k h1.1 h2.1, fun k h1 h2 => ?_, fun k h1 h2 => ?_, fun k h => ⟨h.2.1, Nat.lt_of_lt_of_le h.2.2 hb.size⟩, fun k h => ⟨h.2.1, Nat.lt_of_lt_of_le h.2.2 hb.size⟩, fun k h => h.2, Nat.le_trans h0 hb.size, fun k hk => hk.elim⟩, hb⟩
  · rcases h1.1 with h | ⟨h, _⟩
    · have := h2.2.2; omega
    · exact hd k h.1 h2.1
  · rcases h1.1 with h | ⟨_, cs, fr, e⟩
    · have := h2.2.2; omega
    · exact ⟨cs, fr, (hb.block k (blt e)).trans e⟩
theorem Tri.dev (h : Tri K N0 p x c D s ps E w) (hc : ∀ ok, DevIs N0 p D ok w → Calls Try.prog f args w fun e w' => e = res ∧ DevIs N0 p D' (fun k => ok k ∨ w.heap.size ≤ k) w' ∧ Upd (Mut ok w) w w') :
    Calls Try.prog f args w fun e w' => e = res ∧ Tri K N0 p x c D' s ps E w' ∧ Below N0 w w' ∧ Kept K w w' := by
  obtain ⟨okD, okX, okC, hD, hX, hC, d1, d2, d3, n1, n2, n3, h0, hK⟩ := h
  refine (hc okD hD).mono fun e w1 ⟨he, hD1, hu⟩ => ⟨he, ⟨_, okX, okC, hD1.bound, hX.upd hu (fun k hk hm => d1 k hm.1 hk), hC.step (fun k hk hlt => hu.block k hlt (fun hm => ?_)), ?_, d2, ?_, ?_, ?_, ?_, ?_, ?_⟩, upd_below hu h0 (fun k h => (n1 k h).1), fun k hk => hu.block k (hK k hk).1 (fun h => (hK k hk).2.1 h.1)⟩
  · obtain ⟨cs, fr, e⟩ := d3 k hk hm.1
    exact hm.2 cs fr e
  · exact fun k hk hx => hk.1.elim (fun h => d1 k h hx) (fun h => by have := (n2 k hx).2; omega)
  · intro k hk hd
    rcases hd.1 with h | h
    · obtain ⟨cs, fr, e⟩ := d3 k hk h
      exact ⟨cs, fr, (hu.block k (blt e) (fun hm => hm.2 cs fr e)).trans e⟩
    · have := (n3 k hk).2; omega
  · exact fun k hk => hk.2
  · exact fun k hk => ⟨(n2 k hk).1, Nat.lt_of_lt_of_le (n2 k hk).2 hu.size⟩
  · exact fun k hk => ⟨(n3 k hk).1, Nat.lt_of_lt_of_le (n3 k hk).2 hu.size⟩
  · exact Nat.le_trans h0 hu.size
  · exact fun k hk => ⟨Nat.lt_of_lt_of_le (hK k hk).1 hu.size, fun h => h.1.elim (hK k hk).2.1 (fun h => by have := (hK k hk).1; omega), (hK k hk).2.2⟩
/-- What changes beside the three leaves them. -/
theorem Tri.beside {S : Nat → Prop} (h : Tri K N0 p x c D s ps E w) (hu : Upd S w w') (hS : ∀ k, S k → k < w.heap.size → K k) : Tri K N0 p x c D s ps E w' := by
  obtain ⟨okD, okX, okC, hD, hX, hC, d1, d2, d3, n1, n2, n3, h0, hK⟩ := h
  have hs := hu.size
  refine ⟨okD, okX, okC, hD.step (fun k hk hlt => hu.block k hlt (fun h => (hK k (hS k h hlt)).2.1 hk)), hX.step (fun k hk hlt => hu.block k hlt (fun h => (hK k (hS k h hlt)).2.2.1 hk)), hC.step (fun k hk hlt => hu.block k hlt (fun h => (hK k (hS k h hlt)).2.2.2 hk)), d1, d2, fun k h1 h2 => ?_, fun k h => ⟨(n1 k h).1, Nat.lt_of_lt_of_le (n1 k h).2 hs⟩, fun k h => ⟨(n2 k h).1, Nat.lt_of_lt_of_le (n2 k h).2 hs⟩, fun k h => ⟨(n3 k h).1, Nat.lt_of_lt_of_le (n3 k h).2 hs⟩, Nat.le_trans h0 hs, fun k hk => ⟨Nat.lt_of_lt_of_le (hK k hk).1 hs, (hK k hk).2⟩⟩
  obtain ⟨cs, fr, e⟩ := d3 k h1 h2
  exact ⟨cs, fr, (hu.block k (blt e) (fun h => (hK k (hS k h (blt e))).2.1 h2)).trans e⟩
theorem Tri.below (h : Tri K N0 p x c D s ps E w) (hb : Below w.heap.size w w') : Tri K N0 p x c D s ps E w' := h.beside (Upd.ofBelow hb (fun _ => False)) (fun _ h _ => h.elim)
/-- What is new belongs to none of the three. -/
theorem Tri.keep (h : Tri K N0 p x c D s ps E w) (hb : Below w.heap.size w w') : Tri (fun k => w.heap.size ≤ k ∧ k < w'.heap.size) N0 p x c D s ps E w' := by
  have hs := hb.size
  obtain ⟨okD, okX, okC, hD, hX, hC, d1, d2, d3, n1, n2, n3, h0, hK⟩ := h
  refine ⟨okD, okX, okC, hD.below hb, hX.below hb, hC.below hb, d1, d2, fun k h1 h2 => ?_, fun k h => ⟨(n1 k h).1, Nat.lt_of_lt_of_le (n1 k h).2 hs⟩, fun k h => ⟨(n2 k h).1, Nat.lt_of_lt_of_le (n2 k h).2 hs⟩, fun k h => ⟨(n3 k h).1, Nat.lt_of_lt_of_le (n3 k h).2 hs⟩, Nat.le_trans h0 hs, fun k hk => ⟨hk.2, fun h => ?_, fun h => ?_, fun h => ?_⟩⟩
  · obtain ⟨cs, fr, e⟩ := d3 k h1 h2
    exact ⟨cs, fr, (hb.block k (blt e)).trans e⟩
  · have := (n1 k h).2; omega
  · have := (n2 k h).2; omega
  · have := (n3 k h).2; omega
theorem Tri.px (h : Tri K N0 p x c D s ps E w) : Two (fun _ => False) N0 p x D s ps w := by
  obtain ⟨okD, okX, okC, hD, hX, hC, d1, d2, d3, n1, n2, n3, h0, hK⟩ := h
  exact ⟨okD, okX, hD, hX, d1, fun k h => (n1 k h).1, fun k h => (n2 k h).1, h0, fun k h => h.elim⟩
theorem Tri.cx (h : Tri K N0 p x c D s ps E w) : Two (fun _ => False) N0 c x E s ps w := by
  obtain ⟨okD, okX, okC, hD, hX, hC, d1, d2, d3, n1, n2, n3, h0, hK⟩ := h
  exact ⟨okC, okX, hC, hX, d2, fun k h => (n3 k h).1, fun k h => (n2 k h).1, h0, fun k h => h.elim⟩
theorem Tri.write (h : Tri K N0 p x c D s ps E w) (a b : Int) (A : Option Addr) (cc : Nat) (l : List Int) (hl : kB.C w A l.length l) (hm : D.dirty.length < 1000000) :
    Calls Try.prog 34 #[.pointer (some ⟨p, 0, none⟩), .int .i64 a, .int .i64 b, .slice A l.length cc] w fun e w' => e = .returned (.int .i64 (writeE D a b l)) ∧ Tri K N0 p x c (writeD D a b l) s ps E w' ∧ Below N0 w w' ∧ Kept K w w' :=
  h.dev (fun ok hD => Write_any hD a b A cc l hl hm)
end
/-- A row of bytes in a block of one's own: what stands in it does not matter. -/
def Mine (w : World) (K : Nat → Prop) (v : Value) (n : Nat) : Prop := ∃ A c, v = .slice A n c ∧ (0 < n → ∃ (g off : Nat) (cur : Array Value), A = some ⟨g, off, none⟩ ∧ K g ∧ w.heap[g]? = some (.cells cur TB (0, 0)) ∧ ∀ j, j < n → ∃ z, cur[off + j]? = some (.int .u8 z))
theorem Mine.step {w w' : World} {K K' : Nat → Prop} {v : Value} {n : Nat} (h : Mine w K v n) (hk : ∀ k, K k → K' k) (hm : ∀ k, K k → k < w.heap.size → w'.heap[k]? = w.heap[k]?) : Mine w' K' v n := by
  obtain ⟨A, c, e, h1⟩ := h
  refine ⟨A, c, e, fun hn => ?_⟩
  obtain ⟨g, off, cur, e2, h2, h3, h4⟩ := h1 hn
  exact ⟨g, off, cur, e2, hk g h2, (hm g h2 (blt h3)).trans h3, h4⟩
theorem Row.mine {w : World} {base : Nat} {ok : Nat → Prop} {v : Value} {l : List Int} (h : Row w base ok v l) : Mine w (fun k => base ≤ k ∧ k < w.heap.size) v l.length := by
  obtain ⟨A, c, h1, h2, h3, h4⟩ := h
  refine ⟨A, c, h1, fun hn => ?_⟩
  rcases h4 with ⟨_, rfl⟩ | ⟨g, off, cs, e, hg, ho, hh, hc⟩
  · simp at hn
  · exact ⟨g, off, cs, e, ⟨hg, blt hh⟩, hh, fun j hj => ⟨_, hc j _ (List.getElem?_eq_getElem hj)⟩⟩
theorem own_row {w : World} {base n : Nat} {v : Value} {l : List Int} (hn : n = l.length) (h : w.ownsRow base TB 1 v n (l.map (Value.int .u8))) : Row w base (fun k => base ≤ k) v l := by
  subst hn
  obtain ⟨_, h2⟩ := h
  rcases h2 with ⟨rfl, h3⟩ | ⟨g, cap, cur, rfl, hg, hh, hle, hm, hs, ht⟩
  · rw [List.eq_nil_of_length_eq_zero h3]
    exact Row.nil _ _ _
  · refine ⟨some ⟨g, 0, none⟩, cap, rfl, hle, Nat.le_trans hle hm, .inr ⟨g, 0, cur, rfl, hg, hg, hh, fun j x hj => ?_⟩⟩
    have h5 : (l.map (Value.int .u8))[j]? = some (.int .u8 x) := by simp [hj]
    rw [← ht, List.getElem?_take] at h5
    split at h5
    · rw [Nat.zero_add]
      simpa using h5
    · cases h5
/-- One byte of such a row set: the row stands, all else too. -/
theorem mine_set {w : World} {g off n : Nat} {cur : Array Value} {z : Int} {k : Nat} (hh : w.heap[g]? = some (.cells cur TB (0, 0))) (hc : ∀ j, j < n → ∃ z, cur[off + j]? = some (.int .u8 z)) :
    ∃ cur2, (w.setCell ⟨g, off + k, none⟩ (.int .u8 z)).heap[g]? = some (.cells cur2 TB (0, 0)) ∧ ∀ j, j < n → ∃ z, cur2[off + j]? = some (.int .u8 z) := by
  refine ⟨_, bset hh _ _, fun j hj => ?_⟩
  obtain ⟨y, hy⟩ := hc j hj
  have hlt := (Array.getElem?_eq_some_iff.1 hy).1
  by_cases e : off + k = off + j
  · rw [← e] at hlt ⊢
    exact ⟨z, by simp [hlt]⟩
  · exact ⟨y, by rw [Array.getElem?_setIfInBounds_ne e]; exact hy⟩
/-- append([]byte(nil), b...): a row of one's own, with b's bytes. -/
theorem append_bytes {w : World} {ops : Array Oper} {rest : List Oper} {o : Oper} {a : Act} {Q : Exit → Act → World → Prop} (hgd : o.guard = none) (x : Operand)
    (ho : o.op = .call { callee := .builtin .append, args := #[.const (.slice none 0 0), x], argTypes := #[22, 22] }) (B : Option Addr) (m d : Nat) (bs : List Int) (hx : a.eval x = .slice B m d) (hB : B = none → d = 0) (hC : kB.C w B m bs) (hm : m = bs.length) (hl : m ≤ 300)
    (h : ∀ A1 c1 w', Row w' w.heap.size (fun k => w.heap.size ≤ k) (.slice A1 m c1) bs → Below w.heap.size w w' → wpList Try.prog ops Q rest (a.put o.dst (.slice A1 m c1)) w') : wpList Try.prog ops Q (o :: rest) a w := by
  obtain ⟨i0, hi, hz0, hz1, hz2⟩ := info_parts info_u8
  have HO : w.ownsRow w.heap.size TB 1 (.slice none 0 0) 0 [] := ⟨rfl, .inl ⟨rfl, rfl⟩⟩
  cases B with
  | none =>
    obtain rfl := hB rfl
    have hm0 : m = 0 := by
      rcases Nat.eq_zero_or_pos m with h1 | h1
      · exact h1
      · obtain ⟨ad, e, _⟩ := hC.2.2 h1
        cases e
    subst hm0
    have hbs : bs = [] := List.eq_nil_of_length_eq_zero hm.symm
    refine wpList_append_own_none hgd (.const (.slice none 0 0)) x 22 ho w.heap.size TB i0 1 Try.underlying22 hi (.slice none 0 0) 0 [] rfl HO hx (h none 0 w ?_ (Below.refl _ _))
    rw [hbs]
    exact Row.nil _ _ _
  | some ad =>
    have hnews : ∀ j u, (bs.map (Value.int .u8))[j]? = some u → w.cell? (ad.add j) = some u := fun j u hj => by
      have hjl : j < bs.length := by
        have := (List.getElem?_eq_some_iff.1 hj).1
        simpa using this
      subst hm
      obtain ⟨ad2, e, h2⟩ := C_cells hC (by omega)
      cases e
      exact h2 j u hj
    refine wpList_append_own w hgd (.const (.slice none 0 0)) x 22 ho w.heap.size TB i0 _ 1 1 Try.underlying22 hi hz0 hz1 hz2 rfl (by decide) (.slice none 0 0) 0 [] rfl HO ad m d (bs.map (Value.int .u8)) hx (by simp [hm]) hnews (u8_one bs) (by simp only [maxLen]; omega) (by omega) (Nat.le_refl _) ?_
    intro v' w' h1 h2 _
    rw [Nat.zero_add, List.nil_append] at h1
    have hb : Below w.heap.size w w' := (Below.refl _ w).grown h2 (Nat.le_refl _) (fun _ h => by cases h)
    have hr := own_row hm h1
    obtain ⟨A1, c1, e, _⟩ := id hr
    subst e
    rw [← hm] at hr ⊢
    exact h A1 c1 w' hr hb
end Go.Proofs.Ytkmanjfmffdcbaa.Fl
