/- The document's row of sitters: Place, Without: walked. -/
import Derived.Test.YtkbialmlddhclaaCkChP
namespace Go.Proofs.Ytkbialmlddhclaa.Ck
open Go.RowKit Go.Proofs.YtkbialmlddhclaaW.PrintWords Go.Proofs.YtkbialmlddhclaaW.PrintMore
set_option linter.unusedSimpArgs false
set_option linter.unusedVariables false
abbrev Sit := Int × Bool
def flatS : List Sit → List Value
  | [] => []
  | a :: l => .int .i64 a.1 :: .bool a.2 :: flatS l
theorem flatS_length : ∀ l, (flatS l).length = l.length * 2
  | [] => rfl
  | a :: l => by simp only [flatS, List.length_cons, flatS_length l]; omega
theorem flatS_append : ∀ a b, flatS (a ++ b) = flatS a ++ flatS b
  | [], b => rfl
  | x :: a, b => by simp only [flatS, List.cons_append, flatS_append a b]
theorem flatS_one : ∀ l, ∀ u ∈ flatS l, u.oneCell' = true
  | [], u, h => by cases h
  | a :: l, u, h => by
    simp only [flatS, List.mem_cons] at h
    rcases h with rfl | rfl | h
    · rfl
    · rfl
    · exact flatS_one l u h
theorem flatS_at : ∀ (l : List Sit) (i : Nat) (a : Sit), l[i]? = some a → (flatS l)[i * 2]? = some (.int .i64 a.1) ∧ (flatS l)[i * 2 + 1]? = some (.bool a.2)
  | [], i, a, h => by simp at h
  | b :: l, 0, a, h => by
    simp at h
    subst h
    exact ⟨rfl, rfl⟩
  | b :: l, i + 1, a, h => by
    rw [List.getElem?_cons_succ] at h
    have := flatS_at l i a h
    rw [show (i + 1) * 2 = i * 2 + 1 + 1 by omega, show i * 2 + 1 + 1 + 1 = (i * 2 + 1) + 1 + 1 by omega]
    simp only [flatS, List.getElem?_cons_succ]
    exact this
theorem flatS_set : ∀ (l : List Sit) (i : Nat) (a : Sit) (b : Bool), l[i]? = some a → (flatS l).set (i * 2 + 1) (.bool b) = flatS (l.set i (a.1, b))
  | [], i, a, b, h => by simp at h
  | x :: l, 0, a, b, h => by
    simp at h
    subst h
    rfl
  | x :: l, i + 1, a, b, h => by
    rw [List.getElem?_cons_succ] at h
    rw [show (i + 1) * 2 + 1 = (i * 2 + 1) + 1 + 1 by omega]
    simp only [flatS, List.set_cons_succ, flatS_set l i a b h]
theorem flatS_take : ∀ (l : List Sit) (n : Nat), flatS (l.take n) = (flatS l).take (n * 2)
  | [], n => by simp [flatS]
  | a :: l, 0 => rfl
  | a :: l, n + 1 => by
    rw [show (n + 1) * 2 = n * 2 + 1 + 1 by omega]
    simp only [List.take_succ_cons, flatS, flatS_take l n]
theorem flatS_drop : ∀ (l : List Sit) (n : Nat), flatS (l.drop n) = (flatS l).drop (n * 2)
  | [], n => by simp [flatS]
  | a :: l, 0 => rfl
  | a :: l, n + 1 => by
    rw [show (n + 1) * 2 = n * 2 + 1 + 1 by omega]
    simp only [List.drop_succ_cons, flatS, flatS_drop l n]
/-- A row of sitters of one's own. -/
def SRow (w : World) (base : Nat) (v : Value) (x : List Sit) : Prop := w.ownsRow base TS 2 v x.length (flatS x)
theorem info_sit : (Try.prog.info? TS).map (fun i => (i.zero, i.size, i.bytes)) = some (some (.agg #[.int .i64 0, .bool false]), 2, 16) := by kernel_rfl
section
variable {w w' : World} {base : Nat} {v : Value} {x : List Sit}
theorem SRow.nil (w : World) (base : Nat) : SRow w base (.slice none 0 0) [] := ⟨rfl, .inl ⟨rfl, rfl⟩⟩
theorem SRow.lower {base' : Nat} (h : SRow w base v x) (hb : base' ≤ base) : SRow w base' v x := ⟨h.1, h.2.imp id (fun ⟨g, cap, cur, h1, h2, h3⟩ => ⟨g, cap, cur, h1, Nat.le_trans hb h2, h3⟩)⟩
theorem SRow.step (h : SRow w base v x) (hk : ∀ (k : Nat) (cs : Array Value), base ≤ k → w.heap[k]? = some (.cells cs TS (0, 0)) → w'.heap[k]? = w.heap[k]?) : SRow w' base v x := by
  refine ⟨h.1, h.2.imp id ?_⟩
  rintro ⟨g, cap, cur, h1, h2, h3, h4⟩
  exact ⟨g, cap, cur, h1, h2, (hk g cur h2 h3).trans h3, h4⟩
theorem SRow.below (h : SRow w base v x) (hb : Below w.heap.size w w') : SRow w' base v x := h.step (fun k cs _ hc => hb.block k (blt hc))
/-- Its cells. -/
theorem SRow.cels (h : SRow w base v x) : ∃ A c, v = .slice A x.length c ∧ x.length ≤ c ∧ x.length ≤ maxLen ∧ (0 < x.length → ∃ (g : Nat) (cur : Array Value), A = some ⟨g, 0, none⟩ ∧ base ≤ g ∧ w.heap[g]? = some (.cells cur TS (0, 0)) ∧ ∀ (j : Nat) (u : Value), (flatS x)[j]? = some u → cur[j]? = some u) := by
  rcases h.2 with ⟨rfl, h0⟩ | ⟨g, cap, cur, rfl, hb, hg, hle, hmx, hs, ht⟩
  · exact ⟨none, 0, by rw [h0], by omega, by omega, fun h => by omega⟩
  · refine ⟨_, cap, rfl, hle, Nat.le_trans hle hmx, fun _ => ⟨g, cur, rfl, hb, hg, fun j u hj => ?_⟩⟩
    have hl := (List.getElem?_eq_some_iff.1 hj).1
    rw [flatS_length] at hl
    rw [← ht, List.getElem?_take, if_pos hl] at hj
    simpa using hj
theorem SRow.at_ (h : SRow w base v x) {A : Option Addr} {c : Nat} (hv : v = .slice A x.length c) {k : Nat} {s : Sit} (hs : x[k]? = some s) : ∃ g, A = some ⟨g, 0, none⟩ ∧ base ≤ g ∧ w.cell? ⟨g, k * 2, none⟩ = some (.int .i64 s.1) ∧ w.cell? ⟨g, k * 2 + 1, none⟩ = some (.bool s.2) ∧ ∀ j, w.frozen? ⟨g, j, none⟩ = false := by
  obtain ⟨A', c', hv', _, _, hc⟩ := h.cels
  rw [hv] at hv'
  injection hv' with e1 e2 e3
  obtain ⟨g, cur, hA, hb, hg, hcell⟩ := hc (by have := (List.getElem?_eq_some_iff.1 hs).1; omega)
  obtain ⟨h1, h2⟩ := flatS_at x k s hs
  exact ⟨g, by rw [e1, hA], hb, by rw [bcell hg]; exact hcell _ _ h1, by rw [bcell hg]; exact hcell _ _ h2, fun j => bfrozen hg j⟩
def placeI (o : Int) (x : List Sit) : Int := indexI o (x.map (fun s => s.1))
set_option maxHeartbeats 2000000 in
set_option maxRecDepth 100000 in
theorem Place_any (h : SRow w base v x) (o : Int) : Calls Try.prog 48 #[v, .int .i64 o] w fun e w' => e = .returned (.int .i64 (placeI o x)) ∧ Below w.heap.size w w' := by
  obtain ⟨A, c, rfl, hc, hmx, -⟩ := h.cels
  obtain ⟨n, hn⟩ : ∃ n, n = x.length := ⟨_, rfl⟩
  have hat := fun (X : World) (hX : Below w.heap.size w X) (k : Nat) (s : Sit) (hs : x[k]? = some s) => (h.below hX).at_ rfl hs
  have HAT := Lib.hid hat
  have HN := Lib.hid hn
  rw [← hn] at hmx hc
  rw [← hn]
  have hmx2 : n ≤ 9223372036854775807 := hmx
  clear hat h hn hmx
  go_enter Try.func48, Try.ntmps48
  go_wp2
  go_loopw [9] (fun v9 wr => ∃ k : Nat, k ≤ n ∧ v9 = .int .i64 (k : Int) ∧ (∀ i, i < k → (x.map (fun s => s.1))[i]? ≠ some o) ∧ Below w.heap.size w wr) (fun v9 _ => n - (intOf v9).toNat)
  case atStart => exact ⟨0, Nat.zero_le _, rfl, fun i hi => by omega, Below.refl _ _⟩
  case round =>
    obtain ⟨k, hk, rfl, hno, hb⟩ := hrel
    have HK := Lib.hid hno
    have HB := Aside0.mk hb
    clear hno hb
    by_cases hlt : k < n
    · obtain ⟨s, hs⟩ : ∃ s, x[k]? = some s := ⟨_, List.getElem?_eq_getElem (by have := HN.out; omega)⟩
      obtain ⟨g, rfl, _, k1, k2, _⟩ := HAT.out wr HB.out k s hs
      have hmap : (x.map (fun s => s.1))[k]? = some s.1 := by rw [List.getElem?_map, hs]; rfl
      have HX := Lib.hid hmap
      have i0 : (0 : Int) ≤ (k : Int) := by omega
      have i1 : (k : Int) < (n : Int) := by omega
      obtain ⟨so, sm⟩ := s
      simp only at k1 k2 HX
      clear hs hmap
      by_cases hxa : so = o
      · have e1 : (so == o) = true := by simpa using hxa
        have HXA := Lib.hid hxa
        clear hxa
        go_wp2
        go_ret
        refine ⟨?_, below_alloc HB.out _⟩
        have hpl : placeI o x = (k : Int) := indexI_some (by rw [HX.out, HXA.out]) HK.out
        rw [hpl]
        rfl
      · have e1 : (so == o) = false := by simpa using hxa
        have HXA := Lib.hid hxa
        clear hxa
        go_wp2
        refine ⟨⟨k + 1, by omega, by go_num, ?_⟩, by simp [intOf]; omega⟩
        refine (show (∀ i, i < k + 1 → (x.map (fun s => s.1))[i]? ≠ some o) ∧ _ from ⟨fun i hi => ?_, below_alloc HB.out _⟩)
        by_cases hik : i = k
        · rw [hik, HX.out]
          exact fun he => HXA.out (Option.some.inj he)
        · exact HK.out i (by omega)
    · obtain rfl : k = n := by omega
      go_wp2
      go_ret
      refine ⟨?_, HB.out⟩
      have hpl : placeI o x = -1 := indexI_none (fun i hi => HK.out i (by have := HN.out; rw [List.length_map] at hi; omega))
      rw [hpl]
      rfl
end
end Go.Proofs.Ytkbialmlddhclaa.Ck
