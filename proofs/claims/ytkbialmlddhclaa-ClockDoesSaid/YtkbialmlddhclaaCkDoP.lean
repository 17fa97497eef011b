/- The ring and the document's row go alike: in lists alone. -/
import Derived.Test.YtkbialmlddhclaaCkSit3
namespace Go.Proofs.Ytkbialmlddhclaa.Ck
set_option linter.unusedSimpArgs false
set_option linter.unusedVariables false
theorem set_same {α : Type} : ∀ {l : List α} {n : Nat} {a : α}, l[n]? = some a → l.set n a = l
  | [], n, a, h => by simp at h
  | b :: l, 0, a, h => by
    simp at h
    rw [h]
    rfl
  | b :: l, n + 1, a, h => by
    rw [List.getElem?_cons_succ] at h
    rw [List.set_cons_succ, set_same h]
theorem nodup_inj : ∀ {l : List Int} {i j : Nat} {a : Int}, l.Nodup → l[i]? = some a → l[j]? = some a → i = j
  | [], i, j, a, _, h, _ => by simp at h
  | b :: l, 0, 0, a, _, _, _ => rfl
  | b :: l, 0, j + 1, a, hn, h1, h2 => by
    simp at h1
    rw [List.getElem?_cons_succ] at h2
    exact absurd (by rw [h1]; exact List.mem_of_getElem? h2) (List.nodup_cons.1 hn).1
  | b :: l, i + 1, 0, a, hn, h1, h2 => by
    simp at h2
    rw [List.getElem?_cons_succ] at h1
    exact absurd (by rw [h2]; exact List.mem_of_getElem? h1) (List.nodup_cons.1 hn).1
  | b :: l, i + 1, j + 1, a, hn, h1, h2 => by
    rw [List.getElem?_cons_succ] at h1 h2
    rw [nodup_inj (List.nodup_cons.1 hn).2 h1 h2]
theorem map_erase (x : List Sit) (n : Nat) : (x.eraseIdx n).map (fun s => s.1) = (x.map (fun s => s.1)).eraseIdx n := by
  rw [List.eraseIdx_eq_take_drop_succ, List.eraseIdx_eq_take_drop_succ, List.map_append, List.map_take, List.map_drop]
structure SimC (r : RG) (x : List Sit) : Prop where
  ok : RGok r
  row : r.row = x.map (fun s => s.1)
  mrk : ∀ s ∈ x, mkd r.ms s.1 = s.2
theorem SimC.new : SimC newR [] := ⟨newR_ok, rfl, fun _ h => by cases h⟩
theorem SimC.len {r : RG} {x : List Sit} (h : SimC r x) : r.row.length = x.length := by rw [h.row, List.length_map]
theorem SimC.place {r : RG} {x : List Sit} (h : SimC r x) (o : Int) : placeI o x = indexI o r.row := by unfold placeI; rw [h.row]
theorem SimC.in_ {r : RG} {x : List Sit} (h : SimC r x) {s : Sit} (hs : s ∈ x) : s.1 ∈ r.row := by rw [h.row]; exact List.mem_map.2 ⟨s, hs, rfl⟩
def touchX (x : List Sit) (o : Int) : List Sit := if 0 ≤ placeI o x then x.set (placeI o x).toNat (o, true) else x
theorem place_at {o : Int} {x : List Sit} (h : 0 ≤ placeI o x) : ∃ n m, placeI o x = ((n : Nat) : Int) ∧ x[n]? = some (o, m) ∧ n < x.length := by
  obtain ⟨n, h1, h2, h3⟩ := indexI_inv h
  rw [List.getElem?_map] at h2
  obtain ⟨s, hs, e⟩ := Option.map_eq_some_iff.1 h2
  exact ⟨n, s.2, h1, by rw [hs, ← e], by simpa using h3⟩
theorem SimC.touch {r : RG} {x : List Sit} (h : SimC r x) (o : Int) : SimC (touchR r o) (touchX x o) := by
  refine ⟨touchR_ok h.ok o, ?_, ?_⟩
  · rw [touchR_row, h.row]
    unfold touchX
    split
    · rename_i hp
      obtain ⟨n, m, h1, h2, h3⟩ := place_at hp
      rw [h1, Int.toNat_natCast, List.map_set]
      exact (set_same (by rw [List.getElem?_map, h2]; rfl)).symm
    · rfl
  · intro s hs
    have hrow : s.1 ∈ r.row := by
      unfold touchX at hs
      split at hs
      · rename_i hp
        rcases List.mem_or_eq_of_mem_set hs with hs | hs
        · exact h.in_ hs
        · rw [hs]
          exact indexI_mem.1 (by rw [← h.place]; exact hp)
      · exact h.in_ hs
    rw [touchR_mkd h.ok hrow]
    unfold touchX at hs
    split at hs
    · rename_i hp
      obtain ⟨n, m, h1, h2, h3⟩ := place_at hp
      rw [h1, Int.toNat_natCast] at hs
      rw [List.mem_iff_getElem?] at hs
      obtain ⟨j, hj⟩ := hs
      rw [List.getElem?_set] at hj
      by_cases hjn : n = j
      · rw [if_pos hjn, if_pos h3] at hj
        injection hj with hj
        rw [← hj]
        simp
      · rw [if_neg hjn] at hj
        rw [h.mrk s (List.mem_of_getElem? hj)]
        have hne : s.1 ≠ o := fun e => by
          have hn := h.ok.nod
          rw [h.row] at hn
          have a1 : (x.map (fun s => s.1))[j]? = some o := by rw [List.getElem?_map, hj, ← e]; rfl
          have a2 : (x.map (fun s => s.1))[n]? = some o := by rw [List.getElem?_map, h2]; rfl
          exact hjn (nodup_inj hn a2 a1)
        simp [hne]
    · rename_i hp
      rw [h.mrk s hs]
      have hne : s.1 ≠ o := fun e => hp (by rw [h.place]; exact indexI_mem.2 (by rw [← e]; exact h.in_ hs))
      simp [hne]
def removeX (x : List Sit) (o : Int) : List Sit := if 0 ≤ placeI o x then x.eraseIdx (placeI o x).toNat else x
theorem SimC.remove {r : RG} {x : List Sit} (h : SimC r x) (o : Int) : SimC (removeR r o) (removeX x o) := by
  unfold removeR removeX
  rw [h.place]
  by_cases hp : indexI o r.row < 0
  · rw [if_pos hp, if_neg (by omega)]
    exact h
  · rw [if_neg hp, if_pos (by omega)]
    obtain ⟨n, h1, h2, h3⟩ := indexI_inv (a := o) (l := r.row) (by omega)
    rw [h1, Int.toNat_natCast]
    have ho := h.ok.rng o (List.mem_of_getElem? h2)
    have hsub : ∀ y, y ∈ r.row.eraseIdx n → y ∈ r.row := fun y hy => List.mem_of_mem_eraseIdx hy
    have hno : o ∉ r.row.eraseIdx n := by
      have he := List.getElem?_eq_some_iff.1 h2
      obtain ⟨b, c⟩ := he
      rw [← c]
      have := h.ok.nod
      rw [List.eraseIdx_eq_take_drop_succ]
      intro hm
      rw [← List.take_append_drop n r.row, List.drop_eq_getElem_cons b] at this
      have hd := (List.nodup_append.1 this)
      rcases List.mem_append.1 hm with hm | hm
      · exact hd.2.2 _ hm _ List.mem_cons_self rfl
      · exact (List.nodup_cons.1 hd.2.1).1 hm
    have hmem : ∀ y, y ∈ r.row → y ≠ o → y ∈ r.row.eraseIdx n := fun y hy hne => by
      obtain ⟨j, hj⟩ := List.mem_iff_getElem?.1 hy
      refine List.mem_eraseIdx_iff_getElem?.2 ⟨j, fun e => hne ?_, hj⟩
      rw [e, h2] at hj
      exact (Option.some.inj hj).symm
    refine ⟨⟨by simpa using h.ok.m16, fun y hy => h.ok.rng y (hsub y hy), h.ok.nod.sublist (List.eraseIdx_sublist _ _), fun y h0 hy => ?_⟩, ?_, fun s hs => ?_⟩
    · show mkd (r.ms.set o.toNat false) y = false
      rw [mkd_set h.ok.m16 ho h0]
      split
      · rfl
      · rename_i hne
        exact h.ok.out y h0 (fun hm => hy (hmem y hm hne))
    · show r.row.eraseIdx n = _
      rw [h.row, map_erase]
    · have hsx : s ∈ x := List.mem_of_mem_eraseIdx hs
      have hs1 : s.1 ∈ r.row.eraseIdx n := by
        rw [h.row, ← map_erase]
        exact List.mem_map.2 ⟨s, hs, rfl⟩
      have hne : s.1 ≠ o := fun e => hno (by rw [← e]; exact hs1)
      show mkd (r.ms.set o.toNat false) s.1 = s.2
      rw [mkd_set h.ok.m16 ho (h.ok.rng _ (h.in_ hsx)).1, if_neg hne]
      exact h.mrk s hsx
def addX (x : List Sit) (o : Int) : List Sit := if placeI o x < 0 ∧ 0 ≤ o ∧ o ≤ 15 then x ++ [(o, false)] else x
theorem SimC.add {r : RG} {x : List Sit} (h : SimC r x) (o : Int) : SimC (addR r o) (addX x o) := by
  have hiff : (mayB o = true ∧ o ∉ r.row) ↔ (placeI o x < 0 ∧ 0 ≤ o ∧ o ≤ 15) := by
    rw [mayB_iff, h.place]
    have := indexI_mem (a := o) (l := r.row)
    constructor
    · rintro ⟨h1, h2⟩
      exact ⟨by have : ¬ 0 ≤ indexI o r.row := fun hh => h2 (this.1 hh); omega, by omega, by omega⟩
    · rintro ⟨h1, h2, h3⟩
      exact ⟨by omega, fun hm => by have := this.2 hm; omega⟩
  have hok := addR_ok h.ok o
  refine ⟨hok, ?_, fun s hs => ?_⟩
  · unfold addR addX
    by_cases hc : mayB o = true ∧ o ∉ r.row
    · rw [if_pos hc, if_pos (hiff.1 hc)]
      simp [h.row]
    · rw [if_neg hc, if_neg (fun hh => hc (hiff.2 hh))]
      exact h.row
  · rw [addR_ms]
    unfold addX at hs
    split at hs
    · rename_i hc
      have hc2 := hiff.2 hc
      rcases List.mem_append.1 hs with hs | hs
      · exact h.mrk s hs
      · simp at hs
        rw [hs]
        exact h.ok.out o (by omega) hc2.2
    · exact h.mrk s hs
def unm (s : Sit) : Sit := (s.1, false)
theorem rv_pre : ∀ (p : List Sit) {y : Sit} {q : List Sit} {f : Nat}, (∀ z ∈ p, z.2 = true) → y.2 = false → p.length ≤ f → rvict f (p ++ y :: q) = y :: q ++ p.map unm
  | [], y, q, f, _, hy, _ => by
    rw [List.nil_append, rvict_stop hy]
    simp
  | z :: p, y, q, f, hp, hy, hf => by
    obtain ⟨f', rfl⟩ : ∃ f', f = f' + 1 := ⟨f - 1, by simp at hf; omega⟩
    have hz := hp z (by simp)
    rw [List.cons_append]
    conv => lhs; unfold rvict
    rw [if_pos hz, List.append_assoc, List.cons_append, rv_pre p (fun u hu => hp u (by simp [hu])) hy (by simp at hf; omega)]
    simp [unm]
theorem rv_all {z : Sit} {p : List Sit} {f : Nat} (hp : ∀ u ∈ z :: p, u.2 = true) (hf : p.length < f) : rvict f (z :: p) = unm z :: p.map unm := by
  obtain ⟨f', rfl⟩ : ∃ f', f = f' + 1 := ⟨f - 1, by omega⟩
  have hz := hp z (by simp)
  conv => lhs; unfold rvict
  rw [if_pos hz, rv_pre p (fun u hu => hp u (by simp [hu])) rfl (by omega)]
  simp [unm]
theorem SimC.vict {r : RG} {x : List Sit} (h : SimC r x) {s : Sit} {l : List Sit} (hv : rvict (x.length + 1) x = s :: l) (hne : x ≠ []) : (victR r).1 = s.1 ∧ SimC (victR r).2 (s :: l) := by
  have hrne : r.row ≠ [] := by
    rw [h.row]
    intro he
    exact hne (List.map_eq_nil_iff.1 he)
  have hvo := victR_ok h.ok hrne
  rcases split_mark r.ms r.row with ha | ⟨p, y, q, hrow, hp, hy⟩
  · obtain ⟨z, p, rfl⟩ : ∃ z p, x = z :: p := by
      cases x with
      | nil => exact absurd rfl hne
      | cons z p => exact ⟨z, p, rfl⟩
    have hall : ∀ u ∈ z :: p, u.2 = true := fun u hu => by rw [← h.mrk u hu]; exact ha _ (h.in_ hu)
    rw [rv_all hall (by simp only [List.length_cons]; omega)] at hv
    injection hv with e1 e2
    have hr := h.row
    rw [List.map_cons] at hr
    have hvd : victR r = (z.1, ⟨z.1 :: p.map (fun s => s.1), clr (z.1 :: p.map (fun s => s.1)) r.ms⟩) := by
      unfold victR
      rw [hr]
      exact vict_all (by rw [← hr]; exact h.ok.nod) (by rw [← hr]; exact h.ok.rng) h.ok.m16 (by rw [← hr]; exact ha) (Nat.le_refl _)
    refine ⟨by rw [hvd, ← e1]; rfl, hvo.ok, ?_, fun u hu => ?_⟩
    · rw [hvd, ← e1, ← e2]
      simp [unm, Function.comp_def]
    · rw [hvd]
      show mkd (clr (z.1 :: p.map (fun s => s.1)) r.ms) u.1 = u.2
      have hu2 : u ∈ (z :: p).map unm := by rw [List.map_cons, e1, e2]; exact hu
      obtain ⟨v, hv, rfl⟩ := List.mem_map.1 hu2
      have hin := h.in_ hv
      show mkd (clr (z.1 :: p.map (fun s => s.1)) r.ms) v.1 = false
      have hin2 : v.1 ∈ z.1 :: p.map (fun s => s.1) := by rw [← hr]; exact hin
      rw [mkd_clr (z.1 :: p.map (fun s => s.1)) h.ok.m16 (by rw [← hr]; exact h.ok.rng) (h.ok.rng _ hin).1, decide_eq_false (fun hn => hn hin2), Bool.and_false]
  · have hr := h.row
    obtain ⟨px, yx, qx, hx, ep, ey, eq⟩ : ∃ px yx qx, x = px ++ yx :: qx ∧ px.map (fun s => s.1) = p ∧ yx.1 = y ∧ qx.map (fun s => s.1) = q := by
      rw [hrow] at hr
      obtain ⟨a, b, h1, h2, h3⟩ := List.append_eq_map_iff.1 hr
      obtain ⟨c, d, h4, h5, h6⟩ := List.map_eq_cons_iff.1 h3
      exact ⟨a, c, d, by rw [h1, h4], h2, h5, h6⟩
    subst hx
    have hpx : ∀ u ∈ px, u.2 = true := fun u hu => by
      rw [← h.mrk u (by simp [hu])]
      exact hp _ (by rw [← ep]; exact List.mem_map.2 ⟨u, hu, rfl⟩)
    have hyx : yx.2 = false := by rw [← h.mrk yx (by simp), ey]; exact hy
    rw [rv_pre px hpx hyx (by simp; omega)] at hv
    have hvd : victR r = (y, ⟨y :: q ++ p, clr p r.ms⟩) := by
      unfold victR
      rw [hrow]
      exact vict_pre p (by rw [← hrow]; exact h.ok.nod) (by rw [← hrow]; exact h.ok.rng) h.ok.m16 hp hy (Nat.le_refl _)
    have hrp : ∀ u ∈ p, 0 ≤ u ∧ u < 16 := fun u hu => h.ok.rng u (by rw [hrow]; simp [hu])
    have hnod := h.ok.nod
    rw [hrow] at hnod
    rw [List.cons_append] at hv
    injection hv with e1 e2
    refine ⟨by rw [hvd, ← e1]; exact ey.symm, hvo.ok, ?_, fun u hu => ?_⟩
    · rw [hvd, ← e1, ← e2]
      simp [unm, Function.comp_def, ep, ey, eq]
    · rw [hvd]
      show mkd (clr p r.ms) u.1 = u.2
      rw [← e1, ← e2] at hu
      have hu2 : (u ∈ yx :: qx) ∨ u ∈ px.map unm := by simpa [or_assoc] using hu
      rcases hu2 with hu2 | hu2
      · have hin : u ∈ px ++ yx :: qx := List.mem_append.2 (.inr hu2)
        rw [mkd_clr p h.ok.m16 hrp (h.ok.rng _ (h.in_ hin)).1, h.mrk u hin]
        have hu1 : u.1 ∈ y :: q := by
          have : (fun s : Sit => s.1) u ∈ (yx :: qx).map (fun s : Sit => s.1) := List.mem_map_of_mem hu2
          rwa [List.map_cons, ey, eq] at this
        have : u.1 ∉ p := fun hm => (List.nodup_append.1 hnod).2.2 _ hm _ hu1 rfl
        simp [this]
      · obtain ⟨v, hv2, rfl⟩ := List.mem_map.1 hu2
        have hin : v ∈ px ++ yx :: qx := List.mem_append.2 (.inl hv2)
        have hvp : v.1 ∈ p := by rw [← ep]; exact List.mem_map.2 ⟨v, hv2, rfl⟩
        show mkd (clr p r.ms) v.1 = false
        rw [mkd_clr p h.ok.m16 hrp (h.ok.rng _ (h.in_ hin)).1]
        simp [hvp]
end Go.Proofs.Ytkbialmlddhclaa.Ck
