/- What adding, touching and choosing come to: in lists alone. -/
import Derived.Test.YtkbialmlddhclaaCkVic
namespace Go.Proofs.Ytkbialmlddhclaa.Ck
set_option linter.unusedSimpArgs false
set_option linter.unusedVariables false
/-- Whether a number is marked. -/
def mkd (ms : List Bool) (x : Int) : Bool := ms.getD x.toNat false
theorem mkd_set {ms : List Bool} {x y : Int} {b : Bool} (h16 : ms.length = 16) (hx : 0 ≤ x ∧ x < 16) (hy : 0 ≤ y) : mkd (ms.set x.toNat b) y = if y = x then b else mkd ms y := by
  unfold mkd
  rw [List.getD_eq_getElem?_getD, List.getD_eq_getElem?_getD, List.getElem?_set]
  by_cases h : y = x
  · subst h
    rw [if_pos rfl, if_pos (by omega), if_pos rfl]
    rfl
  · rw [if_neg (by omega), if_neg h]
def clr : List Int → List Bool → List Bool
  | [], ms => ms
  | z :: p, ms => clr p (ms.set z.toNat false)
theorem clr_len : ∀ (p : List Int) (ms : List Bool), (clr p ms).length = ms.length
  | [], _ => rfl
  | z :: p, ms => by unfold clr; rw [clr_len p]; simp
theorem mkd_clr : ∀ (p : List Int) {ms : List Bool} {y : Int}, ms.length = 16 → (∀ z ∈ p, 0 ≤ z ∧ z < 16) → 0 ≤ y → mkd (clr p ms) y = (mkd ms y && decide (y ∉ p))
  | [], ms, y, _, _, _ => by simp [clr]
  | z :: p, ms, y, h16, hp, hy => by
    unfold clr
    rw [mkd_clr p (by simpa using h16) (fun q hq => hp q (by simp [hq])) hy, mkd_set h16 (hp z (by simp)) hy]
    by_cases h : y = z
    · rw [if_pos h]; simp [h]
    · rw [if_neg h]; simp [h]
theorem cntT_pos {ms : List Bool} {i : Nat} (h : ms[i]? = some true) : 0 < cntT ms := by
  have := cntT_set h
  omega
theorem mkd_get {ms : List Bool} {x : Int} (h : mkd ms x = true) : ms[x.toNat]? = some true := by
  unfold mkd at h
  rw [List.getD_eq_getElem?_getD] at h
  cases hh : ms[x.toNat]? with
  | none => rw [hh] at h; cases h
  | some b => rw [hh] at h; simp at h; rw [h]
theorem vict_mark {f : Nat} {x : Int} {l : List Int} {ms : List Bool} (h : mkd ms x = true) : vict (f + 1) (x :: l) ms = vict f (l ++ [x]) (ms.set x.toNat false) := by
  conv => lhs; unfold vict
  exact if_pos h
/-- Who is marked up to somebody who isn't: that one is chosen. -/
theorem vict_pre : ∀ (p : List Int) {y : Int} {q : List Int} {ms : List Bool} {f : Nat}, (p ++ y :: q).Nodup → (∀ z ∈ p ++ y :: q, 0 ≤ z ∧ z < 16) → ms.length = 16 → (∀ z ∈ p, mkd ms z = true) → mkd ms y = false → cntT ms ≤ f → vict f (p ++ y :: q) ms = (y, ⟨y :: q ++ p, clr p ms⟩)
  | [], y, q, ms, f, _, _, _, _, hy, _ => by
    rw [List.nil_append, List.append_nil, vict_stop hy]
    rfl
  | z :: p, y, q, ms, f, hn, hr, h16, hp, hy, hf => by
    have hz := hp z (by simp)
    have hc := cntT_set (mkd_get hz)
    obtain ⟨f', rfl⟩ : ∃ f', f = f' + 1 := ⟨f - 1, by omega⟩
    rw [List.cons_append, vict_mark hz, List.append_assoc, List.cons_append]
    rw [List.cons_append] at hn hr
    have hn2 := List.nodup_cons.1 hn
    have hzr := hr z (by simp)
    have hperm : (p ++ y :: (q ++ [z])).Perm (z :: (p ++ y :: q)) := by
      have : p ++ y :: (q ++ [z]) = (p ++ y :: q) ++ [z] := by simp
      rw [this]
      exact List.perm_append_singleton _ _
    have k1 : ∀ u ∈ p, mkd (ms.set z.toNat false) u = true := fun u hu => by
      rw [mkd_set h16 hzr (hr u (by simp [hu])).1, if_neg (fun e => hn2.1 (by rw [← e]; simp [hu]))]
      exact hp u (by simp [hu])
    have k2 : mkd (ms.set z.toNat false) y = false := by
      rw [mkd_set h16 hzr (hr y (by simp)).1]
      split
      · rfl
      · exact hy
    rw [vict_pre p (hperm.nodup_iff.2 hn) (fun u hu => hr u (hperm.mem_iff.1 hu)) (by simpa using h16) k1 k2 (by omega)]
    simp [clr]
/-- All are marked: the first one is chosen. -/
theorem vict_all {z : Int} {p : List Int} {ms : List Bool} {f : Nat} (hn : (z :: p).Nodup) (hr : ∀ u ∈ z :: p, 0 ≤ u ∧ u < 16) (h16 : ms.length = 16) (hp : ∀ u ∈ z :: p, mkd ms u = true) (hf : cntT ms ≤ f) : vict f (z :: p) ms = (z, ⟨z :: p, clr (z :: p) ms⟩) := by
  have hz := hp z (by simp)
  have hc := cntT_set (mkd_get hz)
  obtain ⟨f', rfl⟩ : ∃ f', f = f' + 1 := ⟨f - 1, by omega⟩
  have hn2 := List.nodup_cons.1 hn
  have hzr := hr z (by simp)
  have hperm : (p ++ [z]).Perm (z :: p) := List.perm_append_singleton _ _
  have k1 : ∀ u ∈ p, mkd (ms.set z.toNat false) u = true := fun u hu => by
    rw [mkd_set h16 hzr (hr u (by simp [hu])).1, if_neg (fun e => hn2.1 (by rw [← e]; exact hu))]
    exact hp u (by simp [hu])
  have k2 : mkd (ms.set z.toNat false) z = false := by rw [mkd_set h16 hzr hzr.1, if_pos rfl]
  rw [vict_mark hz, vict_pre p (hperm.nodup_iff.2 hn) (fun u hu => hr u (hperm.mem_iff.1 hu)) (by simpa using h16) k1 k2 (by omega)]
  simp [clr]
/-- The first who isn't marked. -/
theorem split_mark (ms : List Bool) : ∀ l : List Int, (∀ z ∈ l, mkd ms z = true) ∨ ∃ p y q, l = p ++ y :: q ∧ (∀ z ∈ p, mkd ms z = true) ∧ mkd ms y = false
  | [] => .inl (fun _ h => by cases h)
  | x :: l => by
    cases hx : mkd ms x with
    | false => exact .inr ⟨[], x, l, rfl, (fun _ h => by cases h), hx⟩
    | true =>
      rcases split_mark ms l with h | ⟨p, y, q, rfl, h1, h2⟩
      · exact .inl (fun z hz => (List.mem_cons.1 hz).elim (fun e => by rw [e]; exact hx) (h z))
      · exact .inr ⟨x :: p, y, q, rfl, fun z hz => (List.mem_cons.1 hz).elim (fun e => by rw [e]; exact hx) (h1 z), h2⟩
structure RGok (r : RG) : Prop where
  m16 : r.ms.length = 16
  rng : ∀ x ∈ r.row, 0 ≤ x ∧ x < 16
  nod : r.row.Nodup
  out : ∀ x, 0 ≤ x → x ∉ r.row → mkd r.ms x = false
theorem newR_ok : RGok newR := ⟨rfl, (fun _ h => by cases h), List.nodup_nil, fun x _ _ => by
  unfold mkd newR
  rw [List.getD_eq_getElem?_getD, List.getElem?_replicate]
  split <;> rfl⟩
theorem mayB_iff {o : Int} : mayB o = true ↔ 0 ≤ o ∧ o < 16 := by unfold mayB; exact decide_eq_true_iff
theorem addR_ok {r : RG} (h : RGok r) (o : Int) : RGok (addR r o) := by
  unfold addR
  split
  · rename_i hc
    have hm := mayB_iff.1 hc.1
    refine ⟨h.m16, fun x hx => ?_, ?_, fun x h0 hx => h.out x h0 (fun he => hx (by simp [he]))⟩
    · rcases List.mem_append.1 hx with hx | hx
      · exact h.rng x hx
      · simp at hx; omega
    · exact (List.perm_append_singleton o r.row).nodup_iff.2 (List.nodup_cons.2 ⟨hc.2, h.nod⟩)
  · exact h
theorem touchR_ok {r : RG} (h : RGok r) (o : Int) : RGok (touchR r o) := by
  unfold touchR
  split
  · rename_i hc
    have hm := h.rng o hc
    refine ⟨by simpa using h.m16, h.rng, h.nod, fun x h0 hx => ?_⟩
    show mkd (r.ms.set o.toNat true) x = false
    rw [mkd_set h.m16 hm h0, if_neg (fun e => hx (by rw [e]; exact hc))]
    exact h.out x h0 hx
  · exact h
/-- What a victim is, and what is left. -/
structure VictOk (r : RG) (y : Int) (r' : RG) : Prop where
  ok : RGok r'
  mem : ∀ x, x ∈ r'.row ↔ x ∈ r.row
  len : r'.row.length = r.row.length
  head : ∃ q, r'.row = y :: q
  unm : mkd r'.ms y = false
  one : (∃ x ∈ r.row, mkd r.ms x = false) → mkd r.ms y = false
  fst : (∀ x ∈ r.row, mkd r.ms x = false) → ∃ q, r.row = y :: q
theorem victR_ok {r : RG} (h : RGok r) (hne : r.row ≠ []) : VictOk r (victR r).1 (victR r).2 := by
  unfold victR
  rcases split_mark r.ms r.row with ha | ⟨p, y, q, hrow, hp, hy⟩
  · obtain ⟨z, p, hz⟩ : ∃ z p, r.row = z :: p := by
      cases hr : r.row with
      | nil => exact absurd hr hne
      | cons z p => exact ⟨z, p, rfl⟩
    have hv := vict_all (f := cntT r.ms) (by rw [← hz]; exact h.nod) (by rw [← hz]; exact h.rng) h.m16 (by rw [← hz]; exact ha) (Nat.le_refl _)
    rw [hz, hv]
    have hzz : z ∈ r.row := by rw [hz]; simp
    have h0 := h.rng z hzz
    have hrng : ∀ u ∈ z :: p, 0 ≤ u ∧ u < 16 := by rw [← hz]; exact h.rng
    refine ⟨⟨by rw [clr_len]; exact h.m16, hrng, by rw [← hz]; exact h.nod, fun x hx0 hx => ?_⟩, fun x => by rw [hz], by rw [hz], ⟨p, rfl⟩, ?_, fun ⟨x, hx, hm⟩ => ?_, fun hall => ⟨p, hz⟩⟩
    · rw [mkd_clr _ h.m16 hrng hx0, h.out x hx0 (by rw [hz]; exact hx)]; rfl
    · rw [mkd_clr _ h.m16 hrng h0.1]; simp
    · rw [ha x hx] at hm; cases hm
  · have hv := vict_pre p (f := cntT r.ms) (by rw [← hrow]; exact h.nod) (by rw [← hrow]; exact h.rng) h.m16 hp hy (Nat.le_refl _)
    rw [hrow, hv]
    have hperm : (y :: q ++ p).Perm (p ++ y :: q) := List.perm_append_comm
    have hrng : ∀ u ∈ p ++ y :: q, 0 ≤ u ∧ u < 16 := by rw [← hrow]; exact h.rng
    have hrp : ∀ u ∈ p, 0 ≤ u ∧ u < 16 := fun u hu => hrng u (by simp [hu])
    have hy0 := hrng y (by simp)
    refine ⟨⟨by rw [clr_len]; exact h.m16, fun u hu => hrng u (hperm.mem_iff.1 hu), hperm.nodup_iff.2 (by rw [← hrow]; exact h.nod), fun x hx0 hx => ?_⟩, fun x => by rw [hrow]; exact hperm.mem_iff, by rw [hrow]; exact hperm.length_eq, ⟨q ++ p, rfl⟩, ?_, fun _ => hy, fun hall => ?_⟩
    · rw [mkd_clr _ h.m16 hrp hx0, h.out x hx0 (by rw [hrow]; exact fun hh => hx (hperm.mem_iff.2 hh))]; rfl
    · rw [mkd_clr _ h.m16 hrp hy0.1, hy]; rfl
    · cases p with
      | nil => exact ⟨q, hrow⟩
      | cons z p => 
        have := hp z (by simp)
        rw [hall z (by rw [hrow]; simp)] at this
        cases this
end Go.Proofs.Ytkbialmlddhclaa.Ck
