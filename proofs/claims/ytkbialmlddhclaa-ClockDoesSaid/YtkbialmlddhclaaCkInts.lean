/- slices.Index, Contains, Clone over ints; spenceref01.In, Ints: walked. -/
import Derived.Test.YtkbialmlddhclaaCkBase
namespace Go.Proofs.Ytkbialmlddhclaa.Ck
open Go.RowKit Go.Proofs.YtkbialmlddhclaaW.PrintWords Go.Proofs.YtkbialmlddhclaaW.PrintMore
set_option linter.unusedSimpArgs false
set_option linter.unusedVariables false
/-- Where the first such one is; -1: nowhere. -/
def indexI (a : Int) : List Int → Int
  | [] => -1
  | x :: l => if a = x then 0 else if indexI a l = -1 then -1 else indexI a l + 1
theorem indexI_ge (a : Int) : ∀ l, -1 ≤ indexI a l
  | [] => by unfold indexI; omega
  | x :: l => by
    have := indexI_ge a l
    unfold indexI
    split
    · omega
    · split <;> omega
theorem indexI_none {a : Int} : ∀ {l : List Int}, (∀ i, i < l.length → l[i]? ≠ some a) → indexI a l = -1
  | [], _ => rfl
  | x :: l, h => by
    unfold indexI
    rw [if_neg (fun e => h 0 (by simp) (by simp [e])), indexI_none (fun i hi => by have := h (i + 1) (by simpa using hi); simpa using this), if_pos rfl]
theorem indexI_some {a : Int} : ∀ {l : List Int} {n : Nat}, l[n]? = some a → (∀ i, i < n → l[i]? ≠ some a) → indexI a l = (n : Int)
  | [], n, h, _ => by simp at h
  | x :: l, 0, h, _ => by
    simp at h
    unfold indexI
    rw [if_pos h.symm]
    rfl
  | x :: l, n + 1, h, hn => by
    rw [List.getElem?_cons_succ] at h
    have := indexI_some h (fun i hi => by have := hn (i + 1) (by omega); simpa using this)
    unfold indexI
    rw [if_neg (fun e => hn 0 (by omega) (by simp [e])), this, if_neg (by omega)]
    push_cast
    rfl
theorem indexI_mem {a : Int} : ∀ {l : List Int}, (0 ≤ indexI a l) ↔ a ∈ l
  | [] => by unfold indexI; simp
  | x :: l => by
    have ih := indexI_mem (a := a) (l := l)
    have := indexI_ge a l
    unfold indexI
    by_cases h : a = x
    · rw [if_pos h]; simp [h]
    · rw [if_neg h]
      split
      · simp [h]; rw [← ih]; omega
      · simp [h]; rw [← ih]; omega
theorem indexI_inv {a : Int} {l : List Int} (h : 0 ≤ indexI a l) : ∃ n : Nat, indexI a l = (n : Int) ∧ l[n]? = some a ∧ n < l.length := by
  obtain ⟨n, hn⟩ : ∃ n : Nat, ∃ h : n < l.length, l[n] = a := List.mem_iff_getElem.1 (indexI_mem.1 h)
  induction l generalizing n with
  | nil => obtain ⟨h, _⟩ := hn; simp at h
  | cons x l ih =>
    unfold indexI
    by_cases hx : a = x
    · exact ⟨0, by rw [if_pos hx]; rfl, by simp [hx], by simp⟩
    · rw [if_neg hx]
      unfold indexI at h
      rw [if_neg hx] at h
      by_cases h1 : indexI a l = -1
      · rw [if_pos h1] at h; omega
      · rw [if_neg h1] at h ⊢
        have := indexI_ge a l
        obtain ⟨m, hm, hml⟩ : ∃ m : Nat, ∃ h : m < l.length, l[m] = a := List.mem_iff_getElem.1 (indexI_mem.1 (by omega))
        obtain ⟨k, k1, k2, k3⟩ := ih (by omega) m ⟨hm, hml⟩
        exact ⟨k + 1, by rw [k1]; rfl, by simpa using k2, by simpa using k3⟩
section
variable {w : World} {A : Option Addr} {c : Nat} {l : List Int}
set_option maxHeartbeats 1000000 in
set_option maxRecDepth 100000 in
theorem Index_any (h : kI.C w A l.length l) (a : Int) : Calls Try.prog 87 #[.slice A l.length c, .int .i64 a] w fun e w' => e = .returned (.int .i64 (indexI a l)) ∧ w = w' := by
  obtain ⟨n, hn⟩ : ∃ n, n = l.length := ⟨_, rfl⟩
  have hc := fun (i : Nat) (x : Int) (hx : l[i]? = some x) => kI_cell h hx
  have hmax := Kd.C_max h
  have HC := Lib.hid hc
  have HN := Lib.hid hn
  rw [← hn] at hmax
  rw [← hn]
  clear hc h hn
  go_enter Try.func87, Try.ntmps87
  go_wp2
  go_loopw [5, 8] (fun v5 v8 wr => ∃ k : Nat, k ≤ n ∧ v8 = .int .i64 (k : Int) ∧ (∀ i, i < k → l[i]? ≠ some a) ∧ w = wr) (fun _ v8 _ => n - (intOf v8).toNat)
  case atStart => exact ⟨0, Nat.zero_le _, rfl, fun i hi => by omega, rfl⟩
  case round =>
    obtain ⟨k, hk, rfl, hn, rfl⟩ := hrel
    have HK := Lib.hid hn
    clear hn
    by_cases hlt : k < n
    · obtain ⟨x, hx⟩ : ∃ x, l[k]? = some x := ⟨_, List.getElem?_eq_getElem (by have := HN.out; omega)⟩
      obtain ⟨ad, rfl, kc⟩ := HC.out k x hx
      have HX := Lib.hid hx
      have k0 : (0 : Int) ≤ (k : Int) := by omega
      have k1 : (k : Int) < (n : Int) := by omega
      clear hx
      by_cases hxa : a = x
      · have e1 : (a == x) = true := by simpa using hxa
        have HXA := Lib.hid hxa
        clear hxa
        go_wp2
        go_ret
        refine ⟨?_, rfl⟩
        rw [indexI_some (by rw [HX.out, HXA.out]) HK.out]
        rfl
      · have e1 : (a == x) = false := by simpa using hxa
        have HXA := Lib.hid hxa
        clear hxa
        go_wp2
        refine ⟨⟨k + 1, by omega, by go_num, ?_⟩, by simp [intOf]; omega⟩
        refine (show (∀ i, i < k + 1 → l[i]? ≠ some a) ∧ True from ⟨fun i hi => ?_, trivial⟩)
        by_cases hik : i = k
        · rw [hik, HX.out]
          exact fun he => HXA.out (Option.some.inj he).symm
        · exact HK.out i (by omega)
    · obtain rfl : k = n := by omega
      go_wp2
      go_ret
      refine ⟨?_, rfl⟩
      rw [indexI_none (fun i hi => HK.out i (by have := HN.out; omega))]
      rfl
set_option maxHeartbeats 1000000 in
set_option maxRecDepth 100000 in
theorem Contains_any (h : kI.C w A l.length l) (a : Int) : Calls Try.prog 77 #[.slice A l.length c, .int .i64 a] w fun e w' => e = .returned (.bool (decide (a ∈ l))) ∧ w = w' := by
  have HI := Lib.hid (Index_any (c := c) h a)
  have hd : decide (a ∈ l) = decide (0 ≤ indexI a l) := decide_eq_decide.2 indexI_mem.symm
  rw [hd]
  obtain ⟨r, hr⟩ : ∃ r, r = indexI a l := ⟨_, rfl⟩
  rw [← hr] at HI ⊢
  clear h hd hr
  go_enter Try.func77, Try.ntmps77
  go_wp2_with (go_at_call 87; (with_reducible refine HI.out.mono ?_); rintro e w1 ⟨rfl, rfl⟩)
  go_ret
  exact ⟨rfl, rfl⟩
set_option maxHeartbeats 1000000 in
set_option maxRecDepth 100000 in
theorem In_any (h : kI.C w A l.length l) (a : Int) : Calls Try.prog 34 #[.slice A l.length c, .int .i64 a] w fun e w' => e = .returned (.bool (decide (a ∈ l))) ∧ w = w' := by
  obtain ⟨n, hn⟩ : ∃ n, n = l.length := ⟨_, rfl⟩
  have hc := fun (i : Nat) (x : Int) (hx : l[i]? = some x) => kI_cell h hx
  have hmax := Kd.C_max h
  have HC := Lib.hid hc
  have HN := Lib.hid hn
  rw [← hn] at hmax
  rw [← hn]
  clear hc h hn
  go_enter Try.func34, Try.ntmps34
  go_wp2
  go_loopw [6, 9] (fun v6 v9 wr => ∃ k : Nat, k ≤ n ∧ v9 = .int .i64 (k : Int) ∧ (∀ i, i < k → l[i]? ≠ some a) ∧ w = wr) (fun _ v9 _ => n - (intOf v9).toNat)
  case atStart => exact ⟨0, Nat.zero_le _, rfl, fun i hi => by omega, rfl⟩
  case round =>
    obtain ⟨k, hk, rfl, hn, rfl⟩ := hrel
    have HK := Lib.hid hn
    clear hn
    by_cases hlt : k < n
    · obtain ⟨x, hx⟩ : ∃ x, l[k]? = some x := ⟨_, List.getElem?_eq_getElem (by have := HN.out; omega)⟩
      obtain ⟨ad, rfl, kc⟩ := HC.out k x hx
      have HX := Lib.hid hx
      have k0 : (0 : Int) ≤ (k : Int) := by omega
      have k1 : (k : Int) < (n : Int) := by omega
      clear hx
      by_cases hxa : x = a
      · have e1 : (x == a) = true := by simpa using hxa
        have hd : decide (a ∈ l) = true := decide_eq_true (by rw [← hxa]; exact List.mem_of_getElem? HX.out)
        have HD := Lib.hid hd
        clear hxa hd
        go_wp2
        go_ret
        exact ⟨by rw [HD.out]; rfl, rfl⟩
      · have e1 : (x == a) = false := by simpa using hxa
        have HXA := Lib.hid hxa
        clear hxa
        go_wp2
        refine ⟨⟨k + 1, by omega, by go_num, ?_⟩, by simp [intOf]; omega⟩
        refine (show (∀ i, i < k + 1 → l[i]? ≠ some a) ∧ True from ⟨fun i hi => ?_, trivial⟩)
        by_cases hik : i = k
        · rw [hik, HX.out]
          exact fun he => HXA.out (Option.some.inj he)
        · exact HK.out i (by omega)
    · obtain rfl : k = n := by omega
      have hd : decide (a ∈ l) = false := decide_eq_false (fun hm => by
        obtain ⟨i, hi, he⟩ := List.mem_iff_getElem.1 hm
        exact HK.out i (by have := HN.out; omega) (by rw [List.getElem?_eq_getElem hi, he]))
      have HD := Lib.hid hd
      clear hd
      go_wp2
      go_ret
      exact ⟨by rw [HD.out]; rfl, rfl⟩
end
end Go.Proofs.Ytkbialmlddhclaa.Ck
