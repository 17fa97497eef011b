-- Written by myprint.py, a program of this session (in its repo under wip/tools), out of the loaded functions; Lean checks it.
import Derived.Test.YtkmanjfmffdcbaaQFramex0
import Derived.Test.YtkmanjfmffdcbaaQFramex9
namespace Go.Proofs.Ytkmanjfmffdcbaa.QFrame
open Go.RowKit Go.Proofs.YtkmanjfmffdcbaaW.PrintWords Go.Proofs.YtkmanjfmffdcbaaW.PrintLast Go.Proofs.YtkmanjfmffdcbaaW.PrintMore
attribute [local go_sem] max2_int min2_int max_two min_two max_three min_three max_four min_four   -- for this text's walks alone
set_option linter.unusedVariables false
set_option linter.unusedSimpArgs false

/-! ### nums_Get: function 56 -/
/-- Bytes as a number, the highest first, as the code reckons it. -/
def beOr (l : List Int) (n : Int) : Int := l.foldl (fun n x => Go.bits .or .u64 (IntKind.u64.wrap (n * 256)) (IntKind.u64.wrap x)) n
def nums_Get.f (l0 : List Int) (a1 : Int) (a2 : Int) : Option (Int × Bool) := if 0 ≤ a2 ∧ a2 ≤ 8 ∧ 0 ≤ a1 ∧ a1 ≤ (l0.length : Int) ∧ a2 ≤ (l0.length : Int) - a1 then some (beOr ((l0.drop a1.toNat).take a2.toNat) 0, true) else some (0, false)
theorem beOr_step (l : List Int) (i : Nat) (h : i < l.length) : beOr (l.take (i + 1)) 0 = Go.bits .or .u64 (IntKind.u64.wrap (beOr (l.take i) 0 * 256)) (IntKind.u64.wrap (rd l (i : Int))) := by
  rw [List.take_succ_eq_append_getElem h]
  unfold rd beOr
  rw [List.foldl_append, Int.toNat_natCast, List.getD_eq_getElem?_getD, List.getElem?_eq_getElem h]
  rfl
set_option maxHeartbeats 1000000 in
set_option maxRecDepth 100000 in
theorem nums_Get.yes (A0 : Option Addr) (c0 : Nat) (l0 : List Int) (a n : Nat) (w : World) (hr0 : Kd.C (Kd.int .u8) w A0 l0.length l0) (hc0 : l0.length ≤ c0) (hn : n ≤ 8) (ha : a + n ≤ l0.length) :
    Calls Try.prog 56 #[.slice A0 l0.length c0, .int .i64 (a : Int), .int .i64 (n : Int)] w fun e w' => e = .returned (.tuple #[.int .u64 (beOr ((l0.drop a).take n) 0), .bool true]) ∧ Drawn0 w w' := by
  have hl := hr0.2.1
  have HT0 : Kd.C (Kd.int .u8) w (if c0 = a then A0 else Option.map (fun x => x.add a) A0) n ((l0.drop a).take n) := Hand.C_take (Hand.C_drop1 hr0 a (by omega) hc0) n (by omega)
  by_cases hca : c0 = a
  · subst hca
    have HT : Kd.C (Kd.int .u8) w A0 n ((l0.drop c0).take n) := by simpa using HT0
    obtain rfl : n = 0 := by omega
    obtain rfl : c0 = l0.length := by omega
    have HR := Aside0.mk HT
    have HL := Aside0.mk HT.1
    have HF := Aside0.mk (show nums_Fits.f 0 0 8 = some true by decide)
    clear hr0 HT HT0
    have b6 : (l0.length : Int) ≤ 9223372036854775807 := by omega
    go_enter Try.func56, Try.ntmps56
    go_wp2_with (first | (go_at_call 61; refine (nums_Fits.calls _ _ _ true _ HF.out).mono ?_; rintro e w' ⟨rfl, ⟨m, rfl⟩⟩))
    go_loop [8, 39] (fun v8 v39 => v39 = .int .i64 0 ∧ v8 = .int .u64 0) (fun _ _ => 0)
    case atStart => exact ⟨rfl, rfl⟩
    case round =>
      obtain ⟨rfl, rfl⟩ := hrel
      go_wp2
      go_ret2
      exact ⟨rfl, ⟨m, rfl⟩⟩
  · have HT : Kd.C (Kd.int .u8) w (Option.map (fun x => x.add a) A0) n ((l0.drop a).take n) := by simpa [hca] using HT0
    have HR := Aside0.mk HT
    have HC := Aside0.mk hc0
    have HL := Aside0.mk HT.1
    have hfit : nums_Fits.f (n : Int) 0 8 = some true := by unfold nums_Fits.f; rw [if_pos (by omega), decide_eq_true (by omega)]
    have HF := Aside0.mk hfit
    clear hr0 HT hfit HT0
    have b1 : decide ((a : Int) < 0) = false := decide_eq_false (by omega)
    have b2 : decide ((l0.length : Int) < (a : Int)) = false := decide_eq_false (by omega)
    have b3 : decide ((l0.length : Int) - (a : Int) < (n : Int)) = false := decide_eq_false (by omega)
    have b4 : decide (l0.length < a) = false := decide_eq_false (by omega)
    have b5 : (0 : Int) ≤ (l0.length : Int) - (a : Int) := by omega
    have b6 : (l0.length : Int) ≤ 9223372036854775807 := by omega
    have b7 : (a : Int) ≤ 9223372036854775807 := by omega
    have b8 : (n : Int) ≤ 8 := by omega
    have b9 : (a : Int) + (n : Int) ≤ 9223372036854775807 := by omega
    have c1 : (a : Int) ≤ (a : Int) + (n : Int) := by omega
    have c2 : (a : Int) + (n : Int) ≤ (c0 : Int) := by omega
    have c3 : ((a : Int) + (n : Int)).toNat - a = n := by omega
    clear hc0
    generalize hLL : (l0.drop a).take n = L at *
    clear hLL
    go_enter Try.func56, Try.ntmps56
    go_wp2_with (first | (go_at_call 61; refine (nums_Fits.calls _ _ _ true _ HF.out).mono ?_; rintro e w' ⟨rfl, ⟨m, rfl⟩⟩))
    clear b1 b2 b3 b4 b5 b9 c1 c2 c3
    go_loop [8, 39] (fun v8 v39 => ∃ k : Nat, k ≤ n ∧ v39 = .int .i64 (k : Int) ∧ v8 = .int .u64 (beOr (L.take k) 0)) (fun _ v39 => n - (intOf v39).toNat)
    case atStart => exact ⟨0, Nat.zero_le _, rfl, rfl⟩
    case round =>
      obtain ⟨k, hk, rfl, rfl⟩ := hrel
      by_cases hlt : k < n
      · have hS := Aside0.mk (beOr_step L k (by have := HL.out; omega))
        obtain ⟨ad, hA, hcell⟩ := Hand.C_cell (Kd.C_drewN HR.out m) k hlt

        generalize beOr (L.take k) 0 = x at *
        generalize rd L (k : Int) = z at *
        cases A0 with
        | none => cases hA
        | some ad0 => ?_
        obtain rfl : ad = ad0.add a := by cases hA; rfl
        clear hA
        go_wp2
        go_round
        case rel => exact ⟨k + 1, by omega, by go_num, by rw [hS.out]⟩
        case measure => simp [intOf]; omega
      · obtain rfl : k = n := by omega
        have hT := Aside0.mk (List.take_of_length_le (Nat.le_of_eq HL.out))
        go_wp2
        go_ret2
        refine ⟨?_, ⟨m, rfl⟩⟩
        rw [hT.out]
        rfl
set_option maxHeartbeats 1000000 in
set_option maxRecDepth 100000 in
theorem nums_Get.no (A0 : Option Addr) (c0 : Nat) (l0 : List Int) (a n : Int) (w : World) (hl : l0.length ≤ 9223372036854775807) (h : ¬ (0 ≤ n ∧ n ≤ 8 ∧ 0 ≤ a ∧ a ≤ (l0.length : Int) ∧ n ≤ (l0.length : Int) - a)) :
    Calls Try.prog 56 #[.slice A0 l0.length c0, .int .i64 a, .int .i64 n] w fun e w' => e = .returned (.tuple #[.int .u64 0, .bool false]) ∧ Drawn0 w w' := by
  have b6 : (l0.length : Int) ≤ 9223372036854775807 := by omega
  by_cases h1 : 0 ≤ n ∧ n ≤ 8
  · have HF : Aside0 (nums_Fits.f n 0 8 = some true) := ⟨by unfold nums_Fits.f; rw [if_pos h1.1, decide_eq_true h1.2]⟩
    obtain ⟨h11, h12⟩ := h1
    by_cases h2 : a < 0
    · clear h
      go_enter Try.func56, Try.ntmps56
      go_wp2_with (first | (go_at_call 61; refine (nums_Fits.calls _ _ _ true _ HF.out).mono ?_; rintro e w' ⟨rfl, ⟨m, rfl⟩⟩))
      go_ret2
      exact ⟨rfl, ⟨m, rfl⟩⟩
    · by_cases h3 : a ≤ (l0.length : Int)
      · have h4 : (l0.length : Int) - a < n := by omega
        have h5 : (0 : Int) ≤ (l0.length : Int) - a := by omega
        clear h
        go_enter Try.func56, Try.ntmps56
        go_wp2_with (first | (go_at_call 61; refine (nums_Fits.calls _ _ _ true _ HF.out).mono ?_; rintro e w' ⟨rfl, ⟨m, rfl⟩⟩))
        go_ret2
        exact ⟨rfl, ⟨m, rfl⟩⟩
      · have h3' : (l0.length : Int) < a := by omega
        clear h h3
        go_enter Try.func56, Try.ntmps56
        go_wp2_with (first | (go_at_call 61; refine (nums_Fits.calls _ _ _ true _ HF.out).mono ?_; rintro e w' ⟨rfl, ⟨m, rfl⟩⟩))
        go_ret2
        exact ⟨rfl, ⟨m, rfl⟩⟩
  · have HF : Aside0 (nums_Fits.f n 0 8 = some false) := ⟨by
      unfold nums_Fits.f
      by_cases c : n ≥ 0
      · rw [if_pos c, decide_eq_false (by omega)]
      · rw [if_neg c]⟩
    clear h h1
    go_enter Try.func56, Try.ntmps56
    go_wp2_with (first | (go_at_call 61; refine (nums_Fits.calls _ _ _ false _ HF.out).mono ?_; rintro e w' ⟨rfl, ⟨m, rfl⟩⟩))
    go_ret2
    exact ⟨rfl, ⟨m, rfl⟩⟩
theorem nums_Get.calls (A0 : Option Addr) (c0 : Nat) (l0 : List Int) (a1 : Int) (a2 : Int) (r1 : Int) (r2 : Bool) (w : World) (hr0 : Kd.C (Kd.int .u8) w A0 l0.length l0) (hc0 : l0.length ≤ c0) (h : nums_Get.f l0 a1 a2 = some (r1, r2)) :
    Calls Try.prog 56 #[.slice A0 l0.length c0, .int .i64 a1, .int .i64 a2] w fun e w' => e = .returned (.tuple #[.int .u64 r1, .bool r2]) ∧ Drawn0 w w' := by
  unfold nums_Get.f at h
  by_cases c : 0 ≤ a2 ∧ a2 ≤ 8 ∧ 0 ≤ a1 ∧ a1 ≤ (l0.length : Int) ∧ a2 ≤ (l0.length : Int) - a1
  · rw [if_pos c] at h
    simp only [Option.some.injEq, Prod.mk.injEq] at h
    obtain ⟨rfl, rfl⟩ := h
    obtain ⟨n, rfl⟩ := Int.eq_ofNat_of_zero_le c.1
    obtain ⟨a, rfl⟩ := Int.eq_ofNat_of_zero_le c.2.2.1
    exact nums_Get.yes A0 c0 l0 a n w hr0 hc0 (by omega) (by omega)
  · rw [if_neg c] at h
    simp only [Option.some.injEq, Prod.mk.injEq] at h
    obtain ⟨rfl, rfl⟩ := h
    exact nums_Get.no A0 c0 l0 a1 a2 w hr0.2.1 c


end Go.Proofs.Ytkmanjfmffdcbaa.QFrame
