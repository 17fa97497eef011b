-- Written by myprint.py, a program of this session (in its repo under wip/tools), out of the loaded functions; Lean checks it.
import Derived.Test.YtkmanjfmffdcbaaQFramex0
namespace Go.Proofs.Ytkmanjfmffdcbaa.QFrame
open Go.RowKit Go.Proofs.YtkmanjfmffdcbaaW.PrintWords Go.Proofs.YtkmanjfmffdcbaaW.PrintLast Go.Proofs.YtkmanjfmffdcbaaW.PrintMore
attribute [local go_sem] max2_int min2_int max_two min_two max_three min_three max_four min_four   -- for this text's walks alone
set_option linter.unusedVariables false
set_option linter.unusedSimpArgs false

/-! ### spenceref01_Next: function 94 -/
def spenceref01_Next.l0 : Nat → Int → Int → Int → Option (Int)
  | 0, _, _, _ => none
  | k + 1, x0, x1, x5 => if x5 < 8 then (if 0 ≤ x5 then (if (Go.bits .xor .u32 (Go.bits .and .u32 x0 1) (Go.bits .and .u32 ((shr .u8 x1 x5) % 4294967296) 1)) = 1 then (spenceref01_Next.l0 k (Go.bits .xor .u32 ((Int.tdiv x0 2) % 4294967296) 3988292384) x1 (wrap64 (x5 + 1))) else (spenceref01_Next.l0 k ((Int.tdiv x0 2) % 4294967296) x1 (wrap64 (x5 + 1)))) else (none)) else (some x0)
def spenceref01_Next.f (k : Nat) (a0 : Int) (a1 : Int) : Option (Int) := spenceref01_Next.l0 k a0 a1 0
theorem spenceref01_Next.mono_l : ∀ k, (∀ y0 y1 y2, LeO (spenceref01_Next.l0 k y0 y1 y2) (spenceref01_Next.l0 (k + 1) y0 y1 y2))
  | 0 => fun _ _ _ r h => by simp [spenceref01_Next.l0] at h
  | k + 1 => by
    have ih0 := spenceref01_Next.mono_l k
    · intro y0 y1 y2
      unfold spenceref01_Next.l0
      repeat' first
      | (with_reducible exact ih0 _ _ _)
      | (with_reducible exact LeO.refl _)
      | (with_reducible exact LeO.none _)
      | (with_reducible refine LeO.ite ?_ ?_)
      | (with_reducible refine LeO.bind ?_ (fun _ => ?_))
      | exact ih0 _ _ _
      | exact LeO.none _
      | refine LeO.ite ?_ ?_
      | refine LeO.bind ?_ (fun _ => ?_)
theorem spenceref01_Next.mono : ∀ a0 a1 k, LeO (spenceref01_Next.f k a0 a1) (spenceref01_Next.f (k + 1) a0 a1) := by
  intro a0 a1 k
  have ih0 := spenceref01_Next.mono_l k
  unfold spenceref01_Next.f
  repeat' first
      | (with_reducible exact ih0 _ _ _)
      | (with_reducible exact LeO.refl _)
      | (with_reducible exact LeO.none _)
      | (with_reducible refine LeO.ite ?_ ?_)
      | (with_reducible refine LeO.bind ?_ (fun _ => ?_))
      | exact ih0 _ _ _
      | exact LeO.none _
      | refine LeO.ite ?_ ?_
      | refine LeO.bind ?_ (fun _ => ?_)
set_option maxHeartbeats 8000000 in
set_option maxRecDepth 100000 in
theorem spenceref01_Next.calls (k : Nat) (a0 : Int) (a1 : Int) (r : Int) (w : World) (h : spenceref01_Next.f k a0 a1 = some r) :
    Calls Try.prog 94 #[.int .u32 a0, .int .u8 a1] w fun e w' => e = .returned (.int .u32 r) ∧ Drawn0 w w' := by
  have H : (spenceref01_Next.l0 k a0 a1 0) = some r := h
  clear h
  have H' := Aside0.mk H
  clear H
  go_enter Try.func94, Try.ntmps94
  go_wp2
  go_loopg [0, 5] k (fun kq v0 v5 w' => ∃ (x0_1 : Int) (x5_1 : Int), v0 = .int .u32 x0_1 ∧ v5 = .int .i64 x5_1 ∧ Aside0 (spenceref01_Next.l0 kq x0_1 a1 x5_1 = some r) ∧ Aside0 (kq ≤ k) ∧ Drawn0 w w')
  case atStart => exact ⟨(a0), (0), (by first | rfl | (simp; done) | (simp [*]; done)), (by first | rfl | (simp; done) | (simp [*]; done)), H', ⟨Nat.le_refl _⟩, by repeat (first | exact Drawn0.refl _ | apply Drawn0.step)⟩
  case round =>
    clear H'
    try clear p2
    obtain ⟨x0_1, x5_1, rfl, rfl, HA, HK1, ⟨m1, rfl⟩⟩ := hrel
    cases gk with
    | zero => exact absurd HA.out (by simp [spenceref01_Next.l0])
    | succ k1 =>
      have H := HA.out
      clear HA
      simp only [spenceref01_Next.l0] at H
      by_cases c3 : x5_1 < 8
      · rw [if_pos c3] at H
        have c3b0 : decide (x5_1 < 8) = true := decide_eq_true c3
        clear c3
        by_cases c4 : 0 ≤ x5_1
        · rw [if_pos c4] at H
          have c4b0 := eq_true c4
          have c4b1 : decide (0 ≤ x5_1) = true := decide_eq_true c4
          clear c4
          obtain ⟨ji5, hji5⟩ : ∃ j_ : Int, (shr .u8 a1 x5_1) = j_ := ⟨_, rfl⟩
          replace H : (if (Go.bits .xor .u32 (Go.bits .and .u32 x0_1 1) (Go.bits .and .u32 ((ji5) % 4294967296) 1)) = 1 then (spenceref01_Next.l0 k1 (Go.bits .xor .u32 ((Int.tdiv x0_1 2) % 4294967296) 3988292384) a1 (wrap64 (x5_1 + 1))) else (spenceref01_Next.l0 k1 ((Int.tdiv x0_1 2) % 4294967296) a1 (wrap64 (x5_1 + 1)))) = some r := by first | (rw [hji5] at H; exact H) | (simp only [hji5] at H ⊢; exact H)
          have hji5_ : (a1 / 2 ^ min x5_1.toNat 8) = ji5 := hji5
          have hji5z : x5_1 ≤ 8 → (a1 / 2 ^ x5_1.toNat) = ji5 := shr_small hji5
          by_cases c6 : (Go.bits .xor .u32 (Go.bits .and .u32 x0_1 1) (Go.bits .and .u32 ((ji5) % 4294967296) 1)) = 1
          · rw [if_pos c6] at H
            have c6b0 : ((Go.bits .xor .u32 (Go.bits .and .u32 x0_1 1) (Go.bits .and .u32 ((ji5) % 4294967296) 1)) == 1) = true := beq_iff_eq.mpr c6
            have c6b1 : ((Go.bits .xor .u32 (Go.bits .and .u32 x0_1 1) (Go.bits .and .u32 ((ji5) % 4294967296) 1)) != 1) = false := bne_eq_false_iff_eq.mpr c6
            clear c6
            have H' := Aside0.mk H
            clear H
            go_wp2
            go_roundg k1
            case measure => have := HK1.out; omega
            case rel => exact ⟨(Go.bits .xor .u32 ((Int.tdiv x0_1 2) % 4294967296) 3988292384), (wrap64 (x5_1 + 1)), (by first | rfl | (simp; done) | (simp [*]; done)), (by first | rfl | (simp; done) | (simp [*]; done)), H', ⟨by have := HK1.out; omega⟩, by repeat (first | exact Drawn0.refl _ | apply Drawn0.step)⟩
          · rw [if_neg c6] at H
            have c6b0 : ((Go.bits .xor .u32 (Go.bits .and .u32 x0_1 1) (Go.bits .and .u32 ((ji5) % 4294967296) 1)) == 1) = false := beq_eq_false_iff_ne.mpr c6
            have c6b1 : ((Go.bits .xor .u32 (Go.bits .and .u32 x0_1 1) (Go.bits .and .u32 ((ji5) % 4294967296) 1)) != 1) = true := bne_iff_ne.mpr c6
            have H' := Aside0.mk H
            clear H
            go_wp2
            go_roundg k1
            case measure => have := HK1.out; omega
            case rel => exact ⟨((Int.tdiv x0_1 2) % 4294967296), (wrap64 (x5_1 + 1)), (by first | rfl | (simp; done) | (simp [*]; done)), (by first | rfl | (simp; done) | (simp [*]; done)), H', ⟨by have := HK1.out; omega⟩, by repeat (first | exact Drawn0.refl _ | apply Drawn0.step)⟩
        · rw [if_neg c4] at H
          exact absurd H (by simp)
      · rw [if_neg c3] at H
        have c3b0 : decide (x5_1 < 8) = false := decide_eq_false c3
        clear c3
        obtain rfl := Option.some.inj H
        go_wp2
        all_goals
          go_ret
          exact ⟨by first | rfl | (simp; done) | (simp [*]; done), by repeat (first | exact Drawn0.refl _ | apply Drawn0.step)⟩

end Go.Proofs.Ytkmanjfmffdcbaa.QFrame
