-- Written by myprint.py, a program of this session (in its repo under wip/tools), out of the loaded functions; Lean checks it.
import Derived.Test.YtkmanjfmffdcbaaQFramex0
import Derived.Test.YtkmanjfmffdcbaaQFramex6
namespace Go.Proofs.Ytkmanjfmffdcbaa.QFrame
open Go.RowKit Go.Proofs.YtkmanjfmffdcbaaW.PrintWords Go.Proofs.YtkmanjfmffdcbaaW.PrintLast Go.Proofs.YtkmanjfmffdcbaaW.PrintMore
attribute [local go_sem] max2_int min2_int max_two min_two max_three min_three max_four min_four   -- for this text's walks alone
set_option linter.unusedVariables false
set_option linter.unusedSimpArgs false

/-! ### crc_Seal: function 60 -/
def crc_Seal.f (k : Nat) (l0 : List Int) : Option (List Int) := (crc_tail.f k l0).bind fun t => (if 0 < l0.length + t.length ∧ l0.length + t.length ≤ 1000000 then some (l0 ++ t) else none)
theorem crc_Seal.mono : ∀ l0 k, LeO (crc_Seal.f k l0) (crc_Seal.f (k + 1) l0) := by
  intro l0 k
  unfold crc_Seal.f
  exact LeO.bind (crc_tail.mono _ _) (fun _ => LeO.refl _)
set_option maxHeartbeats 400000 in
theorem crc_Seal.calls (k : Nat) (A0 : Option Addr) (c0 : Nat) (l0 : List Int) (r : List Int) (w : World) (hr0 : Kd.C (Kd.int .u8) w A0 l0.length l0) (hc0 : l0.length ≤ c0) (h : crc_Seal.f k l0 = some r) :
    Calls Try.prog 60 #[.slice A0 l0.length c0] w fun e w' => ∃ v0_ : Value, e = .returned (v0_) ∧ Kd.R (Kd.int .u8) 5 w' w.heap.size (fun _ => True) v0_ r ∧ Below w.heap.size w w' := by
  obtain ⟨t, A1, H⟩ := Option.bind_eq_some_iff.mp h
  clear h
  by_cases hp : 0 < l0.length + t.length ∧ l0.length + t.length ≤ 1000000
  · rw [if_pos hp] at H
    obtain rfl := Option.some.inj H
    clear H
    have HR0 := Aside0.mk hr0
    have HT := Aside0.mk A1
    have HP := Aside0.mk hp
    have HC := Aside0.mk hc0
    clear hr0 A1 hp hc0
    go_enter Try.func60, Try.ntmps60
    go_wp2_with (first | (go_at_call 83; refine (crc_tail.calls k A0 c0 l0 t _ HR0.out HC.out HT.out).mono ?_; rintro e w1 ⟨v1, rfl, ho, hb⟩; obtain ⟨B1, c1, e1⟩ := Kd.R_slice ho; subst e1; have HO1 := Aside0.mk ho; have HB1 := Aside0.mk hb; clear ho hb) | (go_at_call 86; refine (Hand.concat_any _ A0 B1 c0 c1 l0 t _ ?c1 ?c2 (Kd.C_alloc (Kd.C_below HR0.out HB1.out) _) (Kd.C_alloc (Kd.R_reads' HO1.out).2.2 _) HP.out.1 HP.out.2).mono ?_; (case c1 => simp); (case c2 => simp); rintro e w2 ⟨v2, rfl, ho, hb⟩; have HO2 := Aside0.mk ho; have HB2 := Aside0.mk hb; clear ho hb))
    all_goals
      go_ret
      exact ⟨_, rfl, Kd.R_lower HO2.out (below_size (below_alloc HB1.out _)), below_step (below_alloc HB1.out _) HB2.out⟩
  · rw [if_neg hp] at H
    cases H


end Go.Proofs.Ytkmanjfmffdcbaa.QFrame
