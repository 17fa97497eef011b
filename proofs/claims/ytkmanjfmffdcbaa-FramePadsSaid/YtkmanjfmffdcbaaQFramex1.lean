-- Written by myprint.py, a program of this session (in its repo under wip/tools), out of the loaded functions; Lean checks it.
import Derived.Test.YtkmanjfmffdcbaaQFramex0
namespace Go.Proofs.Ytkmanjfmffdcbaa.QFrame
open Go.RowKit Go.Proofs.YtkmanjfmffdcbaaW.PrintWords Go.Proofs.YtkmanjfmffdcbaaW.PrintLast Go.Proofs.YtkmanjfmffdcbaaW.PrintMore
attribute [local go_sem] max2_int min2_int max_two min_two max_three min_three max_four min_four   -- for this text's walks alone
set_option linter.unusedVariables false
set_option linter.unusedSimpArgs false

/-! ### slices_Clone_byte_byte: function 84 -/
def slices_Clone_byte_byte.f (l0 : List Int) : Option (List Int) := if l0.length * 1 ≤ 140737488355328 then some l0 else none
theorem slices_Clone_byte_byte.calls (A0 : Option Addr) (c0 : Nat) (l0 : List Int) (r : List Int) (w : World) (hr0 : Kd.C (Kd.int .u8) w A0 l0.length l0) (hc0 : l0.length ≤ c0) (h : slices_Clone_byte_byte.f l0 = some r) :
    Calls Try.prog 84 #[.slice A0 l0.length c0] w fun e w' => ∃ v0_ : Value, e = .returned (v0_) ∧ Kd.R (Kd.int .u8) 5 w' w.heap.size (fun _ => True) v0_ r ∧ Below w.heap.size w w' := by
  unfold slices_Clone_byte_byte.f at h
  split at h
  · rename_i hl
    obtain rfl := Option.some.inj h
    exact Hand.clone_any A0 c0 l0 w hr0 hl
  · cases h


end Go.Proofs.Ytkmanjfmffdcbaa.QFrame
