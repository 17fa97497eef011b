/- clock.New: walked. -/
import Derived.Test.YtkbialmlddhclaaCkCells
namespace Go.Proofs.Ytkbialmlddhclaa.Ck
open Go.RowKit Go.Proofs.YtkbialmlddhclaaW.PrintWords Go.Proofs.YtkbialmlddhclaaW.PrintMore
set_option linter.unusedSimpArgs false
set_option linter.unusedVariables false
set_option maxHeartbeats 1000000 in
set_option maxRecDepth 100000 in
theorem New_any (w : World) : Calls Try.prog 31 #[] w fun e w' => ∃ V, e = .returned V ∧ RingIs w' V newR ∧ Below w.heap.size w w' := by
  go_enter Try.func31, Try.ntmps31
  go_wp2
  exact bodyPost_ret (res_ring (v := .slice none 0 0) (ms := List.replicate 16 false) Try.results31 _ rfl (blk_new _ _) rfl) rfl ⟨_, rfl, RingIs.of (r := newR) (RowV.nil _) rfl, below_alloc (Below.refl _ _) _⟩
end Go.Proofs.Ytkbialmlddhclaa.Ck
