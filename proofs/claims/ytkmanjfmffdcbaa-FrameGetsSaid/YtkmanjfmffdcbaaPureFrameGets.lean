/- What the law FrameGets comes to, in plain words. -/
import Derived.OpenShut
import Derived.Test.YtkmanjfmffdcbaaFrameFacts
import Derived.Test.YtkmanjfmffdcbaaQFramex23
namespace Go.Proofs.Ytkmanjfmffdcbaa.Pure
open Go.RowKit Go.Proofs.Ytkmanjfmffdcbaa.QFrame Go.Proofs.YtkmanjfmffdcbaaW.PrintWords Go.Proofs.YtkmanjfmffdcbaaW.PrintLast Go.Proofs.Ytkmanjfmffdcbaa.FrameFacts Go.Proofs.Ytkmanjfmffdcbaa.NumMath

theorem FrameGets : spencelaw13_FrameGets.Pure := by
  intro l _ _ hw
  have hl : Byt l := fun x hx => Go.bounds_u8 (hw x hx)
  refine ⟨l.length + 300, ?_⟩
  unfold spencelaw13_FrameGets.f
  rw [awake_is _ (by omega), Option.bind_some, if_pos rfl]
  by_cases h : (l.length : Int) > 6000
  · rw [if_pos h]
  · rw [if_neg h, get_is _ l hl (by omega) (by omega), Option.bind_some, show l.length + 300 = (l.length + 297) + 3 by omega, parse_is _ l hl (by omega) (by omega), Option.bind_some, if_pos rfl, if_pos rfl]
    rw [same_is _ _ _ _ ?_ ?_, Option.bind_some]
    all_goals
      unfold parsed
      split <;> try split
    all_goals first | (simp; done) | (simp; omega)
end Go.Proofs.Ytkmanjfmffdcbaa.Pure
