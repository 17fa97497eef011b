/-
  No cell of these rows narrows 'for every input' (looked for: loops, veiled, ifaces, maps, wideKeys, modest, calm, conditions, laid).
  DERIVED. THE GIVEN ROWS OF THIS SEAT. 9 by the template 'for every input the law returns true; each argument reads behind the call as it read before'; 0 by the template 'total and deterministic' (their statements: YtkmanjfmffdcbaaTotals.lean).
  GIVEN WITH THE SEED: the statements are not yours to turn. If you find one false, say at which input.
  Laid BY PROGRAM, IN A SANDBOX (cutbox-rows.mjs): the forced cells as the released guide's own fill.sh prints them over the translation 1cfd5351b132b6f5… (all of the seat's roots in one cut). By AI agents, Wed Nov 11 2026. No macro, syntax, notation, axiom, sorry.
-/
import Derived.Test.YtkmanjfmffdcbaaChecked
import GoSem.Claim
import GoSem.ClaimJoined
import GoSem.ClaimMapViews
import Derived.JoinedTies
import Derived.KernelRfl
namespace Go.Proofs.Ytkmanjfmffdcbaa
/- THE CELL 'sum', in the pinned program and in every row, IS THE sha256 OF THE DUMP (.gsa) THAT YtkmanjfmffdcbaaProg.lean LOADS. Nothing in Lean hashes anything: it is a label: what it is worth is what the hold of that sum in a sandbox is worth. -/
noncomputable def Try.pinned : Pinned := { name := "ytkmanjfmffdcbaa", sum := "1cfd5351b132b6f57fad2f9d5d541cd50d4fd551bf5b36ff1340258bf4663142", checked := Try.checked }
namespace Rows
def none {H : Type} : Left H := { results := [], args := [] }

/-- 'spencelaw13.FrameGets': WHATEVER THE INPUT: true; the input reads as it did. -/
def frameGetsSpec : ChangeSpec := { name := "frameGets", fn := fun _ => fun
  | [d] => { results := [.lit (.bool true)], args := [d] }
  | _ => none }
def frameGetsRow : OpenClaim := { program := "ytkmanjfmffdcbaa", sum := "1cfd5351b132b6f57fad2f9d5d541cd50d4fd551bf5b36ff1340258bf4663142", func := "spence/spencelaw13.FrameGets", spec := "frameGets", plainKeys := false, apart := false }
def FrameGetsSaid : Prop := frameGetsRow.holds Try.pinned (OpenSpec.ofChange frameGetsSpec)

/-- ITS FALSE NEIGHBOUR: 'it returns false'. Refute it at one input. -/
def frameGetsWrong : ChangeSpec := { name := "frameGets", fn := fun _ => fun
  | [d] => { results := [.lit (.bool false)], args := [d] }
  | _ => none }
def FrameGetsWrongFalsely : Prop := frameGetsRow.holds Try.pinned (OpenSpec.ofChange frameGetsWrong)

/-- 'spencelaw13.FrameOne': WHATEVER THE INPUT: true; the input reads as it did. -/
def frameOneSpec : ChangeSpec := { name := "frameOne", fn := fun _ => fun
  | [d1, d2, d3] => { results := [.lit (.bool true)], args := [d1, d2, d3] }
  | _ => none }
def frameOneRow : OpenClaim := { program := "ytkmanjfmffdcbaa", sum := "1cfd5351b132b6f57fad2f9d5d541cd50d4fd551bf5b36ff1340258bf4663142", func := "spence/spencelaw13.FrameOne", spec := "frameOne", plainKeys := false, apart := false }
def FrameOneSaid : Prop := frameOneRow.holds Try.pinned (OpenSpec.ofChange frameOneSpec)

/-- ITS FALSE NEIGHBOUR: 'it returns false'. Refute it at one input. -/
def frameOneWrong : ChangeSpec := { name := "frameOne", fn := fun _ => fun
  | [d1, d2, d3] => { results := [.lit (.bool false)], args := [d1, d2, d3] }
  | _ => none }
def FrameOneWrongFalsely : Prop := frameOneRow.holds Try.pinned (OpenSpec.ofChange frameOneWrong)

/-- 'spencelaw13.FramePuts': WHATEVER THE INPUT: true; the input reads as it did. -/
def framePutsSpec : ChangeSpec := { name := "framePuts", fn := fun _ => fun
  | [d1, d2, d3, d4] => { results := [.lit (.bool true)], args := [d1, d2, d3, d4] }
  | _ => none }
def framePutsRow : OpenClaim := { program := "ytkmanjfmffdcbaa", sum := "1cfd5351b132b6f57fad2f9d5d541cd50d4fd551bf5b36ff1340258bf4663142", func := "spence/spencelaw13.FramePuts", spec := "framePuts", plainKeys := false, apart := false }
def FramePutsSaid : Prop := framePutsRow.holds Try.pinned (OpenSpec.ofChange framePutsSpec)

/-- ITS FALSE NEIGHBOUR: 'it returns false'. Refute it at one input. -/
def framePutsWrong : ChangeSpec := { name := "framePuts", fn := fun _ => fun
  | [d1, d2, d3, d4] => { results := [.lit (.bool false)], args := [d1, d2, d3, d4] }
  | _ => none }
def FramePutsWrongFalsely : Prop := framePutsRow.holds Try.pinned (OpenSpec.ofChange framePutsWrong)

/-- 'spencelaw13.FramePads': WHATEVER THE INPUT: true; the input reads as it did. -/
def framePadsSpec : ChangeSpec := { name := "framePads", fn := fun _ => fun
  | [d1, d2] => { results := [.lit (.bool true)], args := [d1, d2] }
  | _ => none }
def framePadsRow : OpenClaim := { program := "ytkmanjfmffdcbaa", sum := "1cfd5351b132b6f57fad2f9d5d541cd50d4fd551bf5b36ff1340258bf4663142", func := "spence/spencelaw13.FramePads", spec := "framePads", inPlace := ["internal/bytealg.MakeNoZero"], plainKeys := false, apart := false }
def FramePadsSaid : Prop := framePadsRow.holds Try.pinned (OpenSpec.ofChange framePadsSpec)

/-- ITS FALSE NEIGHBOUR: 'it returns false'. Refute it at one input. -/
def framePadsWrong : ChangeSpec := { name := "framePads", fn := fun _ => fun
  | [d1, d2] => { results := [.lit (.bool false)], args := [d1, d2] }
  | _ => none }
def FramePadsWrongFalsely : Prop := framePadsRow.holds Try.pinned (OpenSpec.ofChange framePadsWrong)

/-- 'spencelaw11.FlashDoes': WHATEVER THE INPUT: true; the input reads as it did. -/
def flashDoesSpec : ChangeSpec := { name := "flashDoes", fn := fun _ => fun
  | [d1, d2] => { results := [.lit (.bool true)], args := [d1, d2] }
  | _ => none }
def flashDoesRow : OpenClaim := { program := "ytkmanjfmffdcbaa", sum := "1cfd5351b132b6f57fad2f9d5d541cd50d4fd551bf5b36ff1340258bf4663142", func := "spence/spencelaw11.FlashDoes", spec := "flashDoes", inPlace := ["internal/bytealg.MakeNoZero"], unfollowed := true, recurses := true, plainKeys := false, apart := false }
def FlashDoesSaid : Prop := flashDoesRow.holds Try.pinned (OpenSpec.ofChange flashDoesSpec)

/-- ITS FALSE NEIGHBOUR: 'it returns false'. Refute it at one input. -/
def flashDoesWrong : ChangeSpec := { name := "flashDoes", fn := fun _ => fun
  | [d1, d2] => { results := [.lit (.bool false)], args := [d1, d2] }
  | _ => none }
def FlashDoesWrongFalsely : Prop := flashDoesRow.holds Try.pinned (OpenSpec.ofChange flashDoesWrong)

/-- 'spencelaw11.FlashCrashes': WHATEVER THE INPUT: true; the input reads as it did. -/
def flashCrashesSpec : ChangeSpec := { name := "flashCrashes", fn := fun _ => fun
  | [d1, d2, d3, d4] => { results := [.lit (.bool true)], args := [d1, d2, d3, d4] }
  | _ => none }
def flashCrashesRow : OpenClaim := { program := "ytkmanjfmffdcbaa", sum := "1cfd5351b132b6f57fad2f9d5d541cd50d4fd551bf5b36ff1340258bf4663142", func := "spence/spencelaw11.FlashCrashes", spec := "flashCrashes", inPlace := ["internal/bytealg.MakeNoZero"], unfollowed := true, recurses := true, plainKeys := false, apart := false }
def FlashCrashesSaid : Prop := flashCrashesRow.holds Try.pinned (OpenSpec.ofChange flashCrashesSpec)

/-- ITS FALSE NEIGHBOUR: 'it returns false'. Refute it at one input. -/
def flashCrashesWrong : ChangeSpec := { name := "flashCrashes", fn := fun _ => fun
  | [d1, d2, d3, d4] => { results := [.lit (.bool false)], args := [d1, d2, d3, d4] }
  | _ => none }
def FlashCrashesWrongFalsely : Prop := flashCrashesRow.holds Try.pinned (OpenSpec.ofChange flashCrashesWrong)

/-- 'spencelaw11.FlashOwn': WHATEVER THE INPUT: true; the input reads as it did. -/
def flashOwnSpec : ChangeSpec := { name := "flashOwn", fn := fun _ => fun
  | [d1, d2, d3, d4, d5] => { results := [.lit (.bool true)], args := [d1, d2, d3, d4, d5] }
  | _ => none }
def flashOwnRow : OpenClaim := { program := "ytkmanjfmffdcbaa", sum := "1cfd5351b132b6f57fad2f9d5d541cd50d4fd551bf5b36ff1340258bf4663142", func := "spence/spencelaw11.FlashOwn", spec := "flashOwn", inPlace := ["internal/bytealg.MakeNoZero", "maps.clone"], unfollowed := true, recurses := true, plainKeys := false, apart := false }
def FlashOwnSaid : Prop := flashOwnRow.holds Try.pinned (OpenSpec.ofChange flashOwnSpec)

/-- ITS FALSE NEIGHBOUR: 'it returns false'. Refute it at one input. -/
def flashOwnWrong : ChangeSpec := { name := "flashOwn", fn := fun _ => fun
  | [d1, d2, d3, d4, d5] => { results := [.lit (.bool false)], args := [d1, d2, d3, d4, d5] }
  | _ => none }
def FlashOwnWrongFalsely : Prop := flashOwnRow.holds Try.pinned (OpenSpec.ofChange flashOwnWrong)

/-- 'spencelaw12.CrashAfter': WHATEVER THE INPUT: true; the input reads as it did. -/
def crashAfterSpec : ChangeSpec := { name := "crashAfter", fn := fun _ => fun
  | [d1, d2, d3] => { results := [.lit (.bool true)], args := [d1, d2, d3] }
  | _ => none }
def crashAfterRow : OpenClaim := { program := "ytkmanjfmffdcbaa", sum := "1cfd5351b132b6f57fad2f9d5d541cd50d4fd551bf5b36ff1340258bf4663142", func := "spence/spencelaw12.CrashAfter", spec := "crashAfter", inPlace := ["internal/bytealg.MakeNoZero", "maps.clone"], unfollowed := true, recurses := true, plainKeys := false, apart := false }
def CrashAfterSaid : Prop := crashAfterRow.holds Try.pinned (OpenSpec.ofChange crashAfterSpec)

/-- ITS FALSE NEIGHBOUR: 'it returns false'. Refute it at one input. -/
def crashAfterWrong : ChangeSpec := { name := "crashAfter", fn := fun _ => fun
  | [d1, d2, d3] => { results := [.lit (.bool false)], args := [d1, d2, d3] }
  | _ => none }
def CrashAfterWrongFalsely : Prop := crashAfterRow.holds Try.pinned (OpenSpec.ofChange crashAfterWrong)

/-- 'spencelaw12.CrashWithin': WHATEVER THE INPUT: true; the input reads as it did. -/
def crashWithinSpec : ChangeSpec := { name := "crashWithin", fn := fun _ => fun
  | [d1, d2, d3, d4] => { results := [.lit (.bool true)], args := [d1, d2, d3, d4] }
  | _ => none }
def crashWithinRow : OpenClaim := { program := "ytkmanjfmffdcbaa", sum := "1cfd5351b132b6f57fad2f9d5d541cd50d4fd551bf5b36ff1340258bf4663142", func := "spence/spencelaw12.CrashWithin", spec := "crashWithin", inPlace := ["internal/bytealg.MakeNoZero", "maps.clone"], unfollowed := true, recurses := true, plainKeys := false, apart := false }
def CrashWithinSaid : Prop := crashWithinRow.holds Try.pinned (OpenSpec.ofChange crashWithinSpec)

/-- ITS FALSE NEIGHBOUR: 'it returns false'. Refute it at one input. -/
def crashWithinWrong : ChangeSpec := { name := "crashWithin", fn := fun _ => fun
  | [d1, d2, d3, d4] => { results := [.lit (.bool false)], args := [d1, d2, d3, d4] }
  | _ => none }
def CrashWithinWrongFalsely : Prop := crashWithinRow.holds Try.pinned (OpenSpec.ofChange crashWithinWrong)

/- THE SECOND FORM. 'bulk': how many values and letters a reading holds, each counted each time it is reached (what is shared counts as often as it is met; a slice's spare places count too). A statement '..UptoSaid' is the law's where the arguments, and the package variables that the reading takes, are together of bulk at most 1048576: NARROWER than '..Said'. Prove '..Said' where nothing that the law and all that it calls make is longer than what came in: it says more and counts as full. Else prove '..UptoSaid'. A law counts once. -/
mutual
def uptoBulk {H : Type} : DataW H → Nat
  | .lit (.string bytes) => bytes.length + 1
  | .lit _ => 1
  | .nil => 1
  | .ptr d => uptoBulk d + 1
  | .slice elems spare => uptoBulkAll elems + uptoBulkAll spare + 1
  | .agg parts => uptoBulkAll parts + 1
  | .iface _ d => uptoBulk d + 1
  | .map entries => uptoBulkEntries entries + 1
  | .held _ => 1
def uptoBulkAll {H : Type} : List (DataW H) → Nat
  | [] => 0
  | d :: r => uptoBulk d + uptoBulkAll r
def uptoBulkEntries {H : Type} : List (Lit × DataW H) → Nat
  | [] => 0
  | x :: r => uptoBulkEntry x + uptoBulkEntries r
def uptoBulkEntry {H : Type} : Lit × DataW H → Nat
  | (.string bytes, d) => bytes.length + uptoBulk d + 1
  | (_, d) => uptoBulk d + 1
 end
def uptoSmall : (H : Type) → List (DataW H) → Bool := fun _ ds => decide (uptoBulkAll ds ≤ 1048576)
def OpenSpec.upto (s : _root_.Go.ChangeSpec) : _root_.Go.OpenSpec := { _root_.Go.OpenSpec.ofChange s with cond := some uptoSmall }

/-- 'spencelaw13.FrameGets', WHERE WHAT IT READS IS OF BULK AT MOST 1048576: true; the input reads as it did. -/
def frameGetsUptoRow : OpenClaim := { program := "ytkmanjfmffdcbaa", sum := "1cfd5351b132b6f57fad2f9d5d541cd50d4fd551bf5b36ff1340258bf4663142", func := "spence/spencelaw13.FrameGets", spec := "frameGets", plainKeys := false, apart := false, narrowed := true }
def FrameGetsUptoSaid : Prop := frameGetsUptoRow.holds Try.pinned (OpenSpec.upto frameGetsSpec)

/-- 'spencelaw13.FrameOne', WHERE WHAT IT READS IS OF BULK AT MOST 1048576: true; the input reads as it did. -/
def frameOneUptoRow : OpenClaim := { program := "ytkmanjfmffdcbaa", sum := "1cfd5351b132b6f57fad2f9d5d541cd50d4fd551bf5b36ff1340258bf4663142", func := "spence/spencelaw13.FrameOne", spec := "frameOne", plainKeys := false, apart := false, narrowed := true }
def FrameOneUptoSaid : Prop := frameOneUptoRow.holds Try.pinned (OpenSpec.upto frameOneSpec)

/-- 'spencelaw13.FramePuts', WHERE WHAT IT READS IS OF BULK AT MOST 1048576: true; the input reads as it did. -/
def framePutsUptoRow : OpenClaim := { program := "ytkmanjfmffdcbaa", sum := "1cfd5351b132b6f57fad2f9d5d541cd50d4fd551bf5b36ff1340258bf4663142", func := "spence/spencelaw13.FramePuts", spec := "framePuts", plainKeys := false, apart := false, narrowed := true }
def FramePutsUptoSaid : Prop := framePutsUptoRow.holds Try.pinned (OpenSpec.upto framePutsSpec)

/-- 'spencelaw13.FramePads', WHERE WHAT IT READS IS OF BULK AT MOST 1048576: true; the input reads as it did. -/
def framePadsUptoRow : OpenClaim := { program := "ytkmanjfmffdcbaa", sum := "1cfd5351b132b6f57fad2f9d5d541cd50d4fd551bf5b36ff1340258bf4663142", func := "spence/spencelaw13.FramePads", spec := "framePads", inPlace := ["internal/bytealg.MakeNoZero"], plainKeys := false, apart := false, narrowed := true }
def FramePadsUptoSaid : Prop := framePadsUptoRow.holds Try.pinned (OpenSpec.upto framePadsSpec)

/-- 'spencelaw11.FlashDoes', WHERE WHAT IT READS IS OF BULK AT MOST 1048576: true; the input reads as it did. -/
def flashDoesUptoRow : OpenClaim := { program := "ytkmanjfmffdcbaa", sum := "1cfd5351b132b6f57fad2f9d5d541cd50d4fd551bf5b36ff1340258bf4663142", func := "spence/spencelaw11.FlashDoes", spec := "flashDoes", inPlace := ["internal/bytealg.MakeNoZero"], unfollowed := true, recurses := true, plainKeys := false, apart := false, narrowed := true }
def FlashDoesUptoSaid : Prop := flashDoesUptoRow.holds Try.pinned (OpenSpec.upto flashDoesSpec)

/-- 'spencelaw11.FlashCrashes', WHERE WHAT IT READS IS OF BULK AT MOST 1048576: true; the input reads as it did. -/
def flashCrashesUptoRow : OpenClaim := { program := "ytkmanjfmffdcbaa", sum := "1cfd5351b132b6f57fad2f9d5d541cd50d4fd551bf5b36ff1340258bf4663142", func := "spence/spencelaw11.FlashCrashes", spec := "flashCrashes", inPlace := ["internal/bytealg.MakeNoZero"], unfollowed := true, recurses := true, plainKeys := false, apart := false, narrowed := true }
def FlashCrashesUptoSaid : Prop := flashCrashesUptoRow.holds Try.pinned (OpenSpec.upto flashCrashesSpec)

/-- 'spencelaw11.FlashOwn', WHERE WHAT IT READS IS OF BULK AT MOST 1048576: true; the input reads as it did. -/
def flashOwnUptoRow : OpenClaim := { program := "ytkmanjfmffdcbaa", sum := "1cfd5351b132b6f57fad2f9d5d541cd50d4fd551bf5b36ff1340258bf4663142", func := "spence/spencelaw11.FlashOwn", spec := "flashOwn", inPlace := ["internal/bytealg.MakeNoZero", "maps.clone"], unfollowed := true, recurses := true, plainKeys := false, apart := false, narrowed := true }
def FlashOwnUptoSaid : Prop := flashOwnUptoRow.holds Try.pinned (OpenSpec.upto flashOwnSpec)

/-- 'spencelaw12.CrashAfter', WHERE WHAT IT READS IS OF BULK AT MOST 1048576: true; the input reads as it did. -/
def crashAfterUptoRow : OpenClaim := { program := "ytkmanjfmffdcbaa", sum := "1cfd5351b132b6f57fad2f9d5d541cd50d4fd551bf5b36ff1340258bf4663142", func := "spence/spencelaw12.CrashAfter", spec := "crashAfter", inPlace := ["internal/bytealg.MakeNoZero", "maps.clone"], unfollowed := true, recurses := true, plainKeys := false, apart := false, narrowed := true }
def CrashAfterUptoSaid : Prop := crashAfterUptoRow.holds Try.pinned (OpenSpec.upto crashAfterSpec)

/-- 'spencelaw12.CrashWithin', WHERE WHAT IT READS IS OF BULK AT MOST 1048576: true; the input reads as it did. -/
def crashWithinUptoRow : OpenClaim := { program := "ytkmanjfmffdcbaa", sum := "1cfd5351b132b6f57fad2f9d5d541cd50d4fd551bf5b36ff1340258bf4663142", func := "spence/spencelaw12.CrashWithin", spec := "crashWithin", inPlace := ["internal/bytealg.MakeNoZero", "maps.clone"], unfollowed := true, recurses := true, plainKeys := false, apart := false, narrowed := true }
def CrashWithinUptoSaid : Prop := crashWithinUptoRow.holds Try.pinned (OpenSpec.upto crashWithinSpec)

end Rows
end Go.Proofs.Ytkmanjfmffdcbaa
