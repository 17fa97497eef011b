/-
  No cell of these rows narrows 'for every input' (looked for: loops, veiled, ifaces, maps, wideKeys, modest, calm, conditions, laid).
  DERIVED. THE GIVEN ROWS OF THIS SEAT. 5 by the template 'for every input the law returns true; each argument reads behind the call as it read before'; 0 by the template 'total and deterministic' (their statements: YtmbiebdcnadhkaaTotals.lean).
  GIVEN WITH THE SEED: the statements are not yours to turn. If you find one false, say at which input.
  Laid BY PROGRAM, IN A SANDBOX (cutbox-rows.mjs): the forced cells as the released guide's own fill.sh prints them over the translation bc999ced83dd4898… (all of the seat's roots in one cut). By AI agents, Wed Nov 11 2026. No macro, syntax, notation, axiom, sorry.
-/
import Derived.Test.YtmbiebdcnadhkaaChecked
import GoSem.Claim
import GoSem.ClaimJoined
import GoSem.ClaimMapViews
import Derived.JoinedTies
import Derived.KernelRfl
namespace Go.Proofs.Ytmbiebdcnadhkaa
/- THE CELL 'sum', in the pinned program and in every row, IS THE sha256 OF THE DUMP (.gsa) THAT YtmbiebdcnadhkaaProg.lean LOADS. Nothing in Lean hashes anything: it is a label: what it is worth is what the hold of that sum in a sandbox is worth. -/
noncomputable def Try.pinned : Pinned := { name := "ytmbiebdcnadhkaa", sum := "bc999ced83dd4898c44df2fff6afa66bbcc112b75fefde57dedbc17db88f98f4", checked := Try.checked }
namespace Rows
def none {H : Type} : Left H := { results := [], args := [] }

/-- 'spencelaw14.SegmentCrash': WHATEVER THE INPUT: true; the input reads as it did. -/
def segmentCrashSpec : ChangeSpec := { name := "segmentCrash", fn := fun _ => fun
  | [d1, d2, d3, d4] => { results := [.lit (.bool true)], args := [d1, d2, d3, d4] }
  | _ => none }
def segmentCrashRow : OpenClaim := { program := "ytmbiebdcnadhkaa", sum := "bc999ced83dd4898c44df2fff6afa66bbcc112b75fefde57dedbc17db88f98f4", func := "spence/spencelaw14.SegmentCrash", spec := "segmentCrash", inPlace := ["internal/bytealg.MakeNoZero"], plainKeys := false, apart := false }
def SegmentCrashSaid : Prop := segmentCrashRow.holds Try.pinned (OpenSpec.ofChange segmentCrashSpec)

/-- ITS FALSE NEIGHBOUR: 'it returns false'. Refute it at one input. -/
def segmentCrashWrong : ChangeSpec := { name := "segmentCrash", fn := fun _ => fun
  | [d1, d2, d3, d4] => { results := [.lit (.bool false)], args := [d1, d2, d3, d4] }
  | _ => none }
def SegmentCrashWrongFalsely : Prop := segmentCrashRow.holds Try.pinned (OpenSpec.ofChange segmentCrashWrong)

/-- 'spencelaw15.SeglogDoes': WHATEVER THE INPUT: true; the input reads as it did. -/
def seglogDoesSpec : ChangeSpec := { name := "seglogDoes", fn := fun _ => fun
  | [d1, d2, d3, d4] => { results := [.lit (.bool true)], args := [d1, d2, d3, d4] }
  | _ => none }
def seglogDoesRow : OpenClaim := { program := "ytmbiebdcnadhkaa", sum := "bc999ced83dd4898c44df2fff6afa66bbcc112b75fefde57dedbc17db88f98f4", func := "spence/spencelaw15.SeglogDoes", spec := "seglogDoes", inPlace := ["internal/bytealg.MakeNoZero"], unfollowed := true, recurses := true, plainKeys := false, apart := false }
def SeglogDoesSaid : Prop := seglogDoesRow.holds Try.pinned (OpenSpec.ofChange seglogDoesSpec)

/-- ITS FALSE NEIGHBOUR: 'it returns false'. Refute it at one input. -/
def seglogDoesWrong : ChangeSpec := { name := "seglogDoes", fn := fun _ => fun
  | [d1, d2, d3, d4] => { results := [.lit (.bool false)], args := [d1, d2, d3, d4] }
  | _ => none }
def SeglogDoesWrongFalsely : Prop := seglogDoesRow.holds Try.pinned (OpenSpec.ofChange seglogDoesWrong)

/-- 'spencelaw14.SegmentPuts': WHATEVER THE INPUT: true; the input reads as it did. -/
def segmentPutsSpec : ChangeSpec := { name := "segmentPuts", fn := fun _ => fun
  | [d1, d2, d3] => { results := [.lit (.bool true)], args := [d1, d2, d3] }
  | _ => none }
def segmentPutsRow : OpenClaim := { program := "ytmbiebdcnadhkaa", sum := "bc999ced83dd4898c44df2fff6afa66bbcc112b75fefde57dedbc17db88f98f4", func := "spence/spencelaw14.SegmentPuts", spec := "segmentPuts", inPlace := ["internal/bytealg.MakeNoZero"], unfollowed := true, recurses := true, plainKeys := false, apart := false }
def SegmentPutsSaid : Prop := segmentPutsRow.holds Try.pinned (OpenSpec.ofChange segmentPutsSpec)

/-- ITS FALSE NEIGHBOUR: 'it returns false'. Refute it at one input. -/
def segmentPutsWrong : ChangeSpec := { name := "segmentPuts", fn := fun _ => fun
  | [d1, d2, d3] => { results := [.lit (.bool false)], args := [d1, d2, d3] }
  | _ => none }
def SegmentPutsWrongFalsely : Prop := segmentPutsRow.holds Try.pinned (OpenSpec.ofChange segmentPutsWrong)

/-- 'spencelaw14.SegmentScans': WHATEVER THE INPUT: true; the input reads as it did. -/
def segmentScansSpec : ChangeSpec := { name := "segmentScans", fn := fun _ => fun
  | [d1, d2, d3, d4, d5] => { results := [.lit (.bool true)], args := [d1, d2, d3, d4, d5] }
  | _ => none }
def segmentScansRow : OpenClaim := { program := "ytmbiebdcnadhkaa", sum := "bc999ced83dd4898c44df2fff6afa66bbcc112b75fefde57dedbc17db88f98f4", func := "spence/spencelaw14.SegmentScans", spec := "segmentScans", inPlace := ["internal/bytealg.MakeNoZero"], unfollowed := true, recurses := true, plainKeys := false, apart := false }
def SegmentScansSaid : Prop := segmentScansRow.holds Try.pinned (OpenSpec.ofChange segmentScansSpec)

/-- ITS FALSE NEIGHBOUR: 'it returns false'. Refute it at one input. -/
def segmentScansWrong : ChangeSpec := { name := "segmentScans", fn := fun _ => fun
  | [d1, d2, d3, d4, d5] => { results := [.lit (.bool false)], args := [d1, d2, d3, d4, d5] }
  | _ => none }
def SegmentScansWrongFalsely : Prop := segmentScansRow.holds Try.pinned (OpenSpec.ofChange segmentScansWrong)

/-- 'spencelaw16.ScanAny': WHATEVER THE INPUT: true; the input reads as it did. -/
def scanAnySpec : ChangeSpec := { name := "scanAny", fn := fun _ => fun
  | [d1, d2, d3] => { results := [.lit (.bool true)], args := [d1, d2, d3] }
  | _ => none }
def scanAnyRow : OpenClaim := { program := "ytmbiebdcnadhkaa", sum := "bc999ced83dd4898c44df2fff6afa66bbcc112b75fefde57dedbc17db88f98f4", func := "spence/spencelaw16.ScanAny", spec := "scanAny", inPlace := ["internal/bytealg.MakeNoZero"], unfollowed := true, recurses := true, plainKeys := false, apart := false }
def ScanAnySaid : Prop := scanAnyRow.holds Try.pinned (OpenSpec.ofChange scanAnySpec)

/-- ITS FALSE NEIGHBOUR: 'it returns false'. Refute it at one input. -/
def scanAnyWrong : ChangeSpec := { name := "scanAny", fn := fun _ => fun
  | [d1, d2, d3] => { results := [.lit (.bool false)], args := [d1, d2, d3] }
  | _ => none }
def ScanAnyWrongFalsely : Prop := scanAnyRow.holds Try.pinned (OpenSpec.ofChange scanAnyWrong)

/- THE SECOND FORM. 'bulk': how many values and letters a reading holds, each counted each time it is reached (what is shared counts as often as it is met; a slice's spare places count too). A statement '..UptoSaid' is the law's where the arguments, and the package variables that the reading takes, are together of bulk at most 1048576: NARROWER than '..Said'. Prove '..Said' where nothing that the law and all that it calls make is longer than what came in: it says more and counts as full. Else prove '..UptoSaid'. A law counts once. -/
mutual
def uptoBulk {H : Type} : DataW H → Nat
  | .lit (.string bytes) => bytes.length + 1
  | .lit _ => 1
  | .nil => 1
  | .ptr d => uptoBulk d + 1
  | .slice elems spare => uptoBulkAll elems + uptoBulkAll spare + 1
  | .agg parts => uptoBulkAll parts + 1
  | .iface _ d => uptoBulk d + 1
  | .map entries => uptoBulkEntries entries + 1
  | .held _ => 1
def uptoBulkAll {H : Type} : List (DataW H) → Nat
  | [] => 0
  | d :: r => uptoBulk d + uptoBulkAll r
def uptoBulkEntries {H : Type} : List (Lit × DataW H) → Nat
  | [] => 0
  | x :: r => uptoBulkEntry x + uptoBulkEntries r
def uptoBulkEntry {H : Type} : Lit × DataW H → Nat
  | (.string bytes, d) => bytes.length + uptoBulk d + 1
  | (_, d) => uptoBulk d + 1
 end
def uptoSmall : (H : Type) → List (DataW H) → Bool := fun _ ds => decide (uptoBulkAll ds ≤ 1048576)
def OpenSpec.upto (s : _root_.Go.ChangeSpec) : _root_.Go.OpenSpec := { _root_.Go.OpenSpec.ofChange s with cond := some uptoSmall }

/-- 'spencelaw14.SegmentCrash', WHERE WHAT IT READS IS OF BULK AT MOST 1048576: true; the input reads as it did. -/
def segmentCrashUptoRow : OpenClaim := { program := "ytmbiebdcnadhkaa", sum := "bc999ced83dd4898c44df2fff6afa66bbcc112b75fefde57dedbc17db88f98f4", func := "spence/spencelaw14.SegmentCrash", spec := "segmentCrash", inPlace := ["internal/bytealg.MakeNoZero"], plainKeys := false, apart := false, narrowed := true }
def SegmentCrashUptoSaid : Prop := segmentCrashUptoRow.holds Try.pinned (OpenSpec.upto segmentCrashSpec)

/-- 'spencelaw15.SeglogDoes', WHERE WHAT IT READS IS OF BULK AT MOST 1048576: true; the input reads as it did. -/
def seglogDoesUptoRow : OpenClaim := { program := "ytmbiebdcnadhkaa", sum := "bc999ced83dd4898c44df2fff6afa66bbcc112b75fefde57dedbc17db88f98f4", func := "spence/spencelaw15.SeglogDoes", spec := "seglogDoes", inPlace := ["internal/bytealg.MakeNoZero"], unfollowed := true, recurses := true, plainKeys := false, apart := false, narrowed := true }
def SeglogDoesUptoSaid : Prop := seglogDoesUptoRow.holds Try.pinned (OpenSpec.upto seglogDoesSpec)

/-- 'spencelaw14.SegmentPuts', WHERE WHAT IT READS IS OF BULK AT MOST 1048576: true; the input reads as it did. -/
def segmentPutsUptoRow : OpenClaim := { program := "ytmbiebdcnadhkaa", sum := "bc999ced83dd4898c44df2fff6afa66bbcc112b75fefde57dedbc17db88f98f4", func := "spence/spencelaw14.SegmentPuts", spec := "segmentPuts", inPlace := ["internal/bytealg.MakeNoZero"], unfollowed := true, recurses := true, plainKeys := false, apart := false, narrowed := true }
def SegmentPutsUptoSaid : Prop := segmentPutsUptoRow.holds Try.pinned (OpenSpec.upto segmentPutsSpec)

/-- 'spencelaw14.SegmentScans', WHERE WHAT IT READS IS OF BULK AT MOST 1048576: true; the input reads as it did. -/
def segmentScansUptoRow : OpenClaim := { program := "ytmbiebdcnadhkaa", sum := "bc999ced83dd4898c44df2fff6afa66bbcc112b75fefde57dedbc17db88f98f4", func := "spence/spencelaw14.SegmentScans", spec := "segmentScans", inPlace := ["internal/bytealg.MakeNoZero"], unfollowed := true, recurses := true, plainKeys := false, apart := false, narrowed := true }
def SegmentScansUptoSaid : Prop := segmentScansUptoRow.holds Try.pinned (OpenSpec.upto segmentScansSpec)

/-- 'spencelaw16.ScanAny', WHERE WHAT IT READS IS OF BULK AT MOST 1048576: true; the input reads as it did. -/
def scanAnyUptoRow : OpenClaim := { program := "ytmbiebdcnadhkaa", sum := "bc999ced83dd4898c44df2fff6afa66bbcc112b75fefde57dedbc17db88f98f4", func := "spence/spencelaw16.ScanAny", spec := "scanAny", inPlace := ["internal/bytealg.MakeNoZero"], unfollowed := true, recurses := true, plainKeys := false, apart := false, narrowed := true }
def ScanAnyUptoSaid : Prop := scanAnyUptoRow.holds Try.pinned (OpenSpec.upto scanAnySpec)

end Rows
end Go.Proofs.Ytmbiebdcnadhkaa
