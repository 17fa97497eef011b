/-
  No cell of these rows narrows 'for every input' (looked for: loops, veiled, ifaces, maps, wideKeys, modest, calm, conditions, laid).
  DERIVED. THE GIVEN ROWS OF THIS SEAT. 3 by the template 'for every input the law returns true; each argument reads behind the call as it read before'; 0 by the template 'total and deterministic' (their statements: YtmbiebdcnadhkaaGreatTotals.lean).
  GIVEN WITH THE SEED: the statements are not yours to turn. If you find one false, say at which input.
  Laid BY PROGRAM, IN A SANDBOX (cutbox-rows.mjs): the forced cells as the released guide's own fill.sh prints them over the translation 45eae50fa9f06ecf… (all of the seat's roots in one cut). By AI agents, Wed Nov 11 2026. No macro, syntax, notation, axiom, sorry.
-/
import Derived.Test.YtmbiebdcnadhkaaGreatChecked
import GoSem.Claim
import GoSem.ClaimJoined
import GoSem.ClaimMapViews
import Derived.JoinedTies
import Derived.KernelRfl
namespace Go.Proofs.YtmbiebdcnadhkaaGreat
/- THE CELL 'sum', in the pinned program and in every row, IS THE sha256 OF THE DUMP (.gsa) THAT YtmbiebdcnadhkaaGreatProg.lean LOADS. Nothing in Lean hashes anything: it is a label: what it is worth is what the hold of that sum in a sandbox is worth. -/
noncomputable def Tryz.pinned : Pinned := { name := "ytmbiebdcnadhkaagreat", sum := "45eae50fa9f06ecfbde55aa86de0fd3c03fcca1be40f37e3450d1a9f9461717e", checked := Tryz.checked }
namespace Rows
def none {H : Type} : Left H := { results := [], args := [] }

/-- 'spencelaw15.SeglogOwn': WHATEVER THE INPUT: true; the input reads as it did. -/
def seglogOwnSpec : ChangeSpec := { name := "seglogOwn", fn := fun _ => fun
  | [d1, d2, d3, d4, d5] => { results := [.lit (.bool true)], args := [d1, d2, d3, d4, d5] }
  | _ => none }
def seglogOwnRow : OpenClaim := { program := "ytmbiebdcnadhkaagreat", sum := "45eae50fa9f06ecfbde55aa86de0fd3c03fcca1be40f37e3450d1a9f9461717e", func := "spence/spencelaw15.SeglogOwn", spec := "seglogOwn", inPlace := ["internal/bytealg.MakeNoZero", "maps.clone"], unfollowed := true, recurses := true, plainKeys := false, apart := false }
def SeglogOwnSaid : Prop := seglogOwnRow.holds Tryz.pinned (OpenSpec.ofChange seglogOwnSpec)

/-- ITS FALSE NEIGHBOUR: 'it returns false'. Refute it at one input. -/
def seglogOwnWrong : ChangeSpec := { name := "seglogOwn", fn := fun _ => fun
  | [d1, d2, d3, d4, d5] => { results := [.lit (.bool false)], args := [d1, d2, d3, d4, d5] }
  | _ => none }
def SeglogOwnWrongFalsely : Prop := seglogOwnRow.holds Tryz.pinned (OpenSpec.ofChange seglogOwnWrong)

/-- 'spencelaw16.ScanSafe': WHATEVER THE INPUT: true; the input reads as it did. -/
def scanSafeSpec : ChangeSpec := { name := "scanSafe", fn := fun _ => fun
  | [d1, d2, d3, d4] => { results := [.lit (.bool true)], args := [d1, d2, d3, d4] }
  | _ => none }
def scanSafeRow : OpenClaim := { program := "ytmbiebdcnadhkaagreat", sum := "45eae50fa9f06ecfbde55aa86de0fd3c03fcca1be40f37e3450d1a9f9461717e", func := "spence/spencelaw16.ScanSafe", spec := "scanSafe", inPlace := ["internal/bytealg.MakeNoZero"], unfollowed := true, recurses := true, plainKeys := false, apart := false }
def ScanSafeSaid : Prop := scanSafeRow.holds Tryz.pinned (OpenSpec.ofChange scanSafeSpec)

/-- ITS FALSE NEIGHBOUR: 'it returns false'. Refute it at one input. -/
def scanSafeWrong : ChangeSpec := { name := "scanSafe", fn := fun _ => fun
  | [d1, d2, d3, d4] => { results := [.lit (.bool false)], args := [d1, d2, d3, d4] }
  | _ => none }
def ScanSafeWrongFalsely : Prop := scanSafeRow.holds Tryz.pinned (OpenSpec.ofChange scanSafeWrong)

/-- 'spencelaw16.ScanReads': WHATEVER THE INPUT: true; the input reads as it did. -/
def scanReadsSpec : ChangeSpec := { name := "scanReads", fn := fun _ => fun
  | [d1, d2] => { results := [.lit (.bool true)], args := [d1, d2] }
  | _ => none }
def scanReadsRow : OpenClaim := { program := "ytmbiebdcnadhkaagreat", sum := "45eae50fa9f06ecfbde55aa86de0fd3c03fcca1be40f37e3450d1a9f9461717e", func := "spence/spencelaw16.ScanReads", spec := "scanReads", inPlace := ["internal/bytealg.MakeNoZero", "maps.clone"], unfollowed := true, recurses := true, plainKeys := false, apart := false }
def ScanReadsSaid : Prop := scanReadsRow.holds Tryz.pinned (OpenSpec.ofChange scanReadsSpec)

/-- ITS FALSE NEIGHBOUR: 'it returns false'. Refute it at one input. -/
def scanReadsWrong : ChangeSpec := { name := "scanReads", fn := fun _ => fun
  | [d1, d2] => { results := [.lit (.bool false)], args := [d1, d2] }
  | _ => none }
def ScanReadsWrongFalsely : Prop := scanReadsRow.holds Tryz.pinned (OpenSpec.ofChange scanReadsWrong)

/- THE SECOND FORM. 'bulk': how many values and letters a reading holds, each counted each time it is reached (what is shared counts as often as it is met; a slice's spare places count too). A statement '..UptoSaid' is the law's where the arguments, and the package variables that the reading takes, are together of bulk at most 1048576: NARROWER than '..Said'. Prove '..Said' where nothing that the law and all that it calls make is longer than what came in: it says more and counts as full. Else prove '..UptoSaid'. A law counts once. -/
mutual
def uptoBulk {H : Type} : DataW H → Nat
  | .lit (.string bytes) => bytes.length + 1
  | .lit _ => 1
  | .nil => 1
  | .ptr d => uptoBulk d + 1
  | .slice elems spare => uptoBulkAll elems + uptoBulkAll spare + 1
  | .agg parts => uptoBulkAll parts + 1
  | .iface _ d => uptoBulk d + 1
  | .map entries => uptoBulkEntries entries + 1
  | .held _ => 1
def uptoBulkAll {H : Type} : List (DataW H) → Nat
  | [] => 0
  | d :: r => uptoBulk d + uptoBulkAll r
def uptoBulkEntries {H : Type} : List (Lit × DataW H) → Nat
  | [] => 0
  | x :: r => uptoBulkEntry x + uptoBulkEntries r
def uptoBulkEntry {H : Type} : Lit × DataW H → Nat
  | (.string bytes, d) => bytes.length + uptoBulk d + 1
  | (_, d) => uptoBulk d + 1
 end
def uptoSmall : (H : Type) → List (DataW H) → Bool := fun _ ds => decide (uptoBulkAll ds ≤ 1048576)
def OpenSpec.upto (s : _root_.Go.ChangeSpec) : _root_.Go.OpenSpec := { _root_.Go.OpenSpec.ofChange s with cond := some uptoSmall }

/-- 'spencelaw15.SeglogOwn', WHERE WHAT IT READS IS OF BULK AT MOST 1048576: true; the input reads as it did. -/
def seglogOwnUptoRow : OpenClaim := { program := "ytmbiebdcnadhkaagreat", sum := "45eae50fa9f06ecfbde55aa86de0fd3c03fcca1be40f37e3450d1a9f9461717e", func := "spence/spencelaw15.SeglogOwn", spec := "seglogOwn", inPlace := ["internal/bytealg.MakeNoZero", "maps.clone"], unfollowed := true, recurses := true, plainKeys := false, apart := false, narrowed := true }
def SeglogOwnUptoSaid : Prop := seglogOwnUptoRow.holds Tryz.pinned (OpenSpec.upto seglogOwnSpec)

/-- 'spencelaw16.ScanSafe', WHERE WHAT IT READS IS OF BULK AT MOST 1048576: true; the input reads as it did. -/
def scanSafeUptoRow : OpenClaim := { program := "ytmbiebdcnadhkaagreat", sum := "45eae50fa9f06ecfbde55aa86de0fd3c03fcca1be40f37e3450d1a9f9461717e", func := "spence/spencelaw16.ScanSafe", spec := "scanSafe", inPlace := ["internal/bytealg.MakeNoZero"], unfollowed := true, recurses := true, plainKeys := false, apart := false, narrowed := true }
def ScanSafeUptoSaid : Prop := scanSafeUptoRow.holds Tryz.pinned (OpenSpec.upto scanSafeSpec)

/-- 'spencelaw16.ScanReads', WHERE WHAT IT READS IS OF BULK AT MOST 1048576: true; the input reads as it did. -/
def scanReadsUptoRow : OpenClaim := { program := "ytmbiebdcnadhkaagreat", sum := "45eae50fa9f06ecfbde55aa86de0fd3c03fcca1be40f37e3450d1a9f9461717e", func := "spence/spencelaw16.ScanReads", spec := "scanReads", inPlace := ["internal/bytealg.MakeNoZero", "maps.clone"], unfollowed := true, recurses := true, plainKeys := false, apart := false, narrowed := true }
def ScanReadsUptoSaid : Prop := scanReadsUptoRow.holds Tryz.pinned (OpenSpec.upto scanReadsSpec)

end Rows
end Go.Proofs.YtmbiebdcnadhkaaGreat
