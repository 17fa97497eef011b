/-
  No cell of these rows narrows 'for every input' (looked for: loops, veiled, ifaces, maps, wideKeys, modest, calm, conditions, laid).
  DERIVED. THE GIVEN ROWS OF THIS SEAT. 12 by the template 'for every input the law returns true; each argument reads behind the call as it read before'; 0 by the template 'total and deterministic' (their statements: YtkbialmlddhclaaTotals.lean).
  GIVEN WITH THE SEED: the statements are not yours to turn. If you find one false, say at which input.
  Laid BY PROGRAM, IN A SANDBOX (cutbox-rows.mjs): the forced cells as the released guide's own fill.sh prints them over the translation c9ff1157689d2b11… (all of the seat's roots in one cut). By AI agents, Wed Nov 11 2026. No macro, syntax, notation, axiom, sorry.
-/
import Derived.Test.YtkbialmlddhclaaChecked
import GoSem.Claim
import GoSem.ClaimJoined
import GoSem.ClaimMapViews
import Derived.JoinedTies
import Derived.KernelRfl
namespace Go.Proofs.Ytkbialmlddhclaa
/- THE CELL 'sum', in the pinned program and in every row, IS THE sha256 OF THE DUMP (.gsa) THAT YtkbialmlddhclaaProg.lean LOADS. Nothing in Lean hashes anything: it is a label: what it is worth is what the hold of that sum in a sandbox is worth. -/
noncomputable def Try.pinned : Pinned := { name := "ytkbialmlddhclaa", sum := "c9ff1157689d2b11c43e0b6a670a88fddb9bad65b0f01c8d6d22c697fab18eae", checked := Try.checked }
namespace Rows
def none {H : Type} : Left H := { results := [], args := [] }

/-- 'spencelaw02.CrcSums': WHATEVER THE INPUT: true; the input reads as it did. -/
def crcSumsSpec : ChangeSpec := { name := "crcSums", fn := fun _ => fun
  | [d1, d2, d3] => { results := [.lit (.bool true)], args := [d1, d2, d3] }
  | _ => none }
def crcSumsRow : OpenClaim := { program := "ytkbialmlddhclaa", sum := "c9ff1157689d2b11c43e0b6a670a88fddb9bad65b0f01c8d6d22c697fab18eae", func := "spence/spencelaw02.CrcSums", spec := "crcSums", apart := false }
def CrcSumsSaid : Prop := crcSumsRow.holds Try.pinned (OpenSpec.ofChange crcSumsSpec)

/-- ITS FALSE NEIGHBOUR: 'it returns false'. Refute it at one input. -/
def crcSumsWrong : ChangeSpec := { name := "crcSums", fn := fun _ => fun
  | [d1, d2, d3] => { results := [.lit (.bool false)], args := [d1, d2, d3] }
  | _ => none }
def CrcSumsWrongFalsely : Prop := crcSumsRow.holds Try.pinned (OpenSpec.ofChange crcSumsWrong)

/-- 'spencelaw12.CrashAll': WHATEVER THE INPUT: true; the input reads as it did. -/
def crashAllSpec : ChangeSpec := { name := "crashAll", fn := fun _ => fun
  | [d1, d2, d3, d4, d5] => { results := [.lit (.bool true)], args := [d1, d2, d3, d4, d5] }
  | _ => none }
def crashAllRow : OpenClaim := { program := "ytkbialmlddhclaa", sum := "c9ff1157689d2b11c43e0b6a670a88fddb9bad65b0f01c8d6d22c697fab18eae", func := "spence/spencelaw12.CrashAll", spec := "crashAll", unfollowed := true, recurses := true, apart := false }
def CrashAllSaid : Prop := crashAllRow.holds Try.pinned (OpenSpec.ofChange crashAllSpec)

/-- ITS FALSE NEIGHBOUR: 'it returns false'. Refute it at one input. -/
def crashAllWrong : ChangeSpec := { name := "crashAll", fn := fun _ => fun
  | [d1, d2, d3, d4, d5] => { results := [.lit (.bool false)], args := [d1, d2, d3, d4, d5] }
  | _ => none }
def CrashAllWrongFalsely : Prop := crashAllRow.holds Try.pinned (OpenSpec.ofChange crashAllWrong)

/-- 'spencelaw36.FreshTells': WHATEVER THE INPUT: true; the input reads as it did. -/
def freshTellsSpec : ChangeSpec := { name := "freshTells", fn := fun _ => fun
  | [d1, d2, d3] => { results := [.lit (.bool true)], args := [d1, d2, d3] }
  | _ => none }
def freshTellsRow : OpenClaim := { program := "ytkbialmlddhclaa", sum := "c9ff1157689d2b11c43e0b6a670a88fddb9bad65b0f01c8d6d22c697fab18eae", func := "spence/spencelaw36.FreshTells", spec := "freshTells", apart := false }
def FreshTellsSaid : Prop := freshTellsRow.holds Try.pinned (OpenSpec.ofChange freshTellsSpec)

/-- ITS FALSE NEIGHBOUR: 'it returns false'. Refute it at one input. -/
def freshTellsWrong : ChangeSpec := { name := "freshTells", fn := fun _ => fun
  | [d1, d2, d3] => { results := [.lit (.bool false)], args := [d1, d2, d3] }
  | _ => none }
def FreshTellsWrongFalsely : Prop := freshTellsRow.holds Try.pinned (OpenSpec.ofChange freshTellsWrong)

/-- 'spencelaw36.FreshGoes': WHATEVER THE INPUT: true; the input reads as it did. -/
def freshGoesSpec : ChangeSpec := { name := "freshGoes", fn := fun _ => fun
  | [d1, d2, d3, d4, d5] => { results := [.lit (.bool true)], args := [d1, d2, d3, d4, d5] }
  | _ => none }
def freshGoesRow : OpenClaim := { program := "ytkbialmlddhclaa", sum := "c9ff1157689d2b11c43e0b6a670a88fddb9bad65b0f01c8d6d22c697fab18eae", func := "spence/spencelaw36.FreshGoes", spec := "freshGoes", apart := false }
def FreshGoesSaid : Prop := freshGoesRow.holds Try.pinned (OpenSpec.ofChange freshGoesSpec)

/-- ITS FALSE NEIGHBOUR: 'it returns false'. Refute it at one input. -/
def freshGoesWrong : ChangeSpec := { name := "freshGoes", fn := fun _ => fun
  | [d1, d2, d3, d4, d5] => { results := [.lit (.bool false)], args := [d1, d2, d3, d4, d5] }
  | _ => none }
def FreshGoesWrongFalsely : Prop := freshGoesRow.holds Try.pinned (OpenSpec.ofChange freshGoesWrong)

/-- 'spencelaw24.ClockChance': WHATEVER THE INPUT: true; the input reads as it did. -/
def clockChanceSpec : ChangeSpec := { name := "clockChance", fn := fun _ => fun
  | [d1, d2] => { results := [.lit (.bool true)], args := [d1, d2] }
  | _ => none }
def clockChanceRow : OpenClaim := { program := "ytkbialmlddhclaa", sum := "c9ff1157689d2b11c43e0b6a670a88fddb9bad65b0f01c8d6d22c697fab18eae", func := "spence/spencelaw24.ClockChance", spec := "clockChance", apart := false }
def ClockChanceSaid : Prop := clockChanceRow.holds Try.pinned (OpenSpec.ofChange clockChanceSpec)

/-- ITS FALSE NEIGHBOUR: 'it returns false'. Refute it at one input. -/
def clockChanceWrong : ChangeSpec := { name := "clockChance", fn := fun _ => fun
  | [d1, d2] => { results := [.lit (.bool false)], args := [d1, d2] }
  | _ => none }
def ClockChanceWrongFalsely : Prop := clockChanceRow.holds Try.pinned (OpenSpec.ofChange clockChanceWrong)

/-- 'spencelaw17.CodecPieces': WHATEVER THE INPUT: true; the input reads as it did. -/
def codecPiecesSpec : ChangeSpec := { name := "codecPieces", fn := fun _ => fun
  | [d1, d2] => { results := [.lit (.bool true)], args := [d1, d2] }
  | _ => none }
def codecPiecesRow : OpenClaim := { program := "ytkbialmlddhclaa", sum := "c9ff1157689d2b11c43e0b6a670a88fddb9bad65b0f01c8d6d22c697fab18eae", func := "spence/spencelaw17.CodecPieces", spec := "codecPieces", apart := false }
def CodecPiecesSaid : Prop := codecPiecesRow.holds Try.pinned (OpenSpec.ofChange codecPiecesSpec)

/-- ITS FALSE NEIGHBOUR: 'it returns false'. Refute it at one input. -/
def codecPiecesWrong : ChangeSpec := { name := "codecPieces", fn := fun _ => fun
  | [d1, d2] => { results := [.lit (.bool false)], args := [d1, d2] }
  | _ => none }
def CodecPiecesWrongFalsely : Prop := codecPiecesRow.holds Try.pinned (OpenSpec.ofChange codecPiecesWrong)

/-- 'spencelaw24.ClockDoes': WHATEVER THE INPUT: true; the input reads as it did. -/
def clockDoesSpec : ChangeSpec := { name := "clockDoes", fn := fun _ => fun
  | [d1, d2] => { results := [.lit (.bool true)], args := [d1, d2] }
  | _ => none }
def clockDoesRow : OpenClaim := { program := "ytkbialmlddhclaa", sum := "c9ff1157689d2b11c43e0b6a670a88fddb9bad65b0f01c8d6d22c697fab18eae", func := "spence/spencelaw24.ClockDoes", spec := "clockDoes", apart := false }
def ClockDoesSaid : Prop := clockDoesRow.holds Try.pinned (OpenSpec.ofChange clockDoesSpec)

/-- ITS FALSE NEIGHBOUR: 'it returns false'. Refute it at one input. -/
def clockDoesWrong : ChangeSpec := { name := "clockDoes", fn := fun _ => fun
  | [d1, d2] => { results := [.lit (.bool false)], args := [d1, d2] }
  | _ => none }
def ClockDoesWrongFalsely : Prop := clockDoesRow.holds Try.pinned (OpenSpec.ofChange clockDoesWrong)

/-- 'spencelaw02.CrcSeals': WHATEVER THE INPUT: true; the input reads as it did. -/
def crcSealsSpec : ChangeSpec := { name := "crcSeals", fn := fun _ => fun
  | [d1, d2] => { results := [.lit (.bool true)], args := [d1, d2] }
  | _ => none }
def crcSealsRow : OpenClaim := { program := "ytkbialmlddhclaa", sum := "c9ff1157689d2b11c43e0b6a670a88fddb9bad65b0f01c8d6d22c697fab18eae", func := "spence/spencelaw02.CrcSeals", spec := "crcSeals", apart := false }
def CrcSealsSaid : Prop := crcSealsRow.holds Try.pinned (OpenSpec.ofChange crcSealsSpec)

/-- ITS FALSE NEIGHBOUR: 'it returns false'. Refute it at one input. -/
def crcSealsWrong : ChangeSpec := { name := "crcSeals", fn := fun _ => fun
  | [d1, d2] => { results := [.lit (.bool false)], args := [d1, d2] }
  | _ => none }
def CrcSealsWrongFalsely : Prop := crcSealsRow.holds Try.pinned (OpenSpec.ofChange crcSealsWrong)

/-- 'spencelaw02.CrcOne': WHATEVER THE INPUT: true; the input reads as it did. -/
def crcOneSpec : ChangeSpec := { name := "crcOne", fn := fun _ => fun
  | [d1, d2, d3] => { results := [.lit (.bool true)], args := [d1, d2, d3] }
  | _ => none }
def crcOneRow : OpenClaim := { program := "ytkbialmlddhclaa", sum := "c9ff1157689d2b11c43e0b6a670a88fddb9bad65b0f01c8d6d22c697fab18eae", func := "spence/spencelaw02.CrcOne", spec := "crcOne", apart := false }
def CrcOneSaid : Prop := crcOneRow.holds Try.pinned (OpenSpec.ofChange crcOneSpec)

/-- ITS FALSE NEIGHBOUR: 'it returns false'. Refute it at one input. -/
def crcOneWrong : ChangeSpec := { name := "crcOne", fn := fun _ => fun
  | [d1, d2, d3] => { results := [.lit (.bool false)], args := [d1, d2, d3] }
  | _ => none }
def CrcOneWrongFalsely : Prop := crcOneRow.holds Try.pinned (OpenSpec.ofChange crcOneWrong)

/-- 'spencelaw36.FreshOldest': WHATEVER THE INPUT: true; the input reads as it did. -/
def freshOldestSpec : ChangeSpec := { name := "freshOldest", fn := fun _ => fun
  | [d1, d2, d3] => { results := [.lit (.bool true)], args := [d1, d2, d3] }
  | _ => none }
def freshOldestRow : OpenClaim := { program := "ytkbialmlddhclaa", sum := "c9ff1157689d2b11c43e0b6a670a88fddb9bad65b0f01c8d6d22c697fab18eae", func := "spence/spencelaw36.FreshOldest", spec := "freshOldest", unfollowed := true, recurses := true, apart := false }
def FreshOldestSaid : Prop := freshOldestRow.holds Try.pinned (OpenSpec.ofChange freshOldestSpec)

/-- ITS FALSE NEIGHBOUR: 'it returns false'. Refute it at one input. -/
def freshOldestWrong : ChangeSpec := { name := "freshOldest", fn := fun _ => fun
  | [d1, d2, d3] => { results := [.lit (.bool false)], args := [d1, d2, d3] }
  | _ => none }
def FreshOldestWrongFalsely : Prop := freshOldestRow.holds Try.pinned (OpenSpec.ofChange freshOldestWrong)

/-- 'spencelaw17.CodecBinds': WHATEVER THE INPUT: true; the input reads as it did. -/
def codecBindsSpec : ChangeSpec := { name := "codecBinds", fn := fun _ => fun
  | [d1, d2] => { results := [.lit (.bool true)], args := [d1, d2] }
  | _ => none }
def codecBindsRow : OpenClaim := { program := "ytkbialmlddhclaa", sum := "c9ff1157689d2b11c43e0b6a670a88fddb9bad65b0f01c8d6d22c697fab18eae", func := "spence/spencelaw17.CodecBinds", spec := "codecBinds", apart := false }
def CodecBindsSaid : Prop := codecBindsRow.holds Try.pinned (OpenSpec.ofChange codecBindsSpec)

/-- ITS FALSE NEIGHBOUR: 'it returns false'. Refute it at one input. -/
def codecBindsWrong : ChangeSpec := { name := "codecBinds", fn := fun _ => fun
  | [d1, d2] => { results := [.lit (.bool false)], args := [d1, d2] }
  | _ => none }
def CodecBindsWrongFalsely : Prop := codecBindsRow.holds Try.pinned (OpenSpec.ofChange codecBindsWrong)

/-- 'spencelaw17.CodecDrops': WHATEVER THE INPUT: true; the input reads as it did. -/
def codecDropsSpec : ChangeSpec := { name := "codecDrops", fn := fun _ => fun
  | [d1, d2, d3] => { results := [.lit (.bool true)], args := [d1, d2, d3] }
  | _ => none }
def codecDropsRow : OpenClaim := { program := "ytkbialmlddhclaa", sum := "c9ff1157689d2b11c43e0b6a670a88fddb9bad65b0f01c8d6d22c697fab18eae", func := "spence/spencelaw17.CodecDrops", spec := "codecDrops", apart := false }
def CodecDropsSaid : Prop := codecDropsRow.holds Try.pinned (OpenSpec.ofChange codecDropsSpec)

/-- ITS FALSE NEIGHBOUR: 'it returns false'. Refute it at one input. -/
def codecDropsWrong : ChangeSpec := { name := "codecDrops", fn := fun _ => fun
  | [d1, d2, d3] => { results := [.lit (.bool false)], args := [d1, d2, d3] }
  | _ => none }
def CodecDropsWrongFalsely : Prop := codecDropsRow.holds Try.pinned (OpenSpec.ofChange codecDropsWrong)

/- THE SECOND FORM. 'bulk': how many values and letters a reading holds, each counted each time it is reached (what is shared counts as often as it is met; a slice's spare places count too). A statement '..UptoSaid' is the law's where the arguments, and the package variables that the reading takes, are together of bulk at most 1048576: NARROWER than '..Said'. Prove '..Said' where nothing that the law and all that it calls make is longer than what came in: it says more and counts as full. Else prove '..UptoSaid'. A law counts once. -/
mutual
def uptoBulk {H : Type} : DataW H → Nat
  | .lit (.string bytes) => bytes.length + 1
  | .lit _ => 1
  | .nil => 1
  | .ptr d => uptoBulk d + 1
  | .slice elems spare => uptoBulkAll elems + uptoBulkAll spare + 1
  | .agg parts => uptoBulkAll parts + 1
  | .iface _ d => uptoBulk d + 1
  | .map entries => uptoBulkEntries entries + 1
  | .held _ => 1
def uptoBulkAll {H : Type} : List (DataW H) → Nat
  | [] => 0
  | d :: r => uptoBulk d + uptoBulkAll r
def uptoBulkEntries {H : Type} : List (Lit × DataW H) → Nat
  | [] => 0
  | x :: r => uptoBulkEntry x + uptoBulkEntries r
def uptoBulkEntry {H : Type} : Lit × DataW H → Nat
  | (.string bytes, d) => bytes.length + uptoBulk d + 1
  | (_, d) => uptoBulk d + 1
 end
def uptoSmall : (H : Type) → List (DataW H) → Bool := fun _ ds => decide (uptoBulkAll ds ≤ 1048576)
def OpenSpec.upto (s : _root_.Go.ChangeSpec) : _root_.Go.OpenSpec := { _root_.Go.OpenSpec.ofChange s with cond := some uptoSmall }

/-- 'spencelaw02.CrcSums', WHERE WHAT IT READS IS OF BULK AT MOST 1048576: true; the input reads as it did. -/
def crcSumsUptoRow : OpenClaim := { program := "ytkbialmlddhclaa", sum := "c9ff1157689d2b11c43e0b6a670a88fddb9bad65b0f01c8d6d22c697fab18eae", func := "spence/spencelaw02.CrcSums", spec := "crcSums", apart := false, narrowed := true }
def CrcSumsUptoSaid : Prop := crcSumsUptoRow.holds Try.pinned (OpenSpec.upto crcSumsSpec)

/-- 'spencelaw12.CrashAll', WHERE WHAT IT READS IS OF BULK AT MOST 1048576: true; the input reads as it did. -/
def crashAllUptoRow : OpenClaim := { program := "ytkbialmlddhclaa", sum := "c9ff1157689d2b11c43e0b6a670a88fddb9bad65b0f01c8d6d22c697fab18eae", func := "spence/spencelaw12.CrashAll", spec := "crashAll", unfollowed := true, recurses := true, apart := false, narrowed := true }
def CrashAllUptoSaid : Prop := crashAllUptoRow.holds Try.pinned (OpenSpec.upto crashAllSpec)

/-- 'spencelaw36.FreshTells', WHERE WHAT IT READS IS OF BULK AT MOST 1048576: true; the input reads as it did. -/
def freshTellsUptoRow : OpenClaim := { program := "ytkbialmlddhclaa", sum := "c9ff1157689d2b11c43e0b6a670a88fddb9bad65b0f01c8d6d22c697fab18eae", func := "spence/spencelaw36.FreshTells", spec := "freshTells", apart := false, narrowed := true }
def FreshTellsUptoSaid : Prop := freshTellsUptoRow.holds Try.pinned (OpenSpec.upto freshTellsSpec)

/-- 'spencelaw36.FreshGoes', WHERE WHAT IT READS IS OF BULK AT MOST 1048576: true; the input reads as it did. -/
def freshGoesUptoRow : OpenClaim := { program := "ytkbialmlddhclaa", sum := "c9ff1157689d2b11c43e0b6a670a88fddb9bad65b0f01c8d6d22c697fab18eae", func := "spence/spencelaw36.FreshGoes", spec := "freshGoes", apart := false, narrowed := true }
def FreshGoesUptoSaid : Prop := freshGoesUptoRow.holds Try.pinned (OpenSpec.upto freshGoesSpec)

/-- 'spencelaw24.ClockChance', WHERE WHAT IT READS IS OF BULK AT MOST 1048576: true; the input reads as it did. -/
def clockChanceUptoRow : OpenClaim := { program := "ytkbialmlddhclaa", sum := "c9ff1157689d2b11c43e0b6a670a88fddb9bad65b0f01c8d6d22c697fab18eae", func := "spence/spencelaw24.ClockChance", spec := "clockChance", apart := false, narrowed := true }
def ClockChanceUptoSaid : Prop := clockChanceUptoRow.holds Try.pinned (OpenSpec.upto clockChanceSpec)

/-- 'spencelaw17.CodecPieces', WHERE WHAT IT READS IS OF BULK AT MOST 1048576: true; the input reads as it did. -/
def codecPiecesUptoRow : OpenClaim := { program := "ytkbialmlddhclaa", sum := "c9ff1157689d2b11c43e0b6a670a88fddb9bad65b0f01c8d6d22c697fab18eae", func := "spence/spencelaw17.CodecPieces", spec := "codecPieces", apart := false, narrowed := true }
def CodecPiecesUptoSaid : Prop := codecPiecesUptoRow.holds Try.pinned (OpenSpec.upto codecPiecesSpec)

/-- 'spencelaw24.ClockDoes', WHERE WHAT IT READS IS OF BULK AT MOST 1048576: true; the input reads as it did. -/
def clockDoesUptoRow : OpenClaim := { program := "ytkbialmlddhclaa", sum := "c9ff1157689d2b11c43e0b6a670a88fddb9bad65b0f01c8d6d22c697fab18eae", func := "spence/spencelaw24.ClockDoes", spec := "clockDoes", apart := false, narrowed := true }
def ClockDoesUptoSaid : Prop := clockDoesUptoRow.holds Try.pinned (OpenSpec.upto clockDoesSpec)

/-- 'spencelaw02.CrcSeals', WHERE WHAT IT READS IS OF BULK AT MOST 1048576: true; the input reads as it did. -/
def crcSealsUptoRow : OpenClaim := { program := "ytkbialmlddhclaa", sum := "c9ff1157689d2b11c43e0b6a670a88fddb9bad65b0f01c8d6d22c697fab18eae", func := "spence/spencelaw02.CrcSeals", spec := "crcSeals", apart := false, narrowed := true }
def CrcSealsUptoSaid : Prop := crcSealsUptoRow.holds Try.pinned (OpenSpec.upto crcSealsSpec)

/-- 'spencelaw02.CrcOne', WHERE WHAT IT READS IS OF BULK AT MOST 1048576: true; the input reads as it did. -/
def crcOneUptoRow : OpenClaim := { program := "ytkbialmlddhclaa", sum := "c9ff1157689d2b11c43e0b6a670a88fddb9bad65b0f01c8d6d22c697fab18eae", func := "spence/spencelaw02.CrcOne", spec := "crcOne", apart := false, narrowed := true }
def CrcOneUptoSaid : Prop := crcOneUptoRow.holds Try.pinned (OpenSpec.upto crcOneSpec)

/-- 'spencelaw36.FreshOldest', WHERE WHAT IT READS IS OF BULK AT MOST 1048576: true; the input reads as it did. -/
def freshOldestUptoRow : OpenClaim := { program := "ytkbialmlddhclaa", sum := "c9ff1157689d2b11c43e0b6a670a88fddb9bad65b0f01c8d6d22c697fab18eae", func := "spence/spencelaw36.FreshOldest", spec := "freshOldest", unfollowed := true, recurses := true, apart := false, narrowed := true }
def FreshOldestUptoSaid : Prop := freshOldestUptoRow.holds Try.pinned (OpenSpec.upto freshOldestSpec)

/-- 'spencelaw17.CodecBinds', WHERE WHAT IT READS IS OF BULK AT MOST 1048576: true; the input reads as it did. -/
def codecBindsUptoRow : OpenClaim := { program := "ytkbialmlddhclaa", sum := "c9ff1157689d2b11c43e0b6a670a88fddb9bad65b0f01c8d6d22c697fab18eae", func := "spence/spencelaw17.CodecBinds", spec := "codecBinds", apart := false, narrowed := true }
def CodecBindsUptoSaid : Prop := codecBindsUptoRow.holds Try.pinned (OpenSpec.upto codecBindsSpec)

/-- 'spencelaw17.CodecDrops', WHERE WHAT IT READS IS OF BULK AT MOST 1048576: true; the input reads as it did. -/
def codecDropsUptoRow : OpenClaim := { program := "ytkbialmlddhclaa", sum := "c9ff1157689d2b11c43e0b6a670a88fddb9bad65b0f01c8d6d22c697fab18eae", func := "spence/spencelaw17.CodecDrops", spec := "codecDrops", apart := false, narrowed := true }
def CodecDropsUptoSaid : Prop := codecDropsUptoRow.holds Try.pinned (OpenSpec.upto codecDropsSpec)

end Rows
end Go.Proofs.Ytkbialmlddhclaa
