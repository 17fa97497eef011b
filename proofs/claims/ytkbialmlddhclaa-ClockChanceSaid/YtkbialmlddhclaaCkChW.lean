/- ClockChance, in the form of its row. -/
import Derived.Test.YtkbialmlddhclaaCkCh1
namespace Go.Proofs.Ytkbialmlddhclaa.Ck
open Go.RowKit Go.Proofs.YtkbialmlddhclaaW.PrintWords
theorem clock_chance_walk (A : Option Addr) (c : Nat) (l : List Int) (B : Option Addr) (d : Nat) (t : List Int) (W : World) (hl : (Kd.int .i64).C W A l.length l) (_ : l.length ≤ c) (_ : l.length ≤ maxLen) (_ : ∀ x ∈ l, (Lit.int .i64 x).wf = true) (_ : l.length * 8 ≤ 140737488351232) (ht : (Kd.int .i64).C W B t.length t) (_ : t.length ≤ d) (_ : t.length ≤ maxLen) (_ : ∀ x ∈ t, (Lit.int .i64 x).wf = true) (_ : t.length * 8 ≤ 140737488351232) :
    Calls Try.prog 7 #[.slice A l.length c, .slice B t.length d] W fun e W' => e = .returned (.bool true) ∧ Below W.heap.size W W' := by
  by_cases h : l.length ≤ 20 ∧ t.length ≤ 20
  · exact Chance_any hl ht h.1 h.2
  · exact Chance_big (by omega)
end Go.Proofs.Ytkbialmlddhclaa.Ck
