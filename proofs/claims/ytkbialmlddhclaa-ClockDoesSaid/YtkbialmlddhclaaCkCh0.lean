/- ClockChance: walked. -/
import Derived.Test.YtkbialmlddhclaaCkChP
namespace Go.Proofs.Ytkbialmlddhclaa.Ck
open Go.RowKit Go.Proofs.YtkbialmlddhclaaW.PrintWords Go.Proofs.YtkbialmlddhclaaW.PrintMore
set_option linter.unusedSimpArgs false
set_option linter.unusedVariables false
set_option maxHeartbeats 8000000 in
set_option maxRecDepth 100000 in
theorem Chance_big {w : World} {A B : Option Addr} {c d : Nat} {l t : List Int} (hn : (20 : Int) < (l.length : Int) ∨ (20 : Int) < (t.length : Int)) :
    Calls Try.prog 7 #[.slice A l.length c, .slice B t.length d] w fun e w' => e = .returned (.bool true) ∧ Below w.heap.size w w' := by
  obtain ⟨n, hnn⟩ : ∃ n, n = l.length := ⟨_, rfl⟩
  obtain ⟨m, hmm⟩ : ∃ m, m = t.length := ⟨_, rfl⟩
  rw [← hnn, ← hmm] at hn
  rw [← hnn, ← hmm]
  clear hnn hmm
  by_cases h1 : (20 : Int) < (n : Int)
  · have e1 : decide ((20 : Int) < (n : Int)) = true := decide_eq_true h1
    clear hn
    go_enter Try.func7, Try.ntmps7
    go_wp2_with (go_at_call 30; (with_reducible refine (Awake_any _).mono ?_); rintro e w1 ⟨rfl, hb⟩; have HB1 := Aside0.mk hb; clear hb)
    go_ret
    exact ⟨rfl, HB1.out⟩
  · have e1 : decide ((20 : Int) < (n : Int)) = false := decide_eq_false h1
    have e2 : decide ((20 : Int) < (m : Int)) = true := decide_eq_true (hn.resolve_left h1)
    clear hn
    go_enter Try.func7, Try.ntmps7
    go_wp2_with (go_at_call 30; (with_reducible refine (Awake_any _).mono ?_); rintro e w1 ⟨rfl, hb⟩; have HB1 := Aside0.mk hb; clear hb)
    go_ret
    exact ⟨rfl, HB1.out⟩
end Go.Proofs.Ytkbialmlddhclaa.Ck
