/- The law FreshGoes: what the printed function computes is true. -/
import Derived.Test.YtkbialmlddhclaaPFreshGoesx1
import Derived.OpenShut
namespace Go.Proofs.Ytkbialmlddhclaa.FreshGoesPure
open Go.RowKit Go.Proofs.YtkbialmlddhclaaW.PrintWords Go.Proofs.YtkbialmlddhclaaW.PrintLast Go.Proofs.YtkbialmlddhclaaW.PrintMore Go.Proofs.Ytkbialmlddhclaa.PFreshGoes

theorem i64_of {a : Int} (h : (Lit.int .i64 a).wf = true) : -9223372036854775808 ≤ a ∧ a ≤ 9223372036854775807 := Go.bounds_i64 h

theorem wr {a : Int} (h1 : -9223372036854775808 ≤ a) (h2 : a ≤ 9223372036854775807) : wrap64 a = a := by unfold wrap64; omega

theorem fresh_is (o g : Int) (s : ByteArray) (n t now ttl : Int) (h : now ≤ 9223372036854775807) : fresh_Fresh.f o g s n t now ttl = some (decide (0 ≤ t ∧ t ≤ now ∧ now - t ≤ ttl)) := by
  unfold fresh_Fresh.f nums_Fits.f
  by_cases h1 : t ≥ 0
  · rw [if_pos h1]
    by_cases h2 : t ≤ now
    · have e : fresh_Age.f o g s n t now = some (now - t) := by
        unfold fresh_Age.f
        rw [if_neg (by omega), if_neg (by omega), wr (by omega) (by omega)]
      simp only [Option.bind_some, decide_eq_true h2, if_true, e]
      congr 1
      exact decide_eq_decide.2 ⟨fun h => ⟨h1, h2, h⟩, fun h => h.2.2⟩
    · simp only [Option.bind_some, decide_eq_false h2]
      rw [if_neg (by decide), decide_eq_false (by omega)]
  · rw [if_neg h1]
    simp only [Option.bind_some]
    rw [if_neg (by decide), decide_eq_false (by omega)]


def fr (t now ttl : Int) : Bool := decide (0 ≤ t ∧ t ≤ now ∧ now - t ≤ ttl)
theorem fresh_fr (o g : Int) (s : ByteArray) (n t now ttl : Int) (h : now ≤ 9223372036854775807) : fresh_Fresh.f o g s n t now ttl = some (fr t now ttl) := fresh_is o g s n t now ttl h

theorem last (k : Nat) (o g : Int) (s : ByteArray) (n t now ttl then_ more : Int) (b : Bool) (hn : now ≤ 9223372036854775807) (hh : then_ ≤ 9223372036854775807) (h1 : 0 ≤ ttl) (h2 : ttl ≤ 2305843009213693952) (h3 : 0 ≤ more) (h4 : more ≤ 2305843009213693952)
    (hb : b = fr t now ttl) :
    spencelaw36_FreshGoes.j1 (k + 1) now ttl then_ more b false o g s n t = some true := by
  subst hb
  simp only [spencelaw36_FreshGoes.j1]
  rw [if_neg (by decide), wr (a := ttl + more) (by omega) (by omega), fresh_fr _ _ _ _ _ _ _ hn, fresh_fr _ _ _ _ _ _ _ hh]
  simp only [Option.bind_some]
  by_cases c : 0 ≤ t ∧ t ≤ now ∧ now - t ≤ ttl
  · rw [if_pos (show fr t now ttl = true from decide_eq_true c), if_pos (show fr t now (ttl + more) = true from decide_eq_true (by omega))]
  · rw [if_neg (show ¬ fr t now ttl = true by unfold fr; simpa using c)]
    by_cases c1 : now < t
    · rw [if_pos c1]
    · rw [if_neg c1]
      by_cases c2 : t < 0
      · rw [if_pos c2]
      · rw [if_neg c2]
        by_cases c3 : then_ < now
        · rw [if_pos c3]
        · rw [if_neg c3, show fr t then_ ttl = false from decide_eq_false (by omega)]; rfl

theorem mid (k : Nat) (o g : Int) (s : ByteArray) (n t now ttl then_ more : Int) (x : Bool) (hn : now ≤ 9223372036854775807) (hh : then_ ≤ 9223372036854775807)
    (hx : x = decide (ttl < 0 ∨ ttl > 2305843009213693952 ∨ more < 0 ∨ more > 2305843009213693952)) :
    spencelaw36_FreshGoes.j0 (k + 2) now ttl then_ more x o g s n t = some true := by
  subst hx
  rw [spencelaw36_FreshGoes.j0]
  by_cases c : ttl < 0 ∨ ttl > 2305843009213693952 ∨ more < 0 ∨ more > 2305843009213693952
  · rw [if_pos (decide_eq_true c)]
  · rw [if_neg (by simpa using c), fresh_fr _ _ _ _ _ _ _ hn, fresh_fr _ _ _ _ _ _ _ hh]
    simp only [Option.bind_some]
    have L := fun b hb => last k o g s n t now ttl then_ more b hn hh (by omega) (by omega) (by omega) (by omega) hb
    by_cases c1 : fr t now ttl = true
    · rw [if_pos c1]
      by_cases c2 : then_ ≥ t
      · rw [if_pos c2]
        by_cases c3 : then_ ≤ now
        · rw [if_pos c3]
          have e : fr t then_ ttl = true := by
            have c1' := of_decide_eq_true c1
            exact decide_eq_true (by omega)
          rw [e]
          exact L _ rfl
        · rw [if_neg c3]; exact L _ rfl
      · rw [if_neg c2]; exact L _ rfl
    · rw [if_neg c1]; exact L _ rfl

theorem goes (o g : Int) (s : ByteArray) (n t now ttl then_ more : Int) (w : World) (_ : (Lit.int .i64 o).wf = true) (_ : (Lit.int .i64 g).wf = true) (_ : s.size ≤ maxLen) (_ : (Lit.int .i64 n).wf = true) (_ : (Lit.int .i64 t).wf = true) (hnow : (Lit.int .i64 now).wf = true) (_ : (Lit.int .i64 ttl).wf = true) (hth : (Lit.int .i64 then_).wf = true) (_ : (Lit.int .i64 more).wf = true) :
    Calls Try.prog 6 #[.agg #[.int .i64 o, .int .i64 g, .string s, .int .i64 n, .int .i64 t], .int .i64 now, .int .i64 ttl, .int .i64 then_, .int .i64 more] w fun e w' => e = .returned (.bool true) ∧ Below w.heap.size w w' := by
  refine spencelaw36_FreshGoes.calls 2 o g s n t now ttl then_ more true w ?_
  obtain ⟨n1, n2⟩ := i64_of hnow
  obtain ⟨l1, l2⟩ := i64_of hth
  have aw : spencelaw36_awake.f 2 = some true := by decide +kernel
  unfold spencelaw36_FreshGoes.f
  rw [aw]
  simp only [Option.bind_some, if_true]
  have L := fun x hx => mid 0 o g s n t now ttl then_ more x n2 l2 hx
  by_cases c1 : ttl < 0
  · rw [if_pos c1]; exact L _ (decide_eq_true (by omega)).symm
  · rw [if_neg c1]
    by_cases c2 : ttl > 2305843009213693952
    · rw [if_pos c2]; exact L _ (decide_eq_true (by omega)).symm
    · rw [if_neg c2]
      by_cases c3 : more < 0
      · rw [if_pos c3]; exact L _ (decide_eq_true (by omega)).symm
      · rw [if_neg c3]; exact L _ (decide_eq_decide.2 (by omega))

end Go.Proofs.Ytkbialmlddhclaa.FreshGoesPure
