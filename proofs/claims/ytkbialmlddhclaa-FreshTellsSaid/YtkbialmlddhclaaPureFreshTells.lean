/- The law FreshTells: what the printed function computes is true. -/
import Derived.Test.YtkbialmlddhclaaPFreshTellsx2
import Derived.OpenShut
namespace Go.Proofs.Ytkbialmlddhclaa.FreshPure
open Go.RowKit Go.Proofs.YtkbialmlddhclaaW.PrintWords Go.Proofs.YtkbialmlddhclaaW.PrintLast Go.Proofs.YtkbialmlddhclaaW.PrintMore Go.Proofs.Ytkbialmlddhclaa.PFreshTells

theorem i64_of {a : Int} (h : (Lit.int .i64 a).wf = true) : -9223372036854775808 ≤ a ∧ a ≤ 9223372036854775807 := Go.bounds_i64 h

theorem wr {a : Int} (h1 : -9223372036854775808 ≤ a) (h2 : a ≤ 9223372036854775807) : wrap64 a = a := by unfold wrap64; omega

theorem fresh_is (o g : Int) (s : ByteArray) (n t now ttl : Int) (h : now ≤ 9223372036854775807) : fresh_Fresh.f o g s n t now ttl = some (decide (0 ≤ t ∧ t ≤ now ∧ now - t ≤ ttl)) := by
  unfold fresh_Fresh.f nums_Fits.f
  by_cases h1 : t ≥ 0
  · rw [if_pos h1]
    by_cases h2 : t ≤ now
    · have e : fresh_Age.f o g s n t now = some (now - t) := by
        unfold fresh_Age.f
        rw [if_neg (by omega), if_neg (by omega), wr (by omega) (by omega)]
      simp only [Option.bind_some, decide_eq_true h2, if_true, e]
      congr 1
      exact decide_eq_decide.2 ⟨fun h => ⟨h1, h2, h⟩, fun h => h.2.2⟩
    · simp only [Option.bind_some, decide_eq_false h2]
      rw [if_neg (by decide), decide_eq_false (by omega)]
  · rw [if_neg h1]
    simp only [Option.bind_some]
    rw [if_neg (by decide), decide_eq_false (by omega)]
theorem age_is (o g : Int) (s : ByteArray) (n t now : Int) (h : now ≤ 9223372036854775807) : fresh_Age.f o g s n t now = some (if t < 0 then 0 else if now < t then 0 else now - t) := by
  unfold fresh_Age.f
  by_cases h1 : t < 0
  · rw [if_pos h1, if_pos h1]
  · by_cases h2 : now < t
    · rw [if_neg h1, if_neg h1, if_pos h2, if_pos h2]
    · rw [if_neg h1, if_neg h1, if_neg h2, if_neg h2, wr (by omega) (by omega)]


theorem until_is (o g : Int) (s : ByteArray) (n t ttl : Int) (k : Nat) : fresh_Until.f (k + 1) o g s n t ttl = some (if 0 ≤ t ∧ t ≤ 4611686018427387903 ∧ 0 ≤ ttl ∧ ttl ≤ 4611686018427387903 then (if t ≤ 4611686018427387903 - ttl then t + ttl else 4611686018427387903) else -1) := by
  unfold fresh_Until.f nums_Add.f nums_Fits.f
  by_cases h1 : t ≥ 0
  · rw [if_pos h1]
    by_cases h2 : t ≤ 4611686018427387903
    · simp only [Option.bind_some, decide_eq_true h2, if_true]
      by_cases h3 : ttl ≥ 0
      · rw [if_pos h3]
        by_cases h4 : ttl ≤ 4611686018427387903
        · simp only [Option.bind_some, decide_eq_true h4, nums_Add.j0]
          rw [if_neg (by decide), wr (a := 4611686018427387903 - ttl) (by omega) (by omega), if_pos (c := 0 ≤ t ∧ _) ⟨h1, h2, h3, h4⟩]
          by_cases h5 : t ≤ 4611686018427387903 - ttl
          · rw [if_neg (by omega), if_pos h5, wr (by omega) (by omega)]; rfl
          · rw [if_pos (by omega), if_neg h5]; rfl
        · simp only [Option.bind_some, decide_eq_false h4, nums_Add.j0]
          rw [if_pos (by decide), if_neg (c := 0 ≤ t ∧ _) (by omega)]; rfl
      · rw [if_neg h3]
        simp only [Option.bind_some, nums_Add.j0]
        rw [if_pos (by decide), if_neg (c := 0 ≤ t ∧ _) (by omega)]; rfl
    · simp only [Option.bind_some, decide_eq_false h2]
      rw [if_neg (by decide), if_neg (c := 0 ≤ t ∧ _) (by omega)]
      simp only [nums_Add.j0, if_true]; rfl
  · rw [if_neg h1]
    simp only [Option.bind_some]
    rw [if_neg (by decide), if_neg (c := 0 ≤ t ∧ _) (by omega)]
    simp only [nums_Add.j0, if_true]; rfl
theorem ref_is (o g : Int) (s : ByteArray) (n t now ttl : Int) (h : now ≤ 9223372036854775807) : spenceref24_Fresh.f o g s n t now ttl = some (decide (0 ≤ t ∧ t ≤ now ∧ now - t ≤ ttl)) := by
  unfold spenceref24_Fresh.f
  by_cases h1 : t ≥ 0
  · rw [if_pos h1]
    by_cases h2 : t ≤ now
    · rw [if_pos h2, wr (by omega) (by omega)]
      congr 1
      exact decide_eq_decide.2 ⟨fun h => ⟨h1, h2, h⟩, fun h => h.2.2⟩
    · rw [if_neg h2, decide_eq_false (by omega)]
  · rw [if_neg h1, decide_eq_false (by omega)]

theorem last (k : Nat) (o g : Int) (s : ByteArray) (n t now ttl age unt : Int) (hn : now ≤ 9223372036854775807) (ha : age = if t < 0 then 0 else if now < t then 0 else now - t)
    (hu : unt = if 0 ≤ t ∧ t ≤ 4611686018427387903 ∧ 0 ≤ ttl ∧ ttl ≤ 4611686018427387903 then (if t ≤ 4611686018427387903 - ttl then t + ttl else 4611686018427387903) else -1) :
    spencelaw36_FreshTells.j3 (k + 2) now ttl age unt o g s n t = some true := by
  simp only [spencelaw36_FreshTells.j3, fresh_is _ _ _ _ _ _ _ hn, age_is _ _ _ _ _ _ hn, until_is, ref_is _ _ _ _ _ _ _ hn, Option.bind_some]
  rw [if_pos ha.symm, if_pos hu.symm, if_neg (by simp)]
  by_cases h1 : unt < 0
  · rw [if_pos h1]
  · rw [if_neg h1]
    by_cases h2 : unt = 4611686018427387903
    · rw [if_pos h2]
    · rw [if_neg h2]
      have hc : 0 ≤ t ∧ t ≤ 4611686018427387903 ∧ 0 ≤ ttl ∧ ttl ≤ 4611686018427387903 := by
        by_cases c : 0 ≤ t ∧ t ≤ 4611686018427387903 ∧ 0 ≤ ttl ∧ ttl ≤ 4611686018427387903
        · exact c
        · rw [if_neg c] at hu; omega
      rw [if_pos hc] at hu
      have hs : unt = t + ttl := by
        by_cases c : t ≤ 4611686018427387903 - ttl
        · rw [if_pos c] at hu; exact hu
        · rw [if_neg c] at hu; omega
      by_cases h3 : now ≥ t
      · rw [if_pos h3]
        have e : (decide (0 ≤ t ∧ t ≤ now ∧ now - t ≤ ttl)) = decide (now ≤ unt) := decide_eq_decide.2 (by omega)
        rw [e]; simp
      · rw [if_neg h3, decide_eq_false (by omega)]; rfl

theorem mid (k : Nat) (o g : Int) (s : ByteArray) (n t now ttl age unt : Int) (b : Bool) (hn : now ≤ 9223372036854775807) (ht : t ≤ 9223372036854775807) (hl : ttl ≤ 9223372036854775807) (ha : age = if t < 0 then 0 else if now < t then 0 else now - t)
    (hb : b = decide (0 ≤ t ∧ t ≤ 4611686018427387903 ∧ 0 ≤ ttl ∧ ttl ≤ 4611686018427387903)) (hu : unt = -1) :
    spencelaw36_FreshTells.j2 (k + 3) now ttl age unt b o g s n t = some true := by
  subst hb
  simp only [spencelaw36_FreshTells.j2]
  by_cases c : 0 ≤ t ∧ t ≤ 4611686018427387903 ∧ 0 ≤ ttl ∧ ttl ≤ 4611686018427387903
  · rw [if_pos (decide_eq_true c), wr (a := 4611686018427387903 - ttl) (by omega) (by omega)]
    by_cases h5 : t ≤ 4611686018427387903 - ttl
    · rw [if_pos h5, wr (by omega) (by omega)]
      exact last k o g s n t now ttl age _ hn ha (by rw [if_pos c, if_pos h5])
    · rw [if_neg h5]
      exact last k o g s n t now ttl age _ hn ha (by rw [if_pos c, if_neg h5])
  · rw [if_neg (by simpa using c)]
    exact last k o g s n t now ttl age _ hn ha (by rw [if_neg c, hu])

theorem mid1 (k : Nat) (o g : Int) (s : ByteArray) (n t now ttl age : Int) (hn : now ≤ 9223372036854775807) (ht : t ≤ 9223372036854775807) (hl : ttl ≤ 9223372036854775807) (ha : age = if t < 0 then 0 else if now < t then 0 else now - t) :
    spencelaw36_FreshTells.j1 (k + 4) now ttl age o g s n t = some true := by
  simp only [spencelaw36_FreshTells.j1]
  by_cases h1 : t ≥ 0
  · rw [if_pos h1]
    by_cases h2 : ttl ≥ 0
    · rw [if_pos h2]
      by_cases h3 : t ≤ 4611686018427387903
      · rw [if_pos h3]
        exact mid k o g s n t now ttl age (-1) _ hn ht hl ha (decide_eq_decide.2 (by omega)) rfl
      · rw [if_neg h3]
        exact mid k o g s n t now ttl age (-1) _ hn ht hl ha (decide_eq_false (by omega)).symm rfl
    · rw [if_neg h2]
      exact mid k o g s n t now ttl age (-1) _ hn ht hl ha (decide_eq_false (by omega)).symm rfl
  · rw [if_neg h1]
    exact mid k o g s n t now ttl age (-1) _ hn ht hl ha (decide_eq_false (by omega)).symm rfl

theorem tells (o g : Int) (s : ByteArray) (n t now ttl : Int) (w : World) (_ : (Lit.int .i64 o).wf = true) (_ : (Lit.int .i64 g).wf = true) (_ : s.size ≤ maxLen) (_ : (Lit.int .i64 n).wf = true) (ht : (Lit.int .i64 t).wf = true) (hnow : (Lit.int .i64 now).wf = true) (httl : (Lit.int .i64 ttl).wf = true) :
    Calls Try.prog 5 #[.agg #[.int .i64 o, .int .i64 g, .string s, .int .i64 n, .int .i64 t], .int .i64 now, .int .i64 ttl] w fun e w' => e = .returned (.bool true) ∧ Below w.heap.size w w' := by
  refine spencelaw36_FreshTells.calls 5 o g s n t now ttl true w ?_
  obtain ⟨t1, t2⟩ := i64_of ht
  obtain ⟨n1, n2⟩ := i64_of hnow
  obtain ⟨l1, l2⟩ := i64_of httl
  have aw : spencelaw36_awake.f 5 = some true := by
    unfold spencelaw36_awake.f
    simp only [fresh_is _ _ _ _ _ 8 _ (by omega), fresh_is _ _ _ _ _ 9 _ (by omega), until_is, Option.bind_some]
    decide
  unfold spencelaw36_FreshTells.f
  rw [aw]
  simp only [Option.bind_some, if_true]
  by_cases h1 : t ≥ 0
  · rw [if_pos h1]
    simp only [spencelaw36_FreshTells.j0]
    by_cases h2 : now ≥ t
    · rw [if_pos (decide_eq_true h2), wr (by omega) (by omega)]
      exact mid1 0 o g s n t now ttl _ n2 t2 l2 (by rw [if_neg (by omega), if_neg (by omega)])
    · rw [if_neg (by simpa using h2)]
      exact mid1 0 o g s n t now ttl _ n2 t2 l2 (by rw [if_neg (by omega), if_pos (by omega)])
  · rw [if_neg h1]
    simp only [spencelaw36_FreshTells.j0]
    rw [if_neg (by decide)]
    exact mid1 0 o g s n t now ttl _ n2 t2 l2 (by rw [if_pos (by omega)])

end Go.Proofs.Ytkbialmlddhclaa.FreshPure
