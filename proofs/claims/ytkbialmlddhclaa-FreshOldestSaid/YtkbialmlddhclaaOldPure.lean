/- The law FreshOldest, in plain words. -/
import Derived.Test.YtkbialmlddhclaaQOldLaw
namespace Go.Proofs.Ytkbialmlddhclaa.OldPure
open Go.RowKit Go.Proofs.YtkbialmlddhclaaW.PrintWords Go.Proofs.YtkbialmlddhclaaW.PrintLast Go.Proofs.YtkbialmlddhclaaW.PrintMore Go.Proofs.Ytkbialmlddhclaa.QOld

theorem wr {a : Int} (h1 : -9223372036854775808 ≤ a) (h2 : a ≤ 9223372036854775807) : wrap64 a = a := by unfold wrap64; omega
/-- By moment, then by object. -/
def ord (o t o2 t2 : Int) : Int := if t < t2 ∨ (t = t2 ∧ o < o2) then -1 else if t = t2 ∧ o = o2 then 0 else 1
theorem s1_is (k : Nat) (o g : Int) (s : ByteArray) (n t o2 g2 : Int) (s2 : ByteArray) (n2 t2 : Int) (hk : 1 ≤ k) : spencelaw36_FreshOldest_S1.f k o g s n t o2 g2 s2 n2 t2 = some (ord o t o2 t2) := by
  obtain ⟨k, rfl⟩ : ∃ m, k = m + 1 := ⟨k - 1, by omega⟩
  unfold spencelaw36_FreshOldest_S1.f ord
  by_cases h1 : t < t2
  · rw [if_pos h1, spencelaw36_FreshOldest_S1.j0, if_pos rfl, if_pos (.inl h1)]
  rw [if_neg h1]
  by_cases h2 : t = t2
  · rw [if_pos h2, spencelaw36_FreshOldest_S1.j0]
    by_cases h3 : o < o2
    · rw [if_pos (decide_eq_true h3), if_pos (.inr ⟨h2, h3⟩)]
    · rw [if_neg (fun x => h3 (of_decide_eq_true x)), if_pos h2]
      by_cases h4 : o = o2
      · rw [if_pos h4, if_neg (by omega), if_pos ⟨h2, h4⟩]
      · rw [if_neg h4, if_neg (by omega), if_neg (fun x => h4 x.2)]
  · rw [if_neg h2, spencelaw36_FreshOldest_S1.j0, if_neg (by decide), if_neg h2, if_neg (by omega), if_neg (fun x => h2 x.1)]
def cmp (a b : Int) : Int := if a < b then -1 else if a > b then 1 else 0
theorem cmp_is (a b : Int) : cmp_Compare_int.f a b = some (cmp a b) := by
  unfold cmp_Compare_int.f cmp cmp_isNaN_int.f
  by_cases h1 : a < b
  · simp [h1]
  · by_cases h2 : a > b
    · simp [h1, h2]
    · simp [h1, h2]
theorem or_is (k : Nat) (a b : Int) (hk : 3 ≤ k) : cmp_Or_int.f k [a, b] = some (if a = 0 then b else a) := by
  obtain ⟨k, rfl⟩ : ∃ m, k = m + 3 := ⟨k - 3, by omega⟩
  unfold cmp_Or_int.f
  by_cases h1 : a = 0
  · by_cases h2 : b = 0
    · simp [cmp_Or_int.l0, rd, h1, h2, wrap64]
    · simp [cmp_Or_int.l0, rd, h1, h2, wrap64]
  · simp [cmp_Or_int.l0, rd, h1]
theorem order_is (k : Nat) (o g : Int) (s : ByteArray) (n t o2 g2 : Int) (s2 : ByteArray) (n2 t2 : Int) (hk : 3 ≤ k) : fresh_Order.f k o g s n t o2 g2 s2 n2 t2 = some (ord o t o2 t2) := by
  unfold fresh_Order.f
  by_cases h : (o == o2 && (g == g2 && (s.toList == s2.toList && (n == n2 && (t == t2))))) = true
  · rw [if_pos h]
    simp only [Bool.and_eq_true, beq_iff_eq] at h
    obtain ⟨rfl, _, _, _, rfl⟩ := h
    unfold ord
    rw [if_neg (by omega), if_pos ⟨rfl, rfl⟩]
  · rw [if_neg h, cmp_is, Option.bind_some, cmp_is, Option.bind_some, or_is k _ _ hk, Option.bind_some]
    congr 1
    unfold cmp ord
    split <;> split <;> (try split) <;> (try split) <;> (try split) <;> omega
/-- Two elements, by moment and object. -/
def oS (x y : S40) : Int := ord x.f0 x.f4 y.f0 y.f4
theorem oS_self (x : S40) : oS x x = 0 := by unfold oS ord; rw [if_neg (by omega), if_pos ⟨rfl, rfl⟩]
/-- The first least one's index: d steps from i on, the best so far b. -/
def bst (l : List S40) : Nat → Nat → Nat → Nat
  | 0, _, b => b
  | d + 1, i, b => if oS (rd_T40 l (i : Int)) (rd_T40 l (b : Int)) < 0 then bst l d (i + 1) i else bst l d (i + 1) b
theorem bst_lt (l : List S40) (d : Nat) : ∀ i b, b < l.length → i + d = l.length → bst l d i b < l.length := by
  induction d with
  | zero => intro i b hb _; exact hb
  | succ d ih =>
    intro i b hb hi
    unfold bst
    split
    · exact ih (i + 1) i (by omega) (by omega)
    · exact ih (i + 1) b hb (by omega)
theorem min_loop (l : List S40) (hm : l.length ≤ 40) (d : Nat) : ∀ (k i b : Nat), i + d = l.length → d + 4 ≤ k → api_Bind.l0 k l (i : Int) (rd_T40 l (b : Int)).f0 (rd_T40 l (b : Int)).f1 (rd_T40 l (b : Int)).f2 (rd_T40 l (b : Int)).f3 (rd_T40 l (b : Int)).f4 =
    some ((rd_T40 l (bst l d i b : Nat)).f0, (rd_T40 l (bst l d i b : Nat)).f1, (rd_T40 l (bst l d i b : Nat)).f2, (rd_T40 l (bst l d i b : Nat)).f3, (rd_T40 l (bst l d i b : Nat)).f4) := by
  induction d with
  | zero =>
    intro k i b hi hk
    obtain ⟨k, rfl⟩ : ∃ m, k = m + 1 := ⟨k - 1, by omega⟩
    rw [api_Bind.l0, if_neg (by omega), bst]
  | succ d ih =>
    intro k i b hi hk
    obtain ⟨k, rfl⟩ : ∃ m, k = m + 1 := ⟨k - 1, by omega⟩
    rw [api_Bind.l0, if_pos (by omega), if_pos (by omega)]
    unfold fresh_Oldest_S1.f
    rw [order_is k _ _ _ _ _ _ _ _ _ _ (by omega), Option.bind_some, Option.bind_some, bst, wr (a := (i : Int) + 1) (by omega) (by omega), show (i : Int) + 1 = ((i + 1 : Nat) : Int) by omega]
    by_cases h : oS (rd_T40 l (i : Int)) (rd_T40 l (b : Int)) < 0
    · rw [if_pos (c := ord _ _ _ _ < 0) h, if_pos h]; exact ih k (i + 1) i (by omega) (by omega)
    · rw [if_neg (c := ord _ _ _ _ < 0) h, if_neg h]; exact ih k (i + 1) b (by omega) (by omega)
theorem oldest_is (l : List S40) (hm : l.length ≤ 40) (h0 : 0 < l.length) (k : Nat) (hk : l.length + 6 ≤ k) : ∃ b : Nat, b = bst l (l.length - 1) 1 0 ∧ fresh_Oldest.f k l = some ((rd_T40 l (b : Int)).f0, (rd_T40 l (b : Int)).f1, (rd_T40 l (b : Int)).f2, (rd_T40 l (b : Int)).f3, (rd_T40 l (b : Int)).f4, true) := by
  obtain ⟨k, rfl⟩ : ∃ m, k = m + 1 := ⟨k - 1, by omega⟩
  refine ⟨_, rfl, ?_⟩
  unfold fresh_Oldest.f api_Bind.f
  have e := min_loop l hm (l.length - 1) k 1 0 (by omega) (by omega)
  rw [if_neg (by omega), if_neg (by omega), api_Bind.j0, if_pos (by omega)]
  rw [show api_Bind.l0 k l 1 (rd_T40 l 0).f0 (rd_T40 l 0).f1 (rd_T40 l 0).f2 (rd_T40 l 0).f3 (rd_T40 l 0).f4 = _ from e, Option.bind_some]
theorem ord_anti (o t o2 t2 : Int) : ord o2 t2 o t = wrap64 (-ord o t o2 t2) := by
  unfold ord
  split <;> split <;> (try split) <;> (try split) <;> first | omega | (unfold wrap64; omega)
theorem end_is (k : Nat) (hk : 5 ≤ k) (o g : Int) (s : ByteArray) (n t o2 g2 : Int) (s2 : ByteArray) (n2 t2 : Int) : spencelaw36_FreshOldest.j1 k false o g s n t o2 g2 s2 n2 t2 = some true := by
  obtain ⟨k, rfl⟩ : ∃ m, k = m + 1 := ⟨k - 1, by omega⟩
  rw [spencelaw36_FreshOldest.j1, if_neg (by decide), order_is k _ _ _ _ _ _ _ _ _ _ (by omega), Option.bind_some, s1_is k _ _ _ _ _ _ _ _ _ _ (by omega), Option.bind_some, if_pos rfl, order_is k _ _ _ _ _ _ _ _ _ _ (by omega), Option.bind_some, Option.bind_some, ord_anti o t o2 t2]
  simp
theorem law_loop (l : List S40) (hm : l.length ≤ 40) (o g : Int) (s : ByteArray) (n t o2 g2 : Int) (s2 : ByteArray) (n2 t2 : Int) (d : Nat) : ∀ (k i b : Nat), i + d = l.length → d + 60 ≤ k → (0 < l.length → b < l.length) → (0 < l.length → bst l d i b = bst l l.length 0 0) →
    spencelaw36_FreshOldest.l0 k l (b : Int) (l.length : Int) (i : Int) o g s n t o2 g2 s2 n2 t2 = some true := by
  induction d with
  | zero =>
    intro k i b hi hk hb hB
    obtain ⟨k, rfl⟩ : ∃ m, k = m + 1 := ⟨k - 1, by omega⟩
    rw [spencelaw36_FreshOldest.l0, if_neg (by omega)]
    by_cases h0 : 0 < l.length
    · obtain ⟨b', hb', e⟩ := oldest_is l hm h0 k (by omega)
      have h1 : bst l l.length 0 0 = bst l (l.length - 1) 1 0 := by
        conv => lhs; rw [show l.length = (l.length - 1) + 1 by omega, bst]
        rw [if_neg (by rw [oS_self]; decide)]
      have h2 : b = b' := by rw [hb', ← h1, ← hB h0, bst]
      subst h2
      rw [e, Option.bind_some]
      dsimp only
      rw [if_neg (by rw [decide_eq_true (show (l.length : Int) > 0 by omega)]; decide), if_pos rfl, if_pos (by omega), if_pos (by have := hb h0; omega)]
      simp only [beq_self_eq_true, Bool.not_true, Bool.or_self]
      exact end_is k (by omega) _ _ _ _ _ _ _ _ _ _
    · have e : fresh_Oldest.f k l = some (0, 0, (⟨#[]⟩ : ByteArray), 0, 0, false) := by unfold fresh_Oldest.f; rw [if_pos (by omega)]
      rw [e, Option.bind_some]
      dsimp only
      rw [if_neg (by rw [decide_eq_false (show ¬ (l.length : Int) > 0 by omega)]; decide), if_neg (by decide)]
      exact end_is k (by omega) _ _ _ _ _ _ _ _ _ _
  | succ d ih =>
    intro k i b hi hk hb hB
    obtain ⟨k, rfl⟩ : ∃ m, k = m + 1 := ⟨k - 1, by omega⟩
    have hb1 := hb (by omega)
    have hB1 := hB (by omega)
    rw [bst] at hB1
    rw [spencelaw36_FreshOldest.l0, if_pos (by omega), if_pos (by omega), if_pos (by omega), if_pos (by omega), if_pos (by omega), s1_is k _ _ _ _ _ _ _ _ _ _ (by omega), Option.bind_some, wr (a := (i : Int) + 1) (by omega) (by omega), show (i : Int) + 1 = ((i + 1 : Nat) : Int) by omega]
    by_cases h : oS (rd_T40 l (i : Int)) (rd_T40 l (b : Int)) < 0
    · rw [if_pos h] at hB1
      rw [if_pos (c := ord _ _ _ _ < 0) h]
      exact ih k (i + 1) i (by omega) (by omega) (fun _ => by omega) (fun _ => hB1)
    · rw [if_neg h] at hB1
      rw [if_neg (c := ord _ _ _ _ < 0) h]
      exact ih k (i + 1) b (by omega) (by omega) (fun _ => hb1) (fun _ => hB1)
theorem until_is : spencelaw36_awake.f 200 = some true := by
  unfold spencelaw36_awake.f
  decide +kernel
theorem oldest_pure (l : List S40) (o g : Int) (s : ByteArray) (n t o2 g2 : Int) (s2 : ByteArray) (n2 t2 : Int) : spencelaw36_FreshOldest.f 200 l o g s n t o2 g2 s2 n2 t2 = some true := by
  unfold spencelaw36_FreshOldest.f
  rw [until_is, Option.bind_some, if_pos rfl]
  by_cases h : (l.length : Int) > 40
  · rw [if_pos h]
  · rw [if_neg h]
    exact law_loop l (by omega) o g s n t o2 g2 s2 n2 t2 l.length 200 0 0 (by omega) (by omega) (fun h => h) (fun _ => rfl)
end Go.Proofs.Ytkbialmlddhclaa.OldPure
