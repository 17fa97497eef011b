/- What sealing and opening of bytes computes, in plain words. -/
import Derived.Test.YtkmanjfmffdcbaaCrcFacts
import Derived.Test.YtkmanjfmffdcbaaQFramex14
import Derived.Test.YtkmanjfmffdcbaaQFramex7
import Derived.Test.YtkmanjfmffdcbaaQFramex20
import Derived.Test.YtkmanjfmffdcbaaQFramex16
namespace Go.Proofs.Ytkmanjfmffdcbaa.CrcFacts
open Go.RowKit Go.Proofs.YtkmanjfmffdcbaaW.PrintWords Go.Proofs.YtkmanjfmffdcbaaW.PrintLast Go.Proofs.YtkmanjfmffdcbaaW.PrintMore Go.Proofs.Ytkmanjfmffdcbaa.QFrame Go.Proofs.Ytkmanjfmffdcbaa.CrcMath

/-- A sum's four bytes, the lowest first. -/
def le4 (n : Nat) : List Int := [(n : Int) % 256, (n : Int) / 256 % 256, (n : Int) / 65536 % 256, (n : Int) / 16777216 % 256]
theorem le4_len (n : Nat) : (le4 n).length = 4 := rfl
theorem le4_byt (n : Nat) : Byt (le4 n) := by
  intro x hx
  simp only [le4, List.mem_cons, List.not_mem_nil, or_false] at hx
  omega
theorem le4_inj {a b : Nat} (ha : a < 2 ^ 32) (hb : b < 2 ^ 32) (h : le4 a = le4 b) : a = b := by
  simp only [le4, List.cons.injEq, and_true] at h
  omega
theorem tail_is (k : Nat) (l : List Int) (hl : Byt l) (hm : l.length ≤ 9223372036854775806) (hk : l.length + 10 ≤ k) : crc_tail.f k l = some (le4 (sum (nb l))) := by
  unfold crc_tail.f
  rw [sum_is k l hl hm hk, Option.bind_some]
  obtain ⟨k, rfl⟩ : ∃ m, k = m + 5 := ⟨k - 5, by omega⟩
  have hs := sum_lt (nb_lt hl)
  generalize sum (nb l) = n at *
  have e0 : shr .u32 (n : Int) 0 = (n : Int) := by simp [shr]
  have e1 : shr .u32 (n : Int) 8 = (n : Int) / 256 := by simp [shr, IntKind.bits]
  have e2 : shr .u32 (n : Int) 16 = (n : Int) / 65536 := by simp [shr, IntKind.bits]
  have e3 : shr .u32 (n : Int) 24 = (n : Int) / 16777216 := by simp [shr, IntKind.bits]
  have w0 : wrap64 (8 * 0) = 0 := by decide +kernel
  have w1 : wrap64 (8 * 1) = 8 := by decide +kernel
  have w2 : wrap64 (8 * 2) = 16 := by decide +kernel
  have w3 : wrap64 (8 * 3) = 24 := by decide +kernel
  have a0 : wrap64 (0 + 1) = 1 := by decide +kernel
  have a1 : wrap64 (1 + 1) = 2 := by decide +kernel
  have a2 : wrap64 (2 + 1) = 3 := by decide +kernel
  have a3 : wrap64 (3 + 1) = 4 := by decide +kernel
  simp only [crc_tail.l0, w0, w1, w2, w3, a0, a1, a2, a3, e0, e1, e2, e3]
  rfl
theorem seal_is (k : Nat) (l : List Int) (hl : Byt l) (hm : l.length ≤ 900000) (hk : l.length + 10 ≤ k) : crc_Seal.f k l = some (l ++ le4 (sum (nb l))) := by
  unfold crc_Seal.f
  rw [tail_is k l hl (by omega) hk, Option.bind_some, if_pos (by rw [le4_len]; omega)]
theorem eq_loop (n : Nat) : ∀ (k i : Nat) (a b : List Int), a.length = b.length → i + n = a.length → a.length ≤ 9223372036854775806 → n < k → slices_Equal_byte_byte.l0 k a b (a.length : Int) (i : Int) = some (decide (a.drop i = b.drop i)) := by
  induction n with
  | zero =>
    intro k i a b hab hi hm hk
    obtain ⟨k, rfl⟩ : ∃ m, k = m + 1 := ⟨k - 1, by omega⟩
    simp only [slices_Equal_byte_byte.l0]
    rw [if_neg (by omega), List.drop_of_length_le (by omega), List.drop_of_length_le (by omega)]
    simp
  | succ n ih =>
    intro k i a b hab hi hm hk
    obtain ⟨k, rfl⟩ : ∃ m, k = m + 1 := ⟨k - 1, by omega⟩
    have ea : a.drop i = rd a i :: a.drop (i + 1) := by
      rw [List.drop_eq_getElem_cons (by omega)]
      simp [rd, List.getD_eq_getElem?_getD, List.getElem?_eq_getElem (show i < a.length by omega)]
    have eb : b.drop i = rd b i :: b.drop (i + 1) := by
      rw [List.drop_eq_getElem_cons (by omega)]
      simp [rd, List.getD_eq_getElem?_getD, List.getElem?_eq_getElem (show i < b.length by omega)]
    simp only [slices_Equal_byte_byte.l0]
    rw [if_pos (by omega), if_pos (by omega), if_pos (by omega), if_pos (by omega), ea, eb]
    by_cases h : rd a i = rd b i
    · rw [if_pos h, wr (a := (i : Int) + 1) (by omega) (by omega), show (i : Int) + 1 = ((i + 1 : Nat) : Int) by omega, ih k (i + 1) a b hab (by omega) hm (by omega)]
      simp [h]
    · rw [if_neg h]
      simp [h]
theorem equal_is (k : Nat) (a b : List Int) (hm : a.length ≤ 9223372036854775806) (hk : a.length < k) : slices_Equal_byte_byte.f k a b = some (decide (a = b)) := by
  unfold slices_Equal_byte_byte.f
  by_cases h : a.length = b.length
  · rw [if_pos (by omega)]
    have := eq_loop a.length k 0 a b h (by omega) hm hk
    simpa using this
  · rw [if_neg (by omega), decide_eq_false (fun e => h (by rw [e]))]
theorem bytes_loop (n : Nat) : ∀ (k i : Nat) (a b : List Int), a.length = b.length → i + n = a.length → a.length ≤ 9223372036854775806 → n < k → spenceref01_Bytes.l0 k a b (a.length : Int) (i : Int) = some (decide (a.drop i = b.drop i)) := by
  induction n with
  | zero =>
    intro k i a b hab hi hm hk
    obtain ⟨k, rfl⟩ : ∃ m, k = m + 1 := ⟨k - 1, by omega⟩
    simp only [spenceref01_Bytes.l0]
    rw [if_neg (by omega), List.drop_of_length_le (by omega), List.drop_of_length_le (by omega)]
    simp
  | succ n ih =>
    intro k i a b hab hi hm hk
    obtain ⟨k, rfl⟩ : ∃ m, k = m + 1 := ⟨k - 1, by omega⟩
    have ea : a.drop i = rd a i :: a.drop (i + 1) := by
      rw [List.drop_eq_getElem_cons (by omega)]
      simp [rd, List.getD_eq_getElem?_getD, List.getElem?_eq_getElem (show i < a.length by omega)]
    have eb : b.drop i = rd b i :: b.drop (i + 1) := by
      rw [List.drop_eq_getElem_cons (by omega)]
      simp [rd, List.getD_eq_getElem?_getD, List.getElem?_eq_getElem (show i < b.length by omega)]
    simp only [spenceref01_Bytes.l0]
    rw [if_pos (by omega), if_pos (by omega), if_pos (by omega), if_pos (by omega), ea, eb]
    by_cases h : rd a i = rd b i
    · rw [if_pos h, wr (a := (i : Int) + 1) (by omega) (by omega), show (i : Int) + 1 = ((i + 1 : Nat) : Int) by omega, ih k (i + 1) a b hab (by omega) hm (by omega)]
      simp [h]
    · rw [if_neg h]
      simp [h]
theorem bytes_is (k : Nat) (a b : List Int) (hm : a.length ≤ 9223372036854775806) (hk : a.length < k) : spenceref01_Bytes.f k a b = some (decide (a = b)) := by
  unfold spenceref01_Bytes.f
  by_cases h : a.length = b.length
  · rw [if_pos (by omega)]
    have := bytes_loop a.length k 0 a b h (by omega) hm hk
    simpa using this
  · rw [if_neg (by omega), decide_eq_false (fun e => h (by rw [e]))]
theorem refseal_is (k : Nat) (l : List Int) (hl : Byt l) (hm : l.length ≤ 900000) (hk : l.length + 10 ≤ k) : spenceref01_Seal.f k l = some (l ++ le4 (sum (nb l))) := by
  unfold spenceref01_Seal.f
  rw [if_pos (by simp; omega), Option.bind_some, refsum_is k l hl (by omega) hk, Option.bind_some, Option.bind_some, if_pos (by simp; omega), List.nil_append]
  rfl
/-- What Open tells. -/
def opened (s : List Int) : List Int × Int :=
  if s.length < 4 then ([], 3) else if le4 (sum (nb (s.take (s.length - 4)))) = s.drop (s.length - 4) then (s.take (s.length - 4), 0) else ([], 4)
theorem open_is (k : Nat) (s : List Int) (hl : Byt s) (hm : s.length ≤ 900000) (hk : s.length + 10 ≤ k) : crc_Open.f k s = some (opened s) := by
  unfold crc_Open.f opened
  rw [wr (by omega) (by omega)]
  by_cases h : s.length < 4
  · rw [if_pos (by omega), if_pos h]
  · have e : ((s.length : Int) - 4).toNat = s.length - 4 := by omega
    have hb : Byt (s.take (s.length - 4)) := fun x hx => hl x (List.mem_of_mem_take hx)
    have hL : (s.take (s.length - 4)).length = s.length - 4 := by rw [List.length_take]; omega
    rw [if_neg (by omega), if_pos (by omega), if_pos (by omega), if_neg h, e, tail_is k _ hb (by omega) (by omega), Option.bind_some, equal_is k _ _ (by rw [le4_len]; omega) (by rw [le4_len]; omega), Option.bind_some]
    by_cases h2 : le4 (sum (nb (s.take (s.length - 4)))) = s.drop (s.length - 4)
    · rw [if_pos (decide_eq_true h2), if_pos h2]
      unfold slices_Clone_byte_byte.f
      rw [if_pos (by omega)]
      rfl
    · rw [if_neg (by simpa using h2), if_neg h2]
theorem open_seal (l : List Int) : opened (l ++ le4 (sum (nb l))) = (l, 0) := by
  unfold opened
  have h1 : (l ++ le4 (sum (nb l))).length - 4 = l.length := by rw [List.length_append, le4_len]; omega
  rw [if_neg (by rw [List.length_append, le4_len]; omega), h1, List.take_left, List.drop_left, if_pos rfl]
theorem sum_set (l : List Int) (hl : Byt l) (i : Nat) (hi : i < l.length) (x : Int) (hx : 0 ≤ x ∧ x ≤ 255) (hne : rd l i ≠ x) : sum (nb (l.set i x)) ≠ sum (nb l) := by
  have e1 : l.set i x = l.take i ++ x :: l.drop (i + 1) := by rw [List.set_eq_take_append_cons_drop, if_pos hi]
  have e2 : l = l.take i ++ rd l i :: l.drop (i + 1) := by
    have : l.drop i = rd l i :: l.drop (i + 1) := by
      rw [List.drop_eq_getElem_cons hi]
      simp [rd, List.getD_eq_getElem?_getD, List.getElem?_eq_getElem hi]
    rw [← this, List.take_append_drop]
  have hy : 0 ≤ rd l i ∧ rd l i ≤ 255 := by
    have := hl _ (List.getElem_mem hi)
    unfold rd
    rw [Int.toNat_natCast, List.getD_eq_getElem?_getD, List.getElem?_eq_getElem hi]
    exact this
  intro h
  have hm := xor_left_inj h
  rw [e1] at hm
  have hr : nb l = nb (l.take i) ++ (rd l i).toNat :: nb (l.drop (i + 1)) := by
    conv => lhs; rw [e2]
    simp [nb]
  have hl2 : nb (l.take i ++ x :: l.drop (i + 1)) = nb (l.take i) ++ x.toNat :: nb (l.drop (i + 1)) := by simp [nb]
  rw [hr, hl2] at hm
  refine many_one 4294967295 (nb (l.take i)) (nb (l.drop (i + 1))) x.toNat (rd l i).toNat (by decide) (nb_lt (fun z hz => hl z (List.mem_of_mem_take hz))) (nb_lt (fun z hz => hl z (List.mem_of_mem_drop hz))) (by omega) (by omega) ?_ hm
  omega

theorem opened_other (l : List Int) (hl : Byt l) (i : Nat) (hi : i < l.length + 4) (x : Int) (hx : 0 ≤ x ∧ x ≤ 255) (hne : rd (l ++ le4 (sum (nb l))) i ≠ x) :
    (opened ((l ++ le4 (sum (nb l))).set i x)).2 = 4 ∧ (i < l.length → sum (nb (((l ++ le4 (sum (nb l))).set i x).take l.length)) ≠ sum (nb l)) := by
  have hlen : ((l ++ le4 (sum (nb l))).set i x).length = l.length + 4 := by rw [List.length_set, List.length_append, le4_len]
  have hop : ∀ s : List Int, s.length = l.length + 4 → le4 (sum (nb (s.take l.length))) ≠ s.drop l.length → (opened s).2 = 4 := by
    intro s hs h
    unfold opened
    rw [if_neg (by omega), show s.length - 4 = l.length by omega, if_neg h]
  by_cases h : i < l.length
  · have ht : ((l ++ le4 (sum (nb l))).set i x).take l.length = l.set i x := by rw [List.set_append_left _ _ h, List.take_left' (by rw [List.length_set])]
    have hd : ((l ++ le4 (sum (nb l))).set i x).drop l.length = le4 (sum (nb l)) := by rw [List.set_append_left _ _ h, List.drop_left' (by rw [List.length_set])]
    have hr : rd (l ++ le4 (sum (nb l))) i = rd l i := by
      unfold rd
      rw [Int.toNat_natCast, List.getD_eq_getElem?_getD, List.getD_eq_getElem?_getD, List.getElem?_append_left h]
    rw [hr] at hne
    have hs := sum_set l hl i h x hx hne
    have hB : Byt (l.set i x) := by
      intro y hy
      rcases List.mem_or_eq_of_mem_set hy with h1 | h1
      · exact hl y h1
      · rw [h1]; exact hx
    refine ⟨hop _ hlen ?_, fun _ => by rw [ht]; exact hs⟩
    rw [ht, hd]
    intro he
    exact hs (le4_inj (sum_lt (nb_lt hB)) (sum_lt (nb_lt hl)) he)
  · have ht : ((l ++ le4 (sum (nb l))).set i x).take l.length = l := by rw [List.set_append_right _ _ (by omega), List.take_left]
    have hd : ((l ++ le4 (sum (nb l))).set i x).drop l.length = (le4 (sum (nb l))).set (i - l.length) x := by rw [List.set_append_right _ _ (by omega), List.drop_left]
    refine ⟨hop _ hlen ?_, fun h' => absurd h' h⟩
    rw [ht, hd]
    intro he
    apply hne
    have hi2 : i - l.length < (le4 (sum (nb l))).length := by rw [le4_len]; omega
    unfold rd
    rw [Int.toNat_natCast, List.getD_eq_getElem?_getD, List.getElem?_append_right (by omega), he, List.getElem?_set_self hi2]
    rfl

end Go.Proofs.Ytkmanjfmffdcbaa.CrcFacts
