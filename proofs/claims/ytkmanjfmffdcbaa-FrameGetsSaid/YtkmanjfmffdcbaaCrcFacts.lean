/- What the functions of the sum's package compute, in plain words, out of the printed texts. -/
import Derived.Test.YtkmanjfmffdcbaaQFramex5
import Derived.Test.YtkmanjfmffdcbaaQFramex19
import Derived.Test.YtkmanjfmffdcbaaCrcMath
namespace Go.Proofs.Ytkmanjfmffdcbaa.CrcFacts
open Go.RowKit Go.Proofs.YtkmanjfmffdcbaaW.PrintWords Go.Proofs.YtkmanjfmffdcbaaW.PrintLast Go.Proofs.YtkmanjfmffdcbaaW.PrintMore Go.Proofs.Ytkmanjfmffdcbaa.QFrame Go.Proofs.Ytkmanjfmffdcbaa.CrcMath

/-- Bytes: each is from 0 to 255. -/
def Byt (l : List Int) : Prop := ∀ x ∈ l, 0 ≤ x ∧ x ≤ 255
def nb (l : List Int) : List Nat := l.map Int.toNat
theorem nb_lt {l : List Int} (h : Byt l) : ∀ x ∈ nb l, x < 256 := by
  intro x hx
  obtain ⟨y, hy, rfl⟩ := List.mem_map.1 hx
  have := h y hy
  omega
theorem bits_xor (a b : Nat) (ha : a < 2 ^ 32) (hb : b < 2 ^ 32) : Go.bits .xor .u32 (a : Int) (b : Int) = ((a ^^^ b : Nat) : Int) := by
  have ha' : a % 2 ^ 32 = a := Nat.mod_eq_of_lt ha
  have hb' : b % 2 ^ 32 = b := Nat.mod_eq_of_lt hb
  simp only [Go.bits, BitVec.ofInt_natCast, BitVec.toNat_xor, BitVec.toNat_ofNat, show IntKind.u32.bits = 32 from rfl, ha', hb']
  have h := Nat.xor_lt_two_pow ha hb
  rw [IntKind.wrap_u32]
  omega
theorem bits_and1 (a : Nat) (ha : a < 2 ^ 32) : Go.bits .and .u32 (a : Int) 1 = ((a % 2 : Nat) : Int) := by
  have ha' : a % 2 ^ 32 = a := Nat.mod_eq_of_lt ha
  have h1 : (1 : Int) = ((1 : Nat) : Int) := rfl
  rw [h1]
  simp only [Go.bits, BitVec.ofInt_natCast, BitVec.toNat_and, BitVec.toNat_ofNat, show IntKind.u32.bits = 32 from rfl, ha', show 1 % 2 ^ 32 = 1 from rfl, Nat.and_one_is_mod]
  rw [IntKind.wrap_u32]
  omega
theorem wr {a : Int} (h1 : -9223372036854775808 ≤ a) (h2 : a ≤ 9223372036854775807) : wrap64 a = a := by unfold wrap64; omega

theorem next_loop (n : Nat) : ∀ (k c i : Nat), c < 2 ^ 32 → i + n = 8 → n < k → crc_Next.l0 k (c : Int) (i : Int) = some ((steps n c : Nat) : Int) := by
  induction n with
  | zero =>
    intro k c i hc hi hk
    obtain ⟨k, rfl⟩ : ∃ m, k = m + 1 := ⟨k - 1, by omega⟩
    simp only [crc_Next.l0]; rw [if_neg (by omega)]; rfl
  | succ n ih =>
    intro k c i hc hi hk
    obtain ⟨k, rfl⟩ : ∃ m, k = m + 1 := ⟨k - 1, by omega⟩
    simp only [crc_Next.l0, steps]
    rw [if_pos (by omega), bits_and1 c hc, wr (a := (i : Int) + 1) (by omega) (by omega), show (c : Int) / 2 = ((c / 2 : Nat) : Int) by omega, show (i : Int) + 1 = ((i + 1 : Nat) : Int) by omega]
    unfold CrcMath.step
    by_cases h : c % 2 = 1
    · rw [if_pos (by omega), if_pos h, show (3988292384 : Int) = ((poly : Nat) : Int) from rfl, bits_xor _ _ (by omega) poly_lt]
      exact ih k _ _ (Nat.xor_lt_two_pow (by omega) poly_lt) (by omega) (by omega)
    · rw [if_neg (by omega), if_neg h]
      exact ih k _ _ (by omega) (by omega) (by omega)
theorem next_is (k c b : Nat) (hc : c < 2 ^ 32) (hb : b < 256) (hk : 9 ≤ k) : crc_Next.f k (c : Int) (b : Int) = some ((next c b : Nat) : Int) := by
  unfold crc_Next.f next
  rw [show ((b : Int)) % 4294967296 = ((b : Nat) : Int) by omega, bits_xor c b hc (by omega)]
  exact next_loop 8 k (c ^^^ b) 0 (Nat.xor_lt_two_pow hc (by omega)) rfl (by omega)
theorem rd_nat {l : List Int} (h : Byt l) (i : Nat) (hi : i < l.length) : rd l (i : Int) = ((l.getD i 0).toNat : Int) ∧ (l.getD i 0).toNat < 256 := by
  have hm := h _ (List.getElem_mem hi)
  unfold rd
  simp only [Int.toNat_natCast, List.getD_eq_getElem?_getD, List.getElem?_eq_getElem hi, Option.getD_some]
  omega
theorem nb_drop {l : List Int} (i : Nat) (hi : i < l.length) : nb (l.drop i) = (l.getD i 0).toNat :: nb (l.drop (i + 1)) := by
  show List.map Int.toNat (List.drop i l) = (l.getD i 0).toNat :: List.map Int.toNat (List.drop (i + 1) l)
  rw [List.drop_eq_getElem_cons hi, List.map_cons, List.getD_eq_getElem?_getD, List.getElem?_eq_getElem hi, Option.getD_some]
theorem many_loop (n : Nat) : ∀ (k c i : Nat) (l : List Int), Byt l → c < 2 ^ 32 → i + n = l.length → l.length ≤ 9223372036854775806 → n + 10 ≤ k → crc_Many.l0 k (c : Int) l (l.length : Int) (i : Int) = some ((many c (nb (l.drop i)) : Nat) : Int) := by
  induction n with
  | zero =>
    intro k c i l hl hc hi hm hk
    obtain ⟨k, rfl⟩ : ∃ m, k = m + 1 := ⟨k - 1, by omega⟩
    simp only [crc_Many.l0]; rw [if_neg (by omega), List.drop_of_length_le (by omega)]; rfl
  | succ n ih =>
    intro k c i l hl hc hi hm hk
    obtain ⟨k, rfl⟩ : ∃ m, k = m + 1 := ⟨k - 1, by omega⟩
    obtain ⟨h1, h2⟩ := rd_nat hl i (by omega)
    simp only [crc_Many.l0]
    rw [if_pos (by omega), if_pos (by omega), if_pos (by omega), h1, next_is k c _ hc h2 (by omega), Option.bind_some, wr (a := (i : Int) + 1) (by omega) (by omega), show (i : Int) + 1 = ((i + 1 : Nat) : Int) by omega, nb_drop i (by omega), many_cons]
    exact ih k _ _ l hl (next_lt hc h2) (by omega) hm (by omega)
theorem many_is (k c : Nat) (l : List Int) (hl : Byt l) (hc : c < 2 ^ 32) (hm : l.length ≤ 9223372036854775806) (hk : l.length + 10 ≤ k) : crc_Many.f k (c : Int) l = some ((many c (nb l) : Nat) : Int) := by
  have h := many_loop l.length k c 0 l hl hc (by omega) hm hk
  rw [List.drop_zero] at h
  exact h
/-- The sum of bytes. -/
def sum (l : List Nat) : Nat := 4294967295 ^^^ many 4294967295 l
theorem sum_lt {l : List Nat} (h : ∀ x ∈ l, x < 256) : sum l < 2 ^ 32 := Nat.xor_lt_two_pow (by decide) (many_lt l (by decide) h)
theorem sum_is (k : Nat) (l : List Int) (hl : Byt l) (hm : l.length ≤ 9223372036854775806) (hk : l.length + 10 ≤ k) : crc_Sum.f k l = some ((sum (nb l) : Nat) : Int) := by
  unfold crc_Sum.f
  rw [show (4294967295 : Int) = ((4294967295 : Nat) : Int) from rfl, many_is k 4294967295 l hl (by decide) hm hk, Option.bind_some, bits_xor _ _ (by decide) (many_lt _ (by decide) (nb_lt hl))]
  rfl

theorem ref_loop (n : Nat) : ∀ (k c b i : Nat), c < 2 ^ 32 → b < 256 → i + n = 8 → n < k → spenceref01_Next.l0 k (c : Int) (b : Int) (i : Int) = some ((refs n c (b / 2 ^ i) : Nat) : Int) := by
  induction n with
  | zero =>
    intro k c b i hc hb hi hk
    obtain ⟨k, rfl⟩ : ∃ m, k = m + 1 := ⟨k - 1, by omega⟩
    simp only [spenceref01_Next.l0]; rw [if_neg (by omega)]; rfl
  | succ n ih =>
    intro k c b i hc hb hi hk
    obtain ⟨k, rfl⟩ : ∃ m, k = m + 1 := ⟨k - 1, by omega⟩
    have hs : (shr .u8 (b : Int) (i : Int)) % 4294967296 = ((b / 2 ^ i : Nat) : Int) := by
      unfold shr
      rw [Int.toNat_natCast, show IntKind.u8.bits = 8 from rfl, Nat.min_eq_left (by omega), show ((b : Int) / 2 ^ i) = ((b / 2 ^ i : Nat) : Int) by norm_cast]
      have : b / 2 ^ i ≤ b := Nat.div_le_self _ _
      generalize b / 2 ^ i = q at *
      omega
    have hd : b / 2 ^ i ≤ b := Nat.div_le_self _ _
    simp only [spenceref01_Next.l0, refs]
    rw [if_pos (by omega), if_pos (by omega), hs, bits_and1 c hc, bits_and1 _ (by omega), bits_xor _ _ (by omega) (by omega), wr (a := (i : Int) + 1) (by omega) (by omega), show (i : Int) + 1 = ((i + 1 : Nat) : Int) by omega, show Int.tdiv (c : Int) 2 % 4294967296 = ((c / 2 : Nat) : Int) by rw [Int.tdiv_eq_ediv_of_nonneg (by omega)]; omega]
    have hp : b / 2 ^ i / 2 = b / 2 ^ (i + 1) := by rw [Nat.div_div_eq_div_mul, Nat.pow_succ]
    have hx : (c % 2) ^^^ (b / 2 ^ i % 2) = (c ^^^ (b / 2 ^ i % 2)) % 2 := by
      rw [xor_mod_two]
      rcases Nat.mod_two_eq_zero_or_one c with h | h <;> rcases Nat.mod_two_eq_zero_or_one (b / 2 ^ i) with h' | h' <;> rw [h, h'] <;> rfl
    have hh : (c ^^^ (b / 2 ^ i % 2)) / 2 = c / 2 := by rw [Nat.xor_div_two, show b / 2 ^ i % 2 / 2 = 0 by omega, Nat.xor_zero]
    rw [hx, hp]
    unfold CrcMath.step
    rw [hh]
    by_cases h : (c ^^^ (b / 2 ^ i % 2)) % 2 = 1
    · rw [if_pos (by omega), if_pos h, show (3988292384 : Int) = ((poly : Nat) : Int) from rfl, bits_xor _ _ (by omega) poly_lt]
      exact ih k _ b _ (Nat.xor_lt_two_pow (by omega) poly_lt) hb (by omega) (by omega)
    · rw [if_neg (by omega), if_neg h]
      exact ih k _ b _ (by omega) hb (by omega) (by omega)
theorem ref_is (k c b : Nat) (hc : c < 2 ^ 32) (hb : b < 256) (hk : 9 ≤ k) : spenceref01_Next.f k (c : Int) (b : Int) = some ((next c b : Nat) : Int) := by
  unfold spenceref01_Next.f
  have h := ref_loop 8 k c b 0 hc hb rfl (by omega)
  rw [Nat.pow_zero, Nat.div_one, refs_next c b hb] at h
  exact h
theorem refsum_loop (n : Nat) : ∀ (k c i : Nat) (l : List Int), Byt l → c < 2 ^ 32 → i + n = l.length → l.length ≤ 9223372036854775806 → n + 10 ≤ k → spenceref01_Sum.l0 k (c : Int) l (l.length : Int) (i : Int) = some ((4294967295 ^^^ many c (nb (l.drop i)) : Nat) : Int) := by
  induction n with
  | zero =>
    intro k c i l hl hc hi hm hk
    obtain ⟨k, rfl⟩ : ∃ m, k = m + 1 := ⟨k - 1, by omega⟩
    simp only [spenceref01_Sum.l0]; rw [if_neg (by omega), List.drop_of_length_le (by omega), show (4294967295 : Int) = ((4294967295 : Nat) : Int) from rfl, bits_xor _ _ hc (by decide), Nat.xor_comm]; rfl
  | succ n ih =>
    intro k c i l hl hc hi hm hk
    obtain ⟨k, rfl⟩ : ∃ m, k = m + 1 := ⟨k - 1, by omega⟩
    obtain ⟨h1, h2⟩ := rd_nat hl i (by omega)
    simp only [spenceref01_Sum.l0]
    rw [if_pos (by omega), if_pos (by omega), if_pos (by omega), h1, ref_is k c _ hc h2 (by omega), Option.bind_some, wr (a := (i : Int) + 1) (by omega) (by omega), show (i : Int) + 1 = ((i + 1 : Nat) : Int) by omega, nb_drop i (by omega), many_cons]
    exact ih k _ _ l hl (next_lt hc h2) (by omega) hm (by omega)
theorem refsum_is (k : Nat) (l : List Int) (hl : Byt l) (hm : l.length ≤ 9223372036854775806) (hk : l.length + 10 ≤ k) : spenceref01_Sum.f k l = some ((sum (nb l) : Nat) : Int) := by
  have h := refsum_loop l.length k 4294967295 0 l hl (by decide) (by omega) hm hk
  rw [List.drop_zero] at h
  exact h
end Go.Proofs.Ytkmanjfmffdcbaa.CrcFacts
