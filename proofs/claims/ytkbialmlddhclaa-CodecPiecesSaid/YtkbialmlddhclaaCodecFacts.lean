/- What numbers laid as bytes, and read of them, come to, in plain words. -/
import Derived.Test.YtkbialmlddhclaaNumMath
import Derived.Test.YtkbialmlddhclaaQCodecx3
import Derived.Test.YtkbialmlddhclaaQCodecx8
import Derived.Test.YtkbialmlddhclaaQCodecx18
import Derived.Test.YtkbialmlddhclaaQCodecx13
namespace Go.Proofs.Ytkbialmlddhclaa.CodecFacts
open Go.RowKit Go.Proofs.YtkbialmlddhclaaW.PrintWords Go.Proofs.YtkbialmlddhclaaW.PrintLast Go.Proofs.YtkbialmlddhclaaW.PrintMore Go.Proofs.Ytkbialmlddhclaa.QCodec Go.Proofs.Ytkbialmlddhclaa.NumMath

theorem shr8 (n i : Nat) (hi : i ≤ 7) : shr .u64 (n : Int) (8 * (i : Int)) = ((n / 256 ^ i : Nat) : Int) := by
  unfold shr
  have e : (8 * (i : Int)).toNat = 8 * i := by omega
  rw [e, show IntKind.u64.bits = 64 from rfl, Nat.min_eq_left (by omega), show (256 : Nat) = 2 ^ 8 from rfl, ← Nat.pow_mul]
  norm_cast
theorem put_loop (j : Nat) : ∀ (k n : Nat) (l : List Int), j ≤ 8 → l.length + j ≤ 1000010 → j < k → nums_Put.l0 k (n : Int) l ((j : Int) - 1) = some (l ++ bb n j) := by
  induction j with
  | zero =>
    intro k n l hj hl hk
    obtain ⟨k, rfl⟩ : ∃ m, k = m + 1 := ⟨k - 1, by omega⟩
    simp only [nums_Put.l0]
    rw [if_neg (by omega)]
    simp [bb]
  | succ j ih =>
    intro k n l hj hl hk
    obtain ⟨k, rfl⟩ : ∃ m, k = m + 1 := ⟨k - 1, by omega⟩
    simp only [nums_Put.l0]
    rw [if_pos (by omega), show ((j + 1 : Nat) : Int) - 1 = (j : Int) by omega, wr (a := 8 * (j : Int)) (by omega) (by omega), if_pos (by omega), if_pos (by omega), wr (a := (j : Int) - 1) (by omega) (by omega), shr8 n j (by omega), ih k n _ (by omega) (by simp; omega) (by omega), List.append_assoc]
    simp [bb]
theorem put_is (k n m : Nat) (l : List Int) (hm : m ≤ 8) (hl : l.length ≤ 1000000) (hk : 9 ≤ k) : nums_Put.f k l (n : Int) (m : Int) = some (l ++ bb n m) := by
  unfold nums_Put.f slices_Clone_byte_byte.f
  rw [if_pos (by omega), Option.bind_some]
  have e : mn (mx (m : Int) 0) 8 = (m : Int) := by unfold mn mx; split <;> split <;> omega
  rw [e]
  exact put_loop m k n l hm (by omega) (by omega)
theorem lay_loop (d : Nat) : ∀ (k n c i : Nat) (l : List Int), i + d = 8 → c ≤ 8 → l.length + d ≤ 1000000 → d < k → spenceref01_Lay.l0 k (n : Int) (c : Int) l (i : Int) = some (l ++ bb n (min c d)) := by
  induction d with
  | zero =>
    intro k n c i l hi hc hl hk
    obtain ⟨k, rfl⟩ : ∃ m, k = m + 1 := ⟨k - 1, by omega⟩
    simp only [spenceref01_Lay.l0]
    rw [if_neg (by omega), Nat.min_zero]
    simp [bb]
  | succ d ih =>
    intro k n c i l hi hc hl hk
    obtain ⟨k, rfl⟩ : ∃ m, k = m + 1 := ⟨k - 1, by omega⟩
    simp only [spenceref01_Lay.l0]
    have e1 : wrap64 (8 * (i : Int)) = 8 * (i : Int) := wr (by omega) (by omega)
    have e2 : wrap64 (56 - 8 * (i : Int)) = 8 * (d : Int) := by rw [wr (by omega) (by omega)]; omega
    rw [if_pos (by omega), wr (a := 8 - (c : Int)) (by omega) (by omega), e1, e2, wr (a := (i : Int) + 1) (by omega) (by omega), show (i : Int) + 1 = ((i + 1 : Nat) : Int) by omega]
    by_cases h : (i : Int) ≥ 8 - (c : Int)
    · rw [if_pos h, if_pos (by omega), if_pos (by omega), shr8 n d (by omega), ih k n c (i + 1) _ (by omega) hc (by simp; omega) (by omega), Nat.min_eq_right (by omega), Nat.min_eq_right (by omega), List.append_assoc]
      simp [bb]
    · rw [if_neg h, ih k n c (i + 1) _ (by omega) hc (by omega) (by omega), Nat.min_eq_left (by omega), Nat.min_eq_left (by omega)]
theorem lay_is (k n c : Nat) (hc : c ≤ 8) (hk : 9 ≤ k) : spenceref01_Lay.f k (n : Int) (c : Int) = some (bb n c) := by
  have h := lay_loop 8 k n c 0 [] rfl hc (by simp) (by omega)
  rw [Nat.min_eq_left hc, List.nil_append] at h
  exact h
/-- An object's and a generation's bytes. -/
def begun (o g : Nat) : List Int := bb o 1 ++ bb g 4
theorem begun_len (o g : Nat) : (begun o g).length = 5 := by simp [begun, bb_len]
theorem begin_is (k o g : Nat) (ho : o < 2 ^ 63) (hg : g < 2 ^ 63) (hk : 9 ≤ k) : codec_begin.f k (o : Int) (g : Int) = some (begun o g) := by
  unfold codec_begin.f
  rw [u64_wrap _ (by omega) (by omega), u64_wrap _ (by omega) (by omega)]
  rw [show (1 : Int) = ((1 : Nat) : Int) from rfl, put_is k o 1 [] (by omega) (by simp) hk, Option.bind_some, show (4 : Int) = ((4 : Nat) : Int) from rfl, put_is k g 4 _ (by omega) (by simp [bb_len]) hk]
  rfl
theorem refbegin_is (k o g : Nat) (_ho : o < 2 ^ 63) (hg : g < 2 ^ 63) (hk : 9 ≤ k) : spenceref17_begin.f k (o : Int) (g : Int) = some (begun o g) := by
  unfold spenceref17_begin.f
  rw [Option.bind_some, u64_wrap _ (by omega) (by omega), show (4 : Int) = ((4 : Nat) : Int) from rfl, lay_is k g 4 (by omega) hk, Option.bind_some, if_pos (by simp [bb_len])]
  simp [begun, bb]
theorem beOr_from (l : List Int) (hl : Byt l) : ∀ a : Nat, a < 256 ^ (8 - l.length) → l.length ≤ 8 → beOr l (a : Int) = ((beFrom a l : Nat) : Int) := by
  induction l with
  | nil => intro a _ _; rfl
  | cons x l ih =>
    intro a ha h8
    have hx := hl x (by simp)
    have hl' : Byt l := fun y hy => hl y (by simp [hy])
    simp only [List.length_cons] at ha h8
    have ha2 : a < 2 ^ 56 := Nat.lt_of_lt_of_le ha (by
      rw [show (2 : Nat) ^ 56 = 256 ^ 7 by decide]
      exact Nat.pow_le_pow_right (by decide) (by omega))
    obtain ⟨x, rfl⟩ := Int.eq_ofNat_of_zero_le hx.1
    show beOr l (Go.bits .or .u64 (IntKind.u64.wrap ((a : Int) * 256)) (IntKind.u64.wrap (x : Int))) = _
    rw [or_add a x ha2 (by omega)]
    have hstep : a * 256 + x < 256 ^ (8 - l.length) := by
      rw [show 8 - l.length = (8 - (l.length + 1)) + 1 by omega, Nat.pow_succ]
      omega
    exact ih hl' _ hstep (by omega)
theorem beOr_is (l : List Int) (hl : Byt l) (h8 : l.length ≤ 8) : beOr l 0 = ((be l : Nat) : Int) :=
  beOr_from l hl 0 (Nat.pow_pos (by decide)) h8
theorem number_loop (d : Nat) : ∀ (k i : Nat) (l : List Int), Byt l → l.length ≤ 8 → i + d = l.length → d < k → spenceref17_number.l0 k ((be (l.take i) : Nat) : Int) l (l.length : Int) (i : Int) = some (wrap64 ((be l : Nat) : Int)) := by
  induction d with
  | zero =>
    intro k i l hl h8 hi hk
    obtain ⟨k, rfl⟩ : ∃ m, k = m + 1 := ⟨k - 1, by omega⟩
    simp only [spenceref17_number.l0]
    rw [if_neg (by omega), List.take_of_length_le (by omega)]
  | succ d ih =>
    intro k i l hl h8 hi hk
    obtain ⟨k, rfl⟩ : ∃ m, k = m + 1 := ⟨k - 1, by omega⟩
    have hlt : i < l.length := by omega
    have hr : rd l (i : Int) = l[i] := by simp [rd, List.getD_eq_getElem?_getD, List.getElem?_eq_getElem hlt]
    have hx := hl _ (List.getElem_mem hlt)
    have hb : be (l.take i) < 256 ^ 7 := Nat.lt_of_lt_of_le (be_lt _ (hl.take i)) (Nat.pow_le_pow_right (by decide) (by rw [List.length_take]; omega))
    have hs : be (l.take (i + 1)) = be (l.take i) * 256 + (l[i]).toNat := by
      rw [List.take_succ_eq_append_getElem hlt, be, beFrom, List.foldl_append]
      rfl
    simp only [spenceref17_number.l0]
    rw [if_pos (by omega), if_pos (by omega), if_pos (by omega), hr, u64_wrap (l[i]) (by omega) (by omega), u64_wrap (((be (l.take i) : Nat) : Int) * 256) (by omega) (by omega), u64_wrap _ (by omega) (by omega), wr (a := (i : Int) + 1) (by omega) (by omega), show (i : Int) + 1 = ((i + 1 : Nat) : Int) by omega,
      show (((be (l.take i) : Nat) : Int) * 256 + l[i]) = ((be (l.take (i + 1)) : Nat) : Int) by rw [hs]; omega]
    exact ih k (i + 1) l hl h8 (by omega) (by omega)
theorem number_is (k : Nat) (l : List Int) (hl : Byt l) (h8 : l.length ≤ 8) (hk : l.length < k) : spenceref17_number.f k l = some (wrap64 ((be l : Nat) : Int)) :=
  number_loop l.length k 0 l hl h8 (by omega) hk
end Go.Proofs.Ytkbialmlddhclaa.CodecFacts
