/- What pieces as bytes, and bytes as pieces, come to, in plain words. -/
import Derived.Test.YtkbialmlddhclaaCodecFacts
import Derived.Test.YtkbialmlddhclaaQCodecx10
import Derived.Test.YtkbialmlddhclaaQCodecx7
import Derived.Test.YtkbialmlddhclaaQCodecx14
import Derived.Test.YtkbialmlddhclaaQCodecx16
import Derived.Test.YtkbialmlddhclaaQCodecx19
import Derived.Test.YtkbialmlddhclaaQCodecx5
namespace Go.Proofs.Ytkbialmlddhclaa.CodecFacts
open Go.RowKit Go.Proofs.YtkbialmlddhclaaW.PrintWords Go.Proofs.YtkbialmlddhclaaW.PrintLast Go.Proofs.YtkbialmlddhclaaW.PrintMore Go.Proofs.Ytkbialmlddhclaa.QCodec Go.Proofs.Ytkbialmlddhclaa.NumMath

abbrev Own (o g : Int) : Prop := 0 ≤ o ∧ o ≤ 15 ∧ 1 ≤ g ∧ g ≤ 2147483647
abbrev OkP (o g i : Int) (n : Nat) : Prop := Own o g ∧ 0 ≤ i ∧ i ≤ 4096 ∧ 1 ≤ n ∧ n ≤ 64
theorem fits_is (a b c : Int) : nums_Fits.f a b c = some (decide (b ≤ a ∧ a ≤ c)) := by
  unfold nums_Fits.f
  by_cases h : a ≥ b
  · rw [if_pos h]; congr 1; exact decide_eq_decide.2 ⟨fun h2 => ⟨h, h2⟩, fun h2 => h2.2⟩
  · rw [if_neg h, decide_eq_false (by omega)]
theorem owner_is (o g : Int) : codec_owner.f o g = some (decide (Own o g)) := by
  unfold codec_owner.f Own
  rw [fits_is, fits_is, Option.bind_some]
  by_cases h : 0 ≤ o ∧ o ≤ 15
  · rw [if_pos (decide_eq_true h), Option.bind_some]; congr 1; exact decide_eq_decide.2 (by omega)
  · rw [if_neg (by simpa using h), decide_eq_false (by omega)]
theorem refowner_is (o g : Int) : spenceref17_owner.f o g = some (decide (Own o g)) := by
  unfold spenceref17_owner.f Own
  by_cases h1 : o ≥ 0
  · rw [if_pos h1]
    by_cases h2 : o ≤ 15
    · rw [if_pos h2]
      by_cases h3 : g ≥ 1
      · rw [if_pos h3]; congr 1; exact decide_eq_decide.2 (by omega)
      · rw [if_neg h3, decide_eq_false (by omega)]
    · rw [if_neg h2, decide_eq_false (by omega)]
  · rw [if_neg h1, decide_eq_false (by omega)]
theorem piece_is (o g i : Int) (l : List Int) : codec_piece.f o g i l = some (decide (OkP o g i l.length)) := by
  unfold codec_piece.f OkP
  rw [owner_is, fits_is, fits_is, Option.bind_some]
  by_cases h : Own o g
  · rw [if_pos (decide_eq_true h), Option.bind_some]
    by_cases h2 : 0 ≤ i ∧ i ≤ 4096
    · rw [if_pos (decide_eq_true h2), Option.bind_some]; congr 1; exact decide_eq_decide.2 ⟨fun h3 => ⟨h, by omega⟩, fun h3 => by omega⟩
    · rw [if_neg (by simpa using h2), decide_eq_false (by omega)]
  · rw [if_neg (by simpa using h), decide_eq_false (fun h3 => h h3.1)]
theorem refpiece_is (o g i : Int) (l : List Int) : spenceref17_RightPiece.f o g i l = some (decide (OkP o g i l.length)) := by
  unfold spenceref17_RightPiece.f OkP
  rw [refowner_is, Option.bind_some]
  by_cases h : Own o g
  · rw [if_pos (decide_eq_true h)]
    by_cases h1 : i ≥ 0
    · rw [if_pos h1]
      by_cases h2 : i ≤ 4096
      · rw [if_pos h2]
        by_cases h3 : (l.length : Int) ≥ 1
        · rw [if_pos h3]; congr 1; exact decide_eq_decide.2 ⟨fun h3 => ⟨h, by omega⟩, fun h3 => by omega⟩
        · rw [if_neg h3, decide_eq_false (by omega)]
      · rw [if_neg h2, decide_eq_false (by omega)]
    · rw [if_neg h1, decide_eq_false (by omega)]
  · rw [if_neg (by simpa using h), decide_eq_false (fun h3 => h h3.1)]
theorem bytes_loop (n : Nat) : ∀ (k i : Nat) (a b : List Int), a.length = b.length → i + n = a.length → a.length ≤ 9223372036854775806 → n < k → spenceref01_Bytes.l0 k a b (a.length : Int) (i : Int) = some (decide (a.drop i = b.drop i)) := by
  induction n with
  | zero =>
    intro k i a b hab hi hm hk
    obtain ⟨k, rfl⟩ : ∃ m, k = m + 1 := ⟨k - 1, by omega⟩
    simp only [spenceref01_Bytes.l0]
    rw [if_neg (by omega), List.drop_of_length_le (by omega), List.drop_of_length_le (by omega)]
    simp
  | succ n ih =>
    intro k i a b hab hi hm hk
    obtain ⟨k, rfl⟩ : ∃ m, k = m + 1 := ⟨k - 1, by omega⟩
    have ea : a.drop i = rd a i :: a.drop (i + 1) := by
      rw [List.drop_eq_getElem_cons (by omega)]
      simp [rd, List.getD_eq_getElem?_getD, List.getElem?_eq_getElem (show i < a.length by omega)]
    have eb : b.drop i = rd b i :: b.drop (i + 1) := by
      rw [List.drop_eq_getElem_cons (by omega)]
      simp [rd, List.getD_eq_getElem?_getD, List.getElem?_eq_getElem (show i < b.length by omega)]
    simp only [spenceref01_Bytes.l0]
    rw [if_pos (by omega), if_pos (by omega), if_pos (by omega), if_pos (by omega), ea, eb]
    by_cases h : rd a i = rd b i
    · rw [if_pos h, wr (a := (i : Int) + 1) (by omega) (by omega), show (i : Int) + 1 = ((i + 1 : Nat) : Int) by omega, ih k (i + 1) a b hab (by omega) hm (by omega)]
      simp [h]
    · rw [if_neg h]
      simp [h]
theorem bytes_is (k : Nat) (a b : List Int) (hm : a.length ≤ 9223372036854775806) (hk : a.length < k) : spenceref01_Bytes.f k a b = some (decide (a = b)) := by
  unfold spenceref01_Bytes.f
  by_cases h : a.length = b.length
  · rw [if_pos (by omega)]
    have := bytes_loop a.length k 0 a b h (by omega) hm hk
    simpa using this
  · rw [if_neg (by omega), decide_eq_false (fun e => h (by rw [e]))]
theorem same_is (k : Nat) (o g i : Int) (l : List Int) (hm : l.length ≤ 9223372036854775806) (hk : l.length < k) : spenceref17_SamePiece.f k o g i l o g i l = some true := by
  unfold spenceref17_SamePiece.f
  rw [if_pos rfl, if_pos rfl, if_pos rfl, bytes_is k l l hm hk]
  simp
/-- The numbers that bytes begin with. -/
def nO (l : List Int) : Int := rd l 0
def nG (l : List Int) : Int := ((be ((l.drop 1).take 4) : Nat) : Int)
def nI (l : List Int) : Int := ((be ((l.drop 5).take 2) : Nat) : Int)
theorem rd_byt {l : List Int} (hl : Byt l) (h : 0 < l.length) : 0 ≤ rd l 0 ∧ rd l 0 ≤ 255 := by
  have := hl _ (List.getElem_mem h)
  simpa [rd, List.getD_eq_getElem?_getD, List.getElem?_eq_getElem h] using this
theorem be_one {l : List Int} (hl : Byt l) (h : 0 < l.length) : ((be (l.take 1) : Nat) : Int) = rd l 0 := by
  have h1 : l.take 1 = [rd l 0] := by
    rw [List.take_succ_eq_append_getElem h]
    simp [rd, List.getD_eq_getElem?_getD, List.getElem?_eq_getElem h]
  have h2 := rd_byt hl h
  rw [h1]
  show ((0 * 256 + (rd l 0).toNat : Nat) : Int) = rd l 0
  omega
theorem be4_lt (l : List Int) (hl : Byt l) (n : Nat) (hn : n ≤ 4) : be (l.take n) < 256 ^ 4 :=
  Nat.lt_of_lt_of_le (be_lt _ (hl.take n)) (Nat.pow_le_pow_right (by decide) (by rw [List.length_take]; omega))
theorem took_yes (l : List Int) (n : Nat) (h : n ≤ l.length) : took (l, true) n = (wrap64 (beOr (l.take n) 0), l.drop n, true) := by unfold took; rw [if_pos h]
theorem gotP_yes (l : List Int) (hl : Byt l) (h : 7 ≤ l.length) : gotP l = (nO l, nG l, nI l, l.drop 7, true) := by
  have e1 := took_yes l 1 (by omega)
  have e2 := took_yes (l.drop 1) 4 (by rw [List.length_drop]; omega)
  have e3 := took_yes ((l.drop 1).drop 4) 2 (by rw [List.length_drop, List.length_drop]; omega)
  simp only [gotP, e1, e2, e3]
  have b1 := be4_lt l hl 1 (by omega)
  have b2 := be4_lt (l.drop 1) (hl.drop 1) 4 (by omega)
  have b3 := be4_lt (l.drop 5) (hl.drop 5) 2 (by omega)
  have h1 := be_one hl (by omega)
  rw [List.drop_drop, List.drop_drop, beOr_is _ (hl.take 1) (by rw [List.length_take]; omega), beOr_is _ ((hl.drop 1).take 4) (by rw [List.length_take]; omega), beOr_is _ ((hl.drop _).take 2) (by rw [List.length_take]; omega)]
  rw [wr (by omega) (by omega), wr (by omega) (by omega), show 1 + 4 = 5 from rfl, wr (by omega) (by omega), h1]
  rfl
theorem took_flag (s : List Int × Bool) (n : Nat) : (took s n).2.2 = true → s.2 = true ∧ n ≤ s.1.length ∧ (took s n).2.1 = s.1.drop n := by
  unfold took
  split
  · intro h; exact ⟨h, by assumption, rfl⟩
  · intro h; cases h
theorem gotP_no (l : List Int) (h : l.length < 7) : (gotP l).2.2.2.2 = false := by
  cases hf : (gotP l).2.2.2.2 with
  | false => rfl
  | true =>
    exfalso
    obtain ⟨f2, n3, _⟩ := took_flag _ 2 hf
    obtain ⟨f1, n2, d2⟩ := took_flag _ 4 f2
    obtain ⟨_, n1, d1⟩ := took_flag _ 1 f1
    have e1 : (took (l, true) 1).2.1.length = l.length - 1 := by rw [d1, List.length_drop]
    have e2 : (took (took (l, true) 1).2 4).2.1.length = (took (l, true) 1).2.1.length - 4 := by rw [d2, List.length_drop]
    omega
theorem getP_is (l : List Int) (hl : Byt l) (hm : l.length ≤ 1000000) : codec_GetPiece.f l = some (if 7 ≤ l.length ∧ OkP (nO l) (nG l) (nI l) (l.drop 7).length then (nO l, nG l, nI l, l.drop 7, 0) else (0, 0, 0, [], 3)) := by
  unfold codec_GetPiece.f
  by_cases h : 7 ≤ l.length
  · rw [gotP_yes l hl h]
    simp only
    rw [if_pos ⟨trivial, by omega⟩, piece_is, Option.bind_some]
    by_cases h2 : OkP (nO l) (nG l) (nI l) (l.drop 7).length
    · rw [if_pos (decide_eq_true h2), if_pos ⟨h, h2⟩]
    · rw [if_neg (by simpa using h2), if_neg (fun x => h2 x.2)]
  · rw [gotP_no l (by omega), if_neg (by simp), if_pos (by omega), if_neg (fun x => h x.1)]
theorem refgetP_is (k : Nat) (l : List Int) (hl : Byt l) (hm : l.length ≤ 1000000) (hk : 9 ≤ k) : spenceref17_GetPiece.f k l = some (if 7 ≤ l.length ∧ OkP (nO l) (nG l) (nI l) (l.drop 7).length then (nO l, nG l, nI l, l.drop 7, true) else (0, 0, 0, [], false)) := by
  unfold spenceref17_GetPiece.f
  by_cases h : 7 ≤ l.length
  · have b2 := be4_lt (l.drop 1) (hl.drop 1) 4 (by omega)
    have b3 := be4_lt (l.drop 5) (hl.drop 5) 2 (by omega)
    have r := rd_byt hl (by omega)
    rw [if_neg (by omega), if_pos (by omega), if_pos (by omega), if_pos (by omega), List.drop_take, List.drop_take, number_is k _ ((hl.drop 1).take _) (by rw [List.length_take]; omega) (by rw [List.length_take]; omega), Option.bind_some, if_pos (by omega), if_pos (by omega), number_is k _ ((hl.drop 5).take _) (by rw [List.length_take]; omega) (by rw [List.length_take]; omega), Option.bind_some, if_pos (by simp; omega), Option.bind_some,
      List.nil_append, wr (by omega) (by omega), show 5 - 1 = 4 from rfl, show 7 - 5 = 2 from rfl, wr (by omega) (by omega), wr (by omega) (by omega), refpiece_is, Option.bind_some, ← show nO l = rd l 0 from rfl, ← show nG l = ((be ((l.drop 1).take 4) : Nat) : Int) from rfl, ← show nI l = ((be ((l.drop 5).take 2) : Nat) : Int) from rfl]
    by_cases h2 : OkP (nO l) (nG l) (nI l) (l.drop 7).length
    · rw [if_pos (decide_eq_true h2), if_pos ⟨h, h2⟩]
    · rw [if_neg (fun x => h2 (of_decide_eq_true x)), if_neg (fun x => h2 x.2)]
  · rw [if_pos (by omega), if_neg (fun x => h x.1)]
def enc (o g i : Int) (l : List Int) : List Int := begun o.toNat g.toNat ++ bb i.toNat 2 ++ l
theorem putP_is (k : Nat) (o g i : Int) (l : List Int) (hk : 9 ≤ k) : codec_PutPiece.f k o g i l = some (if OkP o g i l.length then (enc o g i l, 0) else ([], 1)) := by
  unfold codec_PutPiece.f
  rw [piece_is, Option.bind_some]
  by_cases h : OkP o g i l.length
  · rw [if_pos (decide_eq_true h), if_pos h]
    obtain ⟨⟨o1, o2, g1, g2⟩, i1, i2, n1, n2⟩ := h
    obtain ⟨o, rfl⟩ := Int.eq_ofNat_of_zero_le o1
    obtain ⟨g, rfl⟩ := Int.eq_ofNat_of_zero_le (show 0 ≤ g by omega)
    obtain ⟨i, rfl⟩ := Int.eq_ofNat_of_zero_le i1
    rw [begin_is k o g (by omega) (by omega) hk, Option.bind_some, u64_wrap _ (by omega) (by omega), show (2 : Int) = ((2 : Nat) : Int) from rfl, put_is k i 2 _ (by omega) (by rw [begun_len]; omega) hk, Option.bind_some, if_pos (by rw [List.length_append, begun_len, bb_len]; omega)]
    simp [enc]
  · rw [if_neg (by simpa using h), if_neg h]
theorem refP_is (k : Nat) (o g i : Int) (l : List Int) (hk : 9 ≤ k) (h : OkP o g i l.length) : spenceref17_Piece.f k o g i l = some (enc o g i l) := by
  obtain ⟨⟨o1, o2, g1, g2⟩, i1, i2, n1, n2⟩ := h
  obtain ⟨o, rfl⟩ := Int.eq_ofNat_of_zero_le o1
  obtain ⟨g, rfl⟩ := Int.eq_ofNat_of_zero_le (show 0 ≤ g by omega)
  obtain ⟨i, rfl⟩ := Int.eq_ofNat_of_zero_le i1
  unfold spenceref17_Piece.f
  rw [refbegin_is k o g (by omega) (by omega) hk, Option.bind_some, u64_wrap _ (by omega) (by omega), show (2 : Int) = ((2 : Nat) : Int) from rfl, lay_is k i 2 (by omega) hk, Option.bind_some, if_pos (by rw [begun_len, bb_len]; omega), Option.bind_some, if_pos (by rw [List.length_append, begun_len, bb_len]; omega)]
  simp [enc]
theorem enc_len (o g i : Int) (l : List Int) : (enc o g i l).length = l.length + 7 := by simp [enc, begun_len, bb_len]; omega
theorem enc_byt (o g i : Int) (l : List Int) (hl : Byt l) : Byt (enc o g i l) := (((bb_byt _ _).app (bb_byt _ _)).app (bb_byt _ _)).app hl
theorem enc_parts (o g i : Int) (l : List Int) (h : OkP o g i l.length) : nO (enc o g i l) = o ∧ nG (enc o g i l) = g ∧ nI (enc o g i l) = i ∧ (enc o g i l).drop 7 = l := by
  obtain ⟨⟨o1, o2, g1, g2⟩, i1, i2, n1, n2⟩ := h
  obtain ⟨o, rfl⟩ := Int.eq_ofNat_of_zero_le o1
  obtain ⟨g, rfl⟩ := Int.eq_ofNat_of_zero_le (show 0 ≤ g by omega)
  obtain ⟨i, rfl⟩ := Int.eq_ofNat_of_zero_le i1
  have e : enc (o : Int) (g : Int) (i : Int) l = ((o % 256 : Nat) : Int) :: (bb g 4 ++ (bb i 2 ++ l)) := by simp [enc, begun, bb]
  have e5 : enc (o : Int) (g : Int) (i : Int) l = (begun o g) ++ (bb i 2 ++ l) := by simp [enc]
  refine ⟨?_, ?_, ?_, ?_⟩
  · rw [e]; show ((o % 256 : Nat) : Int) = (o : Int); omega
  · unfold nG
    rw [e, List.drop_succ_cons, List.drop_zero, List.take_left' (bb_len g 4), be_bb g 4 (by omega)]
  · unfold nI
    rw [e5, List.drop_left' (begun_len o g), List.take_left' (bb_len i 2), be_bb i 2 (by omega)]
  · have : enc (o : Int) (g : Int) (i : Int) l = (begun o g ++ bb i 2) ++ l := by simp [enc]
    rw [this, List.drop_left' (by rw [List.length_append, begun_len, bb_len])]
theorem awake_is (k : Nat) (hk : 9 ≤ k) : spencelaw17_awake.f k = some true := by
  unfold spencelaw17_awake.f codec_PutDrop.f
  rw [owner_is, Option.bind_some, if_pos (by decide), show (1 : Int) = ((1 : Nat) : Int) from rfl, show (2 : Int) = ((2 : Nat) : Int) from rfl, begin_is k 1 2 (by decide) (by decide) hk]
  decide +kernel
end Go.Proofs.Ytkbialmlddhclaa.CodecFacts
