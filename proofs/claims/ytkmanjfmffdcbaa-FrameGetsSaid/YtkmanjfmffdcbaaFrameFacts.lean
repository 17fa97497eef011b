/- What a frame of bytes, and the record of a frame's bytes, come to, in plain words. -/
import Derived.Test.YtkmanjfmffdcbaaSealFacts
import Derived.Test.YtkmanjfmffdcbaaNumFacts
import Derived.Test.YtkmanjfmffdcbaaQFramex15
import Derived.Test.YtkmanjfmffdcbaaQFramex8
import Derived.Test.YtkmanjfmffdcbaaQFramex21
import Derived.Test.YtkmanjfmffdcbaaQFramex22
import Derived.Test.YtkmanjfmffdcbaaQFramex9
namespace Go.Proofs.Ytkmanjfmffdcbaa.FrameFacts
open Go.RowKit Go.Proofs.YtkmanjfmffdcbaaW.PrintWords Go.Proofs.YtkmanjfmffdcbaaW.PrintLast Go.Proofs.YtkmanjfmffdcbaaW.PrintMore Go.Proofs.Ytkmanjfmffdcbaa.QFrame Go.Proofs.Ytkmanjfmffdcbaa.NumMath Go.Proofs.Ytkmanjfmffdcbaa.NumFacts
open Go.Proofs.Ytkmanjfmffdcbaa.CrcFacts (le4 le4_len le4_byt sum nb opened open_is seal_is refseal_is bytes_is)

theorem fits_is (a b c : Int) : nums_Fits.f a b c = some (decide (b ≤ a ∧ a ≤ c)) := by
  unfold nums_Fits.f
  by_cases h : a ≥ b
  · rw [if_pos h]; congr 1; exact decide_eq_decide.2 ⟨fun h2 => ⟨h, h2⟩, fun h2 => h2.2⟩
  · rw [if_neg h, decide_eq_false (by omega)]
theorem number_loop (d : Nat) : ∀ (k i : Nat) (l : List Int), Byt l → l.length ≤ 8 → i + d = l.length → d < k → spenceref11_number.l0 k ((be (l.take i) : Nat) : Int) l (l.length : Int) (i : Int) = some ((be l : Nat) : Int) := by
  induction d with
  | zero =>
    intro k i l hl h8 hi hk
    obtain ⟨k, rfl⟩ : ∃ m, k = m + 1 := ⟨k - 1, by omega⟩
    simp only [spenceref11_number.l0]
    rw [if_neg (by omega), List.take_of_length_le (by omega)]
  | succ d ih =>
    intro k i l hl h8 hi hk
    obtain ⟨k, rfl⟩ : ∃ m, k = m + 1 := ⟨k - 1, by omega⟩
    have hlt : i < l.length := by omega
    have hr : rd l (i : Int) = l[i] := by simp [rd, List.getD_eq_getElem?_getD, List.getElem?_eq_getElem hlt]
    have hx := hl _ (List.getElem_mem hlt)
    have hb : be (l.take i) < 256 ^ 7 := Nat.lt_of_lt_of_le (be_lt _ (hl.take i)) (Nat.pow_le_pow_right (by decide) (by rw [List.length_take]; omega))
    have hs : be (l.take (i + 1)) = be (l.take i) * 256 + (l[i]).toNat := by
      rw [List.take_succ_eq_append_getElem hlt, be, beFrom, List.foldl_append]
      rfl
    simp only [spenceref11_number.l0]
    rw [if_pos (by omega), if_pos (by omega), if_pos (by omega), hr, u64_wrap (l[i]) (by omega) (by omega), u64_wrap (((be (l.take i) : Nat) : Int) * 256) (by omega) (by omega), u64_wrap _ (by omega) (by omega), wr (a := (i : Int) + 1) (by omega) (by omega), show (i : Int) + 1 = ((i + 1 : Nat) : Int) by omega,
      show (((be (l.take i) : Nat) : Int) * 256 + l[i]) = ((be (l.take (i + 1)) : Nat) : Int) by rw [hs]; omega]
    exact ih k (i + 1) l hl h8 (by omega) (by omega)
theorem number_is (k : Nat) (l : List Int) (hl : Byt l) (h8 : l.length ≤ 8) (hk : l.length < k) : spenceref11_number.f k l = some ((be l : Nat) : Int) :=
  number_loop l.length k 0 l hl h8 (by omega) hk
/-- How many bytes of data a frame says that it has. -/
def dl (l : List Int) : Nat := be ((l.drop 2).take 2)
theorem dl_lt (l : List Int) (hl : Byt l) : dl l < 65536 := by
  have h := be_lt _ ((hl.drop 2).take 2)
  exact Nat.lt_of_lt_of_le h (Nat.le_trans (Nat.pow_le_pow_right (by decide) (show ((l.drop 2).take 2).length ≤ 2 by rw [List.length_take]; omega)) (by decide))
/-- The begin of bytes: 0: it may be a frame; 13: an end; 3: no frame. -/
def head (l : List Int) : Int := if l.length = 0 then 13 else if rd l 0 = 255 then 13 else if rd l 0 = 165 ∧ 16 ≤ l.length ∧ dl l ≤ 4096 ∧ dl l + 16 ≤ l.length then 0 else 3
/-- The record of bytes. -/
def parsed (l : List Int) : Int × Int × List Int × Int × Int :=
  if head l = 0 then (if le4 (sum (nb (l.take (dl l + 12)))) = (l.drop (dl l + 12)).take 4 then (rd l 1, ((be ((l.drop 4).take 8) : Nat) : Int), (l.take (dl l + 12)).drop 12, ((dl l + 16 : Nat) : Int), 0) else (0, 0, [], 0, 4)) else (0, 0, [], 0, head l)
theorem get2 (l : List Int) (hl : Byt l) (h : 16 ≤ l.length) : nums_Get.f l 2 2 = some (((dl l : Nat) : Int), true) := by
  unfold nums_Get.f
  rw [if_pos (by omega)]
  show some (beOr ((l.drop 2).take 2) 0, true) = _
  rw [beOr_is _ ((hl.drop 2).take 2) (by rw [List.length_take]; omega)]
  rfl
theorem size_is (l : List Int) (hl : Byt l) : frame_size.f l = some (if head l = 0 then (((dl l + 16 : Nat) : Int), 0) else (0, head l)) := by
  unfold frame_size.f head
  have hd := dl_lt l hl
  by_cases h0 : l.length = 0
  · rw [if_pos (by omega), if_pos h0, if_neg (by decide)]
  · rw [if_neg (by omega), if_pos (by omega), if_neg h0]
    by_cases h1 : rd l 0 = 255
    · rw [if_pos h1, if_pos h1, if_neg (by decide)]
    · rw [if_neg h1, if_neg h1]
      by_cases h2 : rd l 0 = 165
      · rw [if_pos h2]
        by_cases h3 : 16 ≤ l.length
        · rw [if_pos (by omega), get2 l hl h3, Option.bind_some]
          simp only
          rw [wr (a := ((dl l : Nat) : Int)) (by omega) (by omega)]
          unfold frame_Size.f
          rw [fits_is, Option.bind_some]
          by_cases h4 : dl l ≤ 4096
          · rw [if_pos (decide_eq_true (by omega)), wr (a := ((dl l : Nat) : Int) + 16) (by omega) (by omega), Option.bind_some, if_neg (by omega)]
            by_cases h5 : dl l + 16 ≤ l.length
            · rw [if_neg (by omega), if_pos (c := rd l 0 = 165 ∧ _) ⟨h2, h3, h4, h5⟩, if_pos rfl]; rfl
            · rw [if_pos (by omega), if_neg (c := rd l 0 = 165 ∧ _) (fun x => h5 x.2.2.2), if_neg (by decide)]
          · rw [if_neg (by rw [decide_eq_true_iff]; omega), Option.bind_some, if_pos rfl, if_neg (c := rd l 0 = 165 ∧ _) (fun x => h4 x.2.2.1), if_neg (by decide)]
        · rw [if_neg (by omega), if_neg (c := rd l 0 = 165 ∧ _) (fun x => h3 x.2.1), if_neg (by decide)]
      · rw [if_neg h2, if_neg (c := rd l 0 = 165 ∧ _) (fun x => h2 x.1), if_neg (by decide)]
theorem head_zero {l : List Int} (h : head l = 0) : rd l 0 = 165 ∧ 16 ≤ l.length ∧ dl l ≤ 4096 ∧ dl l + 16 ≤ l.length := by
  unfold head at h
  by_cases h0 : l.length = 0
  · rw [if_pos h0] at h; cases h
  · rw [if_neg h0] at h
    by_cases h1 : rd l 0 = 255
    · rw [if_pos h1] at h; cases h
    · rw [if_neg h1] at h
      by_cases h2 : rd l 0 = 165 ∧ 16 ≤ l.length ∧ dl l ≤ 4096 ∧ dl l + 16 ≤ l.length
      · exact h2
      · rw [if_neg h2] at h; cases h
theorem get_is (k : Nat) (l : List Int) (hl : Byt l) (_ : l.length ≤ 800000) (hk : l.length + 40 ≤ k) : frame_Get.f k l = some (parsed l) := by
  unfold frame_Get.f parsed
  rw [size_is l hl, Option.bind_some]
  by_cases h : head l = 0
  · obtain ⟨_, h16, h4, h5⟩ := head_zero h
    rw [if_pos h, if_pos h]
    simp only
    rw [if_pos trivial, if_pos (by omega), Int.toNat_natCast]
    have hT : (l.take (dl l + 16)).length = dl l + 16 := by rw [List.length_take]; omega
    rw [open_is k _ (hl.take _) (by omega) (by omega), Option.bind_some]
    have hO : opened (l.take (dl l + 16)) = if le4 (sum (nb (l.take (dl l + 12)))) = (l.drop (dl l + 12)).take 4 then (l.take (dl l + 12), 0) else ([], 4) := by
      unfold opened
      rw [if_neg (by rw [hT]; omega), hT, show dl l + 16 - 4 = dl l + 12 by omega, List.take_take, Nat.min_eq_left (by omega), List.drop_take, show dl l + 16 - (dl l + 12) = 4 by omega]
    rw [hO]
    by_cases hs : le4 (sum (nb (l.take (dl l + 12)))) = (l.drop (dl l + 12)).take 4
    · rw [if_pos hs, if_pos hs]
      simp only
      have hx : (l.take (dl l + 12)).length = dl l + 12 := by rw [List.length_take]; omega
      have r1 : rd (l.take (dl l + 12)) 1 = rd l 1 := by
        unfold rd
        rw [List.getD_eq_getElem?_getD, List.getD_eq_getElem?_getD, List.getElem?_take, if_pos (by show (1 : Int).toNat < _; rw [show (1 : Int).toNat = 1 from rfl]; omega)]
      have r2 : ((l.take (dl l + 12)).drop 4).take 8 = (l.drop 4).take 8 := by
        rw [List.drop_take, List.take_take, Nat.min_eq_left (by omega)]
      rw [if_pos trivial, if_pos (by omega), r1, r2, beOr_is _ ((hl.drop 4).take 8) (by rw [List.length_take]; omega)]
    · rw [if_neg hs, if_neg hs]
      simp only
      rw [if_neg (by decide)]
  · rw [if_neg h, if_neg h]
    simp only
    rw [if_neg h]
theorem parse_is (k : Nat) (l : List Int) (hl : Byt l) (hm : l.length ≤ 800000) (hk : l.length + 40 ≤ k) : spenceref11_Parse.f (k + 3) l = some (parsed l) := by
  have hd := dl_lt l hl
  have J2 : 16 ≤ l.length → dl l ≤ 4096 → dl l + 16 ≤ l.length → rd l 0 = 165 → spenceref11_Parse.j2 (k + 1) l ((dl l : Nat) : Int) false = some (parsed l) := by
    intro h16 h4 h5 h165
    have hz : head l = 0 := by
      unfold head
      rw [if_neg (by omega), if_neg (by omega), if_pos ⟨h165, h16, h4, h5⟩]
    rw [spenceref11_Parse.j2, if_neg (by decide), wr (a := 12 + ((dl l : Nat) : Int)) (by omega) (by omega), wr (a := 16 + ((dl l : Nat) : Int)) (by omega) (by omega), wr (a := ((dl l : Nat) : Int) + 16) (by omega) (by omega), if_pos (by omega), if_pos (by omega), if_pos (by omega),
      show (12 + ((dl l : Nat) : Int)).toNat = dl l + 12 by omega, show (16 + ((dl l : Nat) : Int)).toNat = dl l + 16 by omega]
    have hx : (l.take (dl l + 12)).length = dl l + 12 := by rw [List.length_take]; omega
    rw [refseal_is k _ (hl.take _) (by omega) (by omega), Option.bind_some, if_pos (by omega), if_pos (by omega), bytes_is k _ _ (by rw [List.length_append, le4_len]; omega) (by rw [List.length_append, le4_len]; omega), Option.bind_some]
    have hsplit : l.take (dl l + 16) = l.take (dl l + 12) ++ (l.drop (dl l + 12)).take 4 := by
      have := List.take_add (l := l) (i := dl l + 12) (j := 4)
      rw [show dl l + 12 + 4 = dl l + 16 by omega] at this
      exact this
    unfold parsed
    rw [if_pos hz, hsplit]
    by_cases hs : le4 (sum (nb (l.take (dl l + 12)))) = (l.drop (dl l + 12)).take 4
    · rw [if_pos (decide_eq_true (by rw [hs])), if_pos hs, if_pos (by omega), if_pos (by omega), if_pos (by omega), List.drop_take (i := 4), number_is k _ ((hl.drop 4).take _) (by rw [List.length_take]; omega) (by rw [List.length_take]; omega), Option.bind_some, if_pos (by simp; omega), List.nil_append]
      rfl
    · rw [if_neg (by
        rw [decide_eq_true_iff]
        intro e
        exact hs (List.append_cancel_left e)), if_neg hs]
  have J1 : ∀ b : Bool, (b = true → head l = 3) → (b = false → 16 ≤ l.length ∧ rd l 0 = 165) → spenceref11_Parse.j1 (k + 2) l b = some (parsed l) := by
    intro b h1 h2
    rw [spenceref11_Parse.j1]
    cases b with
    | true =>
      have := h1 rfl
      rw [if_pos rfl]
      unfold parsed
      rw [if_neg (by omega), this]
    | false =>
      obtain ⟨h16, h165⟩ := h2 rfl
      rw [if_neg (by decide), if_pos (by omega), if_pos (by omega), List.drop_take, number_is (k + 1) _ ((hl.drop 2).take _) (by rw [List.length_take]; omega) (by rw [List.length_take]; omega), Option.bind_some, ← show dl l = be ((l.drop 2).take (4 - 2)) from rfl, wr (a := ((dl l : Nat) : Int)) (by omega) (by omega), wr (a := ((dl l : Nat) : Int) + 16) (by omega) (by omega)]
      have bad : ¬ (dl l ≤ 4096 ∧ dl l + 16 ≤ l.length) → spenceref11_Parse.j2 (k + 1) l ((dl l : Nat) : Int) true = some (parsed l) := by
        intro hb
        have hz : head l = 3 := by
          unfold head
          rw [if_neg (by omega), if_neg (by omega), if_neg (fun x => hb ⟨x.2.2.1, x.2.2.2⟩)]
        rw [spenceref11_Parse.j2, if_pos rfl]
        unfold parsed
        rw [if_neg (by omega), hz]
      by_cases h4 : ((dl l : Nat) : Int) > 4096
      · rw [if_pos h4]; exact bad (by omega)
      · rw [if_neg h4]
        by_cases h5 : ((dl l : Nat) : Int) + 16 > (l.length : Int)
        · rw [decide_eq_true h5]; exact bad (by omega)
        · rw [decide_eq_false h5]; exact J2 h16 (by omega) (by omega) h165
  unfold spenceref11_Parse.f
  by_cases h0 : l.length = 0
  · rw [if_pos (by omega), spenceref11_Parse.j0, if_pos rfl]
    have hz : head l = 13 := by unfold head; rw [if_pos h0]
    unfold parsed
    rw [if_neg (by omega), hz]
  · rw [if_neg (by omega), if_pos (by omega), spenceref11_Parse.j0]
    by_cases h1 : rd l 0 = 255
    · rw [if_pos (beq_iff_eq.2 h1)]
      have hz : head l = 13 := by unfold head; rw [if_neg h0, if_pos h1]
      unfold parsed
      rw [if_neg (by omega), hz]
    · rw [if_neg (by rw [beq_iff_eq]; exact h1), if_pos (by omega)]
      by_cases h2 : rd l 0 = 165
      · rw [if_pos h2]
        refine J1 _ (fun h => ?_) (fun h => ?_)
        · have := of_decide_eq_true h
          unfold head
          rw [if_neg h0, if_neg h1, if_neg (fun x => by omega)]
        · have := of_decide_eq_false h
          exact ⟨by omega, h2⟩
      · rw [if_neg h2]
        refine J1 _ (fun _ => ?_) (fun h => by cases h)
        unfold head
        rw [if_neg h0, if_neg h1, if_neg (fun x => h2 x.1)]
theorem same_is (k : Nat) (a b : Int) (l : List Int) (hm : l.length ≤ 9223372036854775806) (hk : l.length < k) : spencelaw13_same.f k a b l a b l = some true := by
  unfold spencelaw13_same.f
  rw [if_pos rfl, if_pos rfl, bytes_is k l l hm hk]
  simp
/-- A record, ahead of its sum. -/
def bare (kind seq : Int) (l : List Int) : List Int := [165, kind] ++ bb l.length 2 ++ bb seq.toNat 8 ++ l
theorem bare_len (kind seq : Int) (l : List Int) : (bare kind seq l).length = l.length + 12 := by simp [bare, bb_len]; omega
theorem bare_byt (kind seq : Int) (l : List Int) (hk : 0 ≤ kind ∧ kind ≤ 255) (hl : Byt l) : Byt (bare kind seq l) := by
  refine Byt.app (Byt.app (Byt.app ?_ (bb_byt _ _)) (bb_byt _ _)) hl
  intro x hx
  simp at hx
  rcases hx with h | h <;> omega
theorem put_frame (k : Nat) (kind seq : Int) (l : List Int) (hkd : 0 ≤ kind ∧ kind ≤ 255) (hs : 0 ≤ seq ∧ seq ≤ 18446744073709551615) (hl : Byt l) (hm : l.length ≤ 4096) (hk : l.length + 100 ≤ k) : frame_Put.f k kind seq l = some (bare kind seq l ++ le4 (sum (nb (bare kind seq l))), 0) := by
  obtain ⟨s, rfl⟩ := Int.eq_ofNat_of_zero_le hs.1
  unfold frame_Put.f
  rw [if_neg (by omega), u64_wrap _ (by omega) (by omega), show (2 : Int) = ((2 : Nat) : Int) from rfl, put_is k l.length 2 [165, kind] (by omega) (by simp) (by omega), Option.bind_some, show (8 : Int) = ((8 : Nat) : Int) from rfl, put_is k s 8 _ (by omega) (by simp [bb_len]) (by omega), Option.bind_some, if_pos (by simp [bb_len]; omega)]
  have e : [165, kind] ++ bb l.length 2 ++ bb s 8 ++ l = bare kind (s : Int) l := rfl
  rw [e, seal_is k _ (bare_byt kind (s : Int) l hkd hl) (by rw [bare_len]; omega) (by rw [bare_len]; omega)]
  rfl
theorem awake_is (k : Nat) (hk : 200 ≤ k) : spencelaw13_awake.f k = some true := by
  unfold spencelaw13_awake.f
  rw [put_frame k 2 1 [] (by decide) (by decide) (fun x hx => by cases hx) (by decide) (by simp; omega), Option.bind_some]
  rw [if_pos rfl, if_pos (by simp [bare_len, le4_len]), if_pos (by simp [bare_len, le4_len])]
  simp [bare, rd]
end Go.Proofs.Ytkmanjfmffdcbaa.FrameFacts
