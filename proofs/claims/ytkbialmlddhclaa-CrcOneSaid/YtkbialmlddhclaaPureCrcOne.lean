/- The law CrcOne: what the printed function computes is true. -/
import Derived.Test.YtkbialmlddhclaaSealFacts
import Derived.Test.YtkbialmlddhclaaQCrcx15
import Derived.OpenShut
namespace Go.Proofs.Ytkbialmlddhclaa.Pure
open Go.RowKit Go.Proofs.Ytkbialmlddhclaa.QCrc Go.Proofs.YtkbialmlddhclaaW.PrintWords Go.Proofs.YtkbialmlddhclaaW.PrintLast Go.Proofs.Ytkbialmlddhclaa.CrcMath Go.Proofs.Ytkbialmlddhclaa.CrcFacts

theorem sum_set (l : List Int) (hl : Byt l) (i : Nat) (hi : i < l.length) (x : Int) (hx : 0 ≤ x ∧ x ≤ 255) (hne : rd l i ≠ x) : sum (nb (l.set i x)) ≠ sum (nb l) := by
  have e1 : l.set i x = l.take i ++ x :: l.drop (i + 1) := by rw [List.set_eq_take_append_cons_drop, if_pos hi]
  have e2 : l = l.take i ++ rd l i :: l.drop (i + 1) := by
    have : l.drop i = rd l i :: l.drop (i + 1) := by
      rw [List.drop_eq_getElem_cons hi]
      simp [rd, List.getD_eq_getElem?_getD, List.getElem?_eq_getElem hi]
    rw [← this, List.take_append_drop]
  have hy : 0 ≤ rd l i ∧ rd l i ≤ 255 := by
    have := hl _ (List.getElem_mem hi)
    unfold rd
    rw [Int.toNat_natCast, List.getD_eq_getElem?_getD, List.getElem?_eq_getElem hi]
    exact this
  intro h
  have hm := xor_left_inj h
  rw [e1] at hm
  have hr : nb l = nb (l.take i) ++ (rd l i).toNat :: nb (l.drop (i + 1)) := by
    conv => lhs; rw [e2]
    simp [nb]
  have hl2 : nb (l.take i ++ x :: l.drop (i + 1)) = nb (l.take i) ++ x.toNat :: nb (l.drop (i + 1)) := by simp [nb]
  rw [hr, hl2] at hm
  refine many_one 4294967295 (nb (l.take i)) (nb (l.drop (i + 1))) x.toNat (rd l i).toNat (by decide) (nb_lt (fun z hz => hl z (List.mem_of_mem_take hz))) (nb_lt (fun z hz => hl z (List.mem_of_mem_drop hz))) (by omega) (by omega) ?_ hm
  omega

theorem opened_other (l : List Int) (hl : Byt l) (i : Nat) (hi : i < l.length + 4) (x : Int) (hx : 0 ≤ x ∧ x ≤ 255) (hne : rd (l ++ le4 (sum (nb l))) i ≠ x) :
    (opened ((l ++ le4 (sum (nb l))).set i x)).2 = 4 ∧ (i < l.length → sum (nb (((l ++ le4 (sum (nb l))).set i x).take l.length)) ≠ sum (nb l)) := by
  have hlen : ((l ++ le4 (sum (nb l))).set i x).length = l.length + 4 := by rw [List.length_set, List.length_append, le4_len]
  have hop : ∀ s : List Int, s.length = l.length + 4 → le4 (sum (nb (s.take l.length))) ≠ s.drop l.length → (opened s).2 = 4 := by
    intro s hs h
    unfold opened
    rw [if_neg (by omega), show s.length - 4 = l.length by omega, if_neg h]
  by_cases h : i < l.length
  · have ht : ((l ++ le4 (sum (nb l))).set i x).take l.length = l.set i x := by rw [List.set_append_left _ _ h, List.take_left' (by rw [List.length_set])]
    have hd : ((l ++ le4 (sum (nb l))).set i x).drop l.length = le4 (sum (nb l)) := by rw [List.set_append_left _ _ h, List.drop_left' (by rw [List.length_set])]
    have hr : rd (l ++ le4 (sum (nb l))) i = rd l i := by
      unfold rd
      rw [Int.toNat_natCast, List.getD_eq_getElem?_getD, List.getD_eq_getElem?_getD, List.getElem?_append_left h]
    rw [hr] at hne
    have hs := sum_set l hl i h x hx hne
    have hB : Byt (l.set i x) := by
      intro y hy
      rcases List.mem_or_eq_of_mem_set hy with h1 | h1
      · exact hl y h1
      · rw [h1]; exact hx
    refine ⟨hop _ hlen ?_, fun _ => by rw [ht]; exact hs⟩
    rw [ht, hd]
    intro he
    exact hs (le4_inj (sum_lt (nb_lt hB)) (sum_lt (nb_lt hl)) he)
  · have ht : ((l ++ le4 (sum (nb l))).set i x).take l.length = l := by rw [List.set_append_right _ _ (by omega), List.take_left]
    have hd : ((l ++ le4 (sum (nb l))).set i x).drop l.length = (le4 (sum (nb l))).set (i - l.length) x := by rw [List.set_append_right _ _ (by omega), List.drop_left]
    refine ⟨hop _ hlen ?_, fun h' => absurd h' h⟩
    rw [ht, hd]
    intro he
    apply hne
    have hi2 : i - l.length < (le4 (sum (nb l))).length := by rw [le4_len]; omega
    unfold rd
    rw [Int.toNat_natCast, List.getD_eq_getElem?_getD, List.getElem?_append_right (by omega), he, List.getElem?_set_self hi2]
    rfl

theorem CrcOne : spencelaw02_CrcOne.Pure := by
  intro l i x _ _ hw hi hx
  have hl : Byt l := fun y hy => Go.bounds_u8 (hw y hy)
  obtain ⟨i1, i2⟩ := Go.bounds_i64 hi
  have hx' := Go.bounds_u8 hx
  refine ⟨l.length + 40, ?_⟩
  have aw : ∀ k, 40 ≤ k → spencelaw02_awake.f k = some true := by
    intro k hk
    unfold spencelaw02_awake.f
    rw [sum_is k _ (by intro x hx; simp at hx; omega) (by decide) (by simp; omega), Option.bind_some]
    decide +kernel
  unfold spencelaw02_CrcOne.f
  rw [aw _ (by omega), Option.bind_some, if_pos rfl]
  have J : ∀ b : Bool, (b = false → l.length ≤ 2000 ∧ 0 ≤ i ∧ i < (l.length : Int) + 4) → spencelaw02_CrcOne.j0 (l.length + 40) l i x b = some true := by
    intro b hb
    rw [spencelaw02_CrcOne.j0]
    cases b with
    | true => rw [if_pos rfl]
    | false =>
      obtain ⟨g1, g2, g3⟩ := hb rfl
      obtain ⟨i, rfl⟩ := Int.eq_ofNat_of_zero_le g2
      have hsl : (l ++ le4 (sum (nb l))).length = l.length + 4 := by rw [List.length_append, le4_len]
      have hsb : Byt (l ++ le4 (sum (nb l))) := by
        intro y hy
        rcases List.mem_append.1 hy with h | h
        · exact hl y h
        · exact le4_byt _ y h
      rw [if_neg (by decide), seal_is _ l hl (by omega) (by omega), Option.bind_some, hsl, wr (a := (l.length : Int) + 4) (by omega) (by omega), if_pos (by omega), if_pos (by omega), if_pos (by omega)]
      by_cases hne : rd (l ++ le4 (sum (nb l))) i = x
      · rw [if_pos hne]
      · obtain ⟨q1, q2⟩ := opened_other l hl i (by omega) x hx' hne
        have hB : Byt ((l ++ le4 (sum (nb l))).set i x) := by
          intro y hy
          rcases List.mem_or_eq_of_mem_set hy with h1 | h1
          · exact hsb y h1
          · rw [h1]; exact hx'
        rw [if_neg hne, Option.bind_some, Int.toNat_natCast, open_is _ _ hB (by rw [List.length_set]; omega) (by rw [List.length_set]; omega), Option.bind_some, q1]
        by_cases h : (i : Int) ≥ (l.length : Int)
        · rw [if_pos h]; rfl
        · rw [if_neg h, if_pos rfl, if_pos (by omega), if_pos (by omega), Int.toNat_natCast]
          have hT : Byt (((l ++ le4 (sum (nb l))).set i x).take l.length) := fun y hy => hB y (List.mem_of_mem_take hy)
          have q3 := q2 (by omega)
          rw [sum_is _ _ hT (by rw [List.length_take]; omega) (by rw [List.length_take]; omega), Option.bind_some, sum_is _ _ hl (by omega) (by omega), Option.bind_some]
          congr 1
          rw [bne_iff_ne]
          intro e
          exact q3 (by omega)
  by_cases h1 : (l.length : Int) > 2000
  · rw [if_pos h1]; exact J true (fun h => by cases h)
  · rw [if_neg h1]
    by_cases h2 : i < 0
    · rw [if_pos h2]; exact J true (fun h => by cases h)
    · rw [if_neg h2, wr (a := (l.length : Int) + 4) (by omega) (by omega)]
      refine J _ (fun h => ?_)
      have := of_decide_eq_false h
      omega
end Go.Proofs.Ytkbialmlddhclaa.Pure
