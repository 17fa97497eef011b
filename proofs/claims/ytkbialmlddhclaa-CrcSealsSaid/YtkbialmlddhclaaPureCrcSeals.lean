/- The law CrcSeals: what the printed function computes is true. -/
import Derived.Test.YtkbialmlddhclaaSealFacts
import Derived.Test.YtkbialmlddhclaaQCrcx14
import Derived.OpenShut
namespace Go.Proofs.Ytkbialmlddhclaa.Pure
open Go.RowKit Go.Proofs.Ytkbialmlddhclaa.QCrc Go.Proofs.YtkbialmlddhclaaW.PrintWords Go.Proofs.YtkbialmlddhclaaW.PrintLast Go.Proofs.Ytkbialmlddhclaa.CrcMath Go.Proofs.Ytkbialmlddhclaa.CrcFacts

theorem CrcSeals : spencelaw02_CrcSeals.Pure := by
  intro l s _ _ hw _ _ hw2
  have hl : Byt l := fun y hy => Go.bounds_u8 (hw y hy)
  have hs : Byt s := fun y hy => Go.bounds_u8 (hw2 y hy)
  refine ⟨l.length + s.length + 40, ?_⟩
  have aw : spencelaw02_awake.f (l.length + s.length + 40) = some true := by
    unfold spencelaw02_awake.f
    rw [sum_is _ _ (by intro x hx; simp at hx; omega) (by decide) (by simp), Option.bind_some]
    decide +kernel
  unfold spencelaw02_CrcSeals.f
  rw [aw, Option.bind_some, if_pos rfl]
  have J1 : ∀ k, s.length + 35 ≤ k → s.length ≤ 2000 → spencelaw02_CrcSeals.j1 (k + 1) s false = some true := by
    intro k hk h2
    rw [spencelaw02_CrcSeals.j1, if_neg (by decide), open_is k s hs (by omega) (by omega), Option.bind_some]
    unfold opened
    by_cases h4 : s.length < 4
    · rw [if_pos (by omega), if_pos h4, if_pos rfl]; rfl
    · have hwr : wrap64 ((s.length : Int) - 4) = (s.length : Int) - 4 := wr (by omega) (by omega)
      have e : ((s.length : Int) - 4).toNat = s.length - 4 := by omega
      have hb : Byt (s.take (s.length - 4)) := fun x hx => hs x (List.mem_of_mem_take hx)
      have hL : (s.take (s.length - 4)).length = s.length - 4 := by rw [List.length_take]; omega
      rw [if_neg (by omega), hwr, if_pos (by omega), if_pos (by omega), if_neg h4, e, refseal_is k _ hb (by omega) (by omega), Option.bind_some, bytes_is k _ _ (by rw [List.length_append, le4_len]; omega) (by rw [List.length_append, le4_len]; omega), Option.bind_some]
      have hiff : (s.take (s.length - 4) ++ le4 (sum (nb (s.take (s.length - 4)))) = s) ↔ le4 (sum (nb (s.take (s.length - 4)))) = s.drop (s.length - 4) := by
        constructor
        · intro h
          have h' := congrArg (List.drop (s.length - 4)) h
          rw [List.drop_left' hL] at h'
          exact h'
        · intro h
          rw [h, List.take_append_drop]
      by_cases h5 : le4 (sum (nb (s.take (s.length - 4)))) = s.drop (s.length - 4)
      · rw [if_pos (decide_eq_true (hiff.2 h5)), if_pos h5, if_pos rfl, bytes_is k _ _ (by rw [hL]; omega) (by rw [hL]; omega), Option.bind_some]
        simp
      · rw [if_neg (by simpa using fun h => h5 (hiff.1 h)), if_neg h5, if_pos rfl]
        rfl
  have J : ∀ b : Bool, (b = false → l.length ≤ 2000 ∧ s.length ≤ 2000) → spencelaw02_CrcSeals.j0 (l.length + s.length + 40) l s b = some true := by
    intro b hb
    rw [spencelaw02_CrcSeals.j0]
    cases b with
    | true => rw [if_pos rfl]
    | false =>
      obtain ⟨g1, g2⟩ := hb rfl
      have hsb : Byt (l ++ le4 (sum (nb l))) := by
        intro y hy
        rcases List.mem_append.1 hy with h | h
        · exact hl y h
        · exact le4_byt _ y h
      have hsl : (l ++ le4 (sum (nb l))).length = l.length + 4 := by rw [List.length_append, le4_len]
      rw [if_neg (by decide), seal_is _ l hl (by omega) (by omega), Option.bind_some, open_is _ _ hsb (by omega) (by omega), open_seal, Option.bind_some, refseal_is _ l hl (by omega) (by omega), Option.bind_some, bytes_is _ _ _ (by rw [hsl]; omega) (by rw [hsl]; omega), Option.bind_some, if_pos (by simp), if_pos rfl, bytes_is _ l l (by omega) (by omega), Option.bind_some]
      simp only [decide_true, Bool.not_true]
      exact J1 (l.length + s.length + 38) (by omega) g2
  by_cases h1 : (l.length : Int) > 2000
  · rw [if_pos h1]; exact J true (fun h => by cases h)
  · rw [if_neg h1]
    refine J _ (fun h => ?_)
    have := of_decide_eq_false h
    omega
end Go.Proofs.Ytkbialmlddhclaa.Pure
