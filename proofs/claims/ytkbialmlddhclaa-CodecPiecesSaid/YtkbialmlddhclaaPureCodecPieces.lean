/- The law CodecPieces: what the printed function computes is true. -/
import Derived.Test.YtkbialmlddhclaaPieceFacts
import Derived.Test.YtkbialmlddhclaaQCodecx20
import Derived.OpenShut
namespace Go.Proofs.Ytkbialmlddhclaa.PiecePure
open Go.RowKit Go.Proofs.YtkbialmlddhclaaW.PrintWords Go.Proofs.YtkbialmlddhclaaW.PrintLast Go.Proofs.Ytkbialmlddhclaa.QCodec Go.Proofs.Ytkbialmlddhclaa.NumMath Go.Proofs.Ytkbialmlddhclaa.CodecFacts

theorem later (k : Nat) (o g i : Int) (l : List Int) (hl : Byt l) (h2 : l.length ≤ 200) (hk : 400 ≤ k) : spencelaw17_CodecPieces.j1 (k + 1) (if OkP o g i l.length then (enc o g i l, (0 : Int)) else ([], 1)).1 (if OkP o g i l.length then (enc o g i l, (0 : Int)) else ([], 1)).2 false o g i l = some true := by
  rw [spencelaw17_CodecPieces.j1, if_neg (by decide), refpiece_is, Option.bind_some]
  by_cases h : OkP o g i l.length
  · have hL := enc_len o g i l
    obtain ⟨p1, p2, p3, p4⟩ := enc_parts o g i l h
    rw [if_pos (decide_eq_true h), if_pos h]
    simp only
    rw [getP_is _ (enc_byt o g i l hl) (by omega), Option.bind_some, p1, p2, p3, p4, if_pos (c := 7 ≤ (enc o g i l).length ∧ OkP o g i l.length) ⟨by omega, h⟩, refP_is k o g i l (by omega) h, Option.bind_some, bytes_is k _ _ (by omega) (by omega), Option.bind_some, if_pos rfl, same_is k o g i l (by omega) (by omega)]
    simp
  · rw [if_neg (fun x => h (of_decide_eq_true x)), if_neg h, if_pos rfl]
    rfl

theorem first (k : Nat) (o g i : Int) (l b : List Int) (hl : Byt l) (hb : Byt b) (h2 : l.length ≤ 200) (h3 : b.length ≤ 300) (hk : 400 ≤ k) : spencelaw17_CodecPieces.j0 (k + 2) b false o g i l = some true := by
  rw [spencelaw17_CodecPieces.j0, if_neg (by decide), putP_is (k + 1) o g i l (by omega), Option.bind_some, getP_is b hb (by omega), Option.bind_some, refgetP_is (k + 1) b hb (by omega) (by omega), Option.bind_some]
  by_cases h : 7 ≤ b.length ∧ OkP (nO b) (nG b) (nI b) (b.drop 7).length
  · rw [if_pos h, if_pos h]
    simp only
    rw [same_is (k + 1) _ _ _ _ (by rw [List.length_drop]; omega) (by rw [List.length_drop]; omega), Option.bind_some, if_pos rfl, if_neg (by decide), if_pos trivial]
    exact later k o g i l hl h2 hk
  · rw [if_neg h, if_neg h]
    simp only
    rw [same_is (k + 1) _ _ _ _ (by simp) (by simp), Option.bind_some, if_pos rfl, if_neg (by decide), if_neg (by decide)]
    exact later k o g i l hl h2 hk

theorem pieces (o g i : Int) (A : Option Addr) (c : Nat) (l : List Int) (B : Option Addr) (d : Nat) (b : List Int) (w : World) (_ : (Lit.int .i64 o).wf = true) (_ : (Lit.int .i64 g).wf = true) (_ : (Lit.int .i64 i).wf = true)
    (hr : Kd.C (Kd.int .u8) w A l.length l) (hc : l.length ≤ c) (_ : l.length ≤ maxLen) (hw : ∀ n ∈ l, (Lit.int .u8 n).wf = true)
    (hr2 : Kd.C (Kd.int .u8) w B b.length b) (hc2 : b.length ≤ d) (_ : b.length ≤ maxLen) (hw2 : ∀ n ∈ b, (Lit.int .u8 n).wf = true) (_ : b.length * 1 ≤ 140737488351232) :
    Calls Try.prog 8 #[.agg #[.int .i64 o, .int .i64 g, .int .i64 i, .slice A l.length c], .slice B b.length d] w fun e w' => e = .returned (.bool true) ∧ Below w.heap.size w w' := by
  have hl : Byt l := fun x hx => Go.bounds_u8 (hw x hx)
  have hb : Byt b := fun x hx => Go.bounds_u8 (hw2 x hx)
  refine spencelaw17_CodecPieces.calls 500 o g i A c l B d b true w hr hc hr2 hc2 ?_
  unfold spencelaw17_CodecPieces.f
  rw [awake_is 500 (by decide), Option.bind_some, if_pos rfl]
  by_cases h1 : (l.length : Int) > 200
  · rw [if_pos h1, spencelaw17_CodecPieces.j0, if_pos rfl]
  · rw [if_neg h1]
    by_cases h2 : (b.length : Int) > 300
    · rw [decide_eq_true h2, spencelaw17_CodecPieces.j0, if_pos rfl]
    · rw [decide_eq_false h2]
      exact first 498 o g i l b hl hb (by omega) (by omega) (by omega)
end Go.Proofs.Ytkbialmlddhclaa.PiecePure
