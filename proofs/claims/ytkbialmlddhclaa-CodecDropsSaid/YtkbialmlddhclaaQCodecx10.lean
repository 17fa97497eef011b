-- Written by myprint.py, a program of this session (in its repo under wip/tools), out of the loaded functions; Lean checks it.
import Derived.Test.YtkbialmlddhclaaQCodecx0
import Derived.Test.YtkbialmlddhclaaQCodecx6
import Derived.Test.YtkbialmlddhclaaQCodecx9
namespace Go.Proofs.Ytkbialmlddhclaa.QCodec
open Go.RowKit Go.Proofs.YtkbialmlddhclaaW.PrintWords Go.Proofs.YtkbialmlddhclaaW.PrintLast Go.Proofs.YtkbialmlddhclaaW.PrintMore
attribute [local go_sem] max2_int min2_int max_two min_two max_three min_three max_four min_four   -- for this text's walks alone
set_option linter.unusedVariables false
set_option linter.unusedSimpArgs false

/-! ### codec_GetPiece: function 42 -/
def gotP (l0 : List Int) : Int × Int × Int × List Int × Bool :=
  let r1 := took (l0, true) 1
  let r2 := took r1.2 4
  let r3 := took r2.2 2
  (r1.1, r2.1, r3.1, r3.2.1, r3.2.2)
def codec_GetPiece.f (l0 : List Int) : Option (Int × Int × Int × List Int × Int) :=
  if (gotP l0).2.2.2.2 = true ∧ l0.length ≤ 140737488355328 then (codec_piece.f (gotP l0).1 (gotP l0).2.1 (gotP l0).2.2.1 (gotP l0).2.2.2.1).bind fun t => (if t = true then some ((gotP l0).1, (gotP l0).2.1, (gotP l0).2.2.1, (gotP l0).2.2.2.1, 0) else some (0, 0, 0, [], 3)) else (if l0.length ≤ 140737488355328 then some (0, 0, 0, [], 3) else none)
theorem gotP_len (l0 : List Int) : (gotP l0).2.2.2.1.length ≤ l0.length := by
  have h : ∀ (s : List Int × Bool) (n : Nat), (took s n).2.1.length ≤ s.1.length := by
    intro s n
    unfold took
    split
    · simp
    · exact Nat.le_refl _
  exact Nat.le_trans (h _ _) (Nat.le_trans (h _ _) (h _ _))
/-- What GetPiece leaves. -/
def PiecePost (w : World) (r1 r2 r3 : Int) (r4 : List Int) (r5 : Int) (e : Ending) (w' : World) : Prop := ∃ v3_ : Value, e = .returned (.tuple #[.agg #[.int .i64 r1, .int .i64 r2, .int .i64 r3, v3_], .int .i64 r5]) ∧ Kd.R (Kd.int .u8) 5 w' w.heap.size (fun _ => True) v3_ r4 ∧ Below w.heap.size w w'
set_option maxHeartbeats 8000000 in
set_option maxRecDepth 100000 in
theorem codec_GetPiece.walk (A0 : Option Addr) (c0 : Nat) (l0 : List Int) (r1 r2 r3 : Int) (r4 : List Int) (r5 : Int) (w : World) (hr0 : Kd.C (Kd.int .u8) w A0 l0.length l0) (hc0 : l0.length ≤ c0) (h : codec_GetPiece.f l0 = some (r1, r2, r3, r4, r5)) :
    Calls Try.prog 42 #[.slice A0 l0.length c0] w (PiecePost w r1 r2 r3 r4 r5) := by
  have hlen := gotP_len l0
  obtain ⟨x1, l1, b1, e1⟩ : ∃ x l b, took (l0, true) 1 = (x, l, b) := ⟨_, _, _, rfl⟩
  obtain ⟨x2, l2, b2, e2⟩ : ∃ x l b, took (l1, b1) 4 = (x, l, b) := ⟨_, _, _, rfl⟩
  obtain ⟨x3, l3, b3, e3⟩ : ∃ x l b, took (l2, b2) 2 = (x, l, b) := ⟨_, _, _, rfl⟩
  have eg : gotP l0 = (x1, x2, x3, l3, b3) := by simp only [gotP, e1, e2, e3]
  unfold codec_GetPiece.f at h
  rw [eg] at h hlen
  simp only at h hlen
  have hL : l0.length ≤ 140737488355328 := by
    by_cases c : l0.length ≤ 140737488355328
    · exact c
    · rw [if_neg (fun h => c h.2), if_neg c] at h; cases h
  have HL := Aside0.mk (show l3.length * 1 ≤ 140737488355328 by omega)
  have E1 := Aside0.mk e1
  have E2 := Aside0.mk e2
  have E3 := Aside0.mk e3
  have HR0 := Aside0.mk hr0
  have HC0 := Aside0.mk hc0
  have H := Aside0.mk h
  have HL0 := Aside0.mk hL
  clear hr0 hc0 h e1 e2 e3 eg hlen hL
  go_enter Try.func42, Try.ntmps42
  go_wp2_with fail
  refine (number_t w (w.heap.size + 1) A0 c0 l0 true 1 x1 l1 b1 E1.out _ ?_ (by decide)).mono ?_
  · exact ⟨by simp, by simp, by simp, by simp, by simp, below_alloc (below_alloc (Below.refl _ _) _) _, HR0.out, HC0.out⟩
  rintro e w1 ⟨A1, c1, rfl, h1, z1, k1⟩
  have hb0 : w1.heap[w.heap.size]? = some (.cells #[.int .i64 0, .int .i64 0, .int .i64 0, .slice none 0 0] 58 (0, 0)) := by
    rw [k1 _ (by omega), Hand.alloc_lt _ _ _ (by simp), Hand.alloc_at]
  have hz1 : w1.heap.size = w.heap.size + 2 := by rw [← z1]; simp
  have HH1 := Aside0.mk h1
  have Hb1 := Aside0.mk hb0
  have HZ1 := Aside0.mk hz1
  clear h1 hb0 hz1 k1 z1
  go_wp2_with fail
  refine (number_t w (w.heap.size + 1) A1 c1 _ _ 4 x2 l2 b2 E2.out _ HH1.out (by decide)).mono ?_
  rintro e w2 ⟨A2, c2, rfl, h2, z2, k2⟩
  have HH2 := Aside0.mk h2
  have Hb2 := Aside0.mk ((k2 _ (by omega)).trans Hb1.out)
  have HZ2 := Aside0.mk (z2.symm.trans HZ1.out)
  clear k2 z2 h2 Hb1 HZ1 HH1
  go_wp2_with fail
  refine (number_t w (w.heap.size + 1) A2 c2 _ _ 2 x3 l3 b3 E3.out _ HH2.out (by decide)).mono ?_
  rintro e w3 ⟨A3, c3, rfl, h3, z3, k3⟩
  have HH3 := Aside0.mk h3
  have hb := (k3 _ (by omega)).trans Hb2.out
  have Hb3 := Aside0.mk hb
  have hz4 : w.heap.size + 1 < w3.heap.size := by rw [← z3, HZ2.out]; omega
  have hz5 : w.heap.size < w3.heap.size := by omega
  have HB3 := Aside0.mk h3.bel
  have rc0 := h3.c0
  have rc1 := h3.c1
  have Hrb : Aside0 (∃ o, w3.heap[w.heap.size + 1]? = some o) := ⟨⟨_, Array.getElem?_eq_getElem hz4⟩⟩
  have HH3 := Aside0.mk h3
  clear k3 z3 h3 Hb2 HZ2 HH2 hb
  go_wp2_with fail
  refine (Hand.bclone_any A3 c3 l3 _ (Kd.C_alloc (Kd.C_below HH3.out.rd HB3.out) _) HL.out).mono ?_
  rintro e w4 ⟨v4, rfl, ho, hb4⟩
  obtain ⟨B4, cc4, rfl⟩ := Kd.R_slice ho
  have hz6 : w3.heap.size < w4.heap.size := by have := hb4.size; simp at this; omega
  have k1 := (hb4.block w.heap.size (by simp; omega)).trans ((Hand.alloc_lt _ _ _ hz5).trans Hb3.out)
  have k2 := (hb4.block w3.heap.size (by simp)).trans (Hand.alloc_at _ _)
  have k3 := (hb4.block (w.heap.size + 1) (by simp; omega)).trans (Hand.alloc_lt _ _ _ hz4)
  have HB4 := Aside0.mk (below_step (below_alloc HB3.out _) hb4)
  have HO4 : Aside0 (Kd.R (Kd.int .u8) 5 w4 w.heap.size (fun k => w3.heap.size < k) (.slice B4 l3.length cc4) l3) := ⟨Kd.R_mono (Kd.R_lower (Kd.R_bound ho) (by simp; omega)) (fun k hk => by have := hk.2.1; simp at this; omega)⟩
  have q0 := Hand.block_cell k1 0
  have q1 := Hand.block_cell k1 1
  have q2 := Hand.block_cell k1 2
  have q3 := Hand.block_cell k1 3
  have p0 := Hand.block_frozen k1 0
  have p1 := Hand.block_frozen k1 1
  have p2 := Hand.block_frozen k1 2
  have p3 := Hand.block_frozen k1 3
  have s0 := Hand.block_cell k2 0
  have s1 := Hand.block_cell k2 1
  have s2 := Hand.block_cell k2 2
  have s3 := Hand.block_cell k2 3
  have f0 := Hand.block_frozen k2 0
  have f1 := Hand.block_frozen k2 1
  have f2 := Hand.block_frozen k2 2
  have f3 := Hand.block_frozen k2 3
  have rd0 : w4.cell? ⟨w.heap.size + 1, 0, none⟩ = some (.slice A3 l3.length c3) := by
    rw [← rc0]
    unfold World.cell?
    rw [k3]
  have rd1 : w4.cell? ⟨w.heap.size + 1, 1, none⟩ = some (.bool b3) := by
    rw [← rc1]
    unfold World.cell?
    rw [k3]
  simp at q0 q1 q2 q3 s0 s1 s2 s3
  clear k1 k2 k3 hb4 ho rc0 rc1
  cases b3 with
  | false =>
    rw [if_neg (by simp), if_pos HL0.out] at H
    have H1 := H.out
    simp only [Option.some.injEq, Prod.mk.injEq] at H1
    obtain ⟨rfl, rfl, rfl, rfl, rfl⟩ := H1
    go_wp2
    refine bodyPost_ret (v := .tuple #[.agg #[.int .i64 0, .int .i64 0, .int .i64 0, .slice none 0 0], .int .i64 3]) (by simp [results, Try.results42, go_sem, q0, q1, q2, q3]) rfl ⟨_, rfl, ?_, ?_⟩
    · exact Kd.R_nil _ _ _ _ _
    · repeat (first | exact HB4.out | refine Below.setCell ?_ (by first | (simp; done) | (simp; omega)) _ | apply below_alloc | apply pw_below_drewN)
  | true =>
    rw [if_pos ⟨rfl, HL0.out⟩] at H
    obtain ⟨t, HT, H2⟩ := Option.bind_eq_some_iff.mp H.out
    have HT1 := Aside0.mk HT
    clear HT H
    cases t with
    | false =>
      rw [if_neg (by decide)] at H2
      simp only [Option.some.injEq, Prod.mk.injEq] at H2
      obtain ⟨rfl, rfl, rfl, rfl, rfl⟩ := H2
      go_wp2_with fail
      refine (codec_piece.calls _ _ _ _ _ l3 _ _ (Kd.R_reads' (Kd.R_far HO4.out (p := ⟨w3.heap.size, 3, none⟩) (fun k hk => by simp at hk ⊢; omega) _)).2.2 (Kd.R_reads' HO4.out).2.1 HT1.out).mono ?_
      rintro e w5 ⟨rfl, hb5⟩
      have hz7 : w3.heap.size < w5.heap.size := by have := hb5.size; simp at this; omega
      have HB5 := Aside0.mk (below_step (HB4.out.setCell (p := ⟨w3.heap.size, 3, none⟩) (by simp; omega) _) hb5)
      have HO5 := Aside0.mk (Kd.R_below (Kd.R_far HO4.out (p := ⟨w3.heap.size, 3, none⟩) (fun k hk => by simp at hk ⊢; omega) (.slice B4 l3.length cc4)) hb5)
      have j0 : w5.cell? ⟨w.heap.size, 0, none⟩ = some (.int .i64 0) := by rw [hb5.cell (by simp; omega), World.cell?_setCell_far _ _ _ _ (by simp; omega)]; exact q0
      have j1 : w5.cell? ⟨w.heap.size, 1, none⟩ = some (.int .i64 0) := by rw [hb5.cell (by simp; omega), World.cell?_setCell_far _ _ _ _ (by simp; omega)]; exact q1
      have j2 : w5.cell? ⟨w.heap.size, 2, none⟩ = some (.int .i64 0) := by rw [hb5.cell (by simp; omega), World.cell?_setCell_far _ _ _ _ (by simp; omega)]; exact q2
      have j3 : w5.cell? ⟨w.heap.size, 3, none⟩ = some (.slice none 0 0) := by rw [hb5.cell (by simp; omega), World.cell?_setCell_far _ _ _ _ (by simp; omega)]; exact q3
      have m0 : w5.frozen? ⟨w.heap.size, 0, none⟩ = false := by rw [hb5.frozen (by simp; omega), World.frozen?_setCell]; exact p0
      have m1 : w5.frozen? ⟨w.heap.size, 1, none⟩ = false := by rw [hb5.frozen (by simp; omega), World.frozen?_setCell]; exact p1
      have m2 : w5.frozen? ⟨w.heap.size, 2, none⟩ = false := by rw [hb5.frozen (by simp; omega), World.frozen?_setCell]; exact p2
      have m3 : w5.frozen? ⟨w.heap.size, 3, none⟩ = false := by rw [hb5.frozen (by simp; omega), World.frozen?_setCell]; exact p3
      have n0 : w5.cell? ⟨w3.heap.size, 0, none⟩ = some (.int .i64 x1) := by rw [hb5.cell (by simp; omega), World.cell?_setCell_other _ _ _ _ (by simp)]; exact s0
      have n1 : w5.cell? ⟨w3.heap.size, 1, none⟩ = some (.int .i64 x2) := by rw [hb5.cell (by simp; omega), World.cell?_setCell_other _ _ _ _ (by simp)]; exact s1
      have n2 : w5.cell? ⟨w3.heap.size, 2, none⟩ = some (.int .i64 x3) := by rw [hb5.cell (by simp; omega), World.cell?_setCell_other _ _ _ _ (by simp)]; exact s2
      have n3 : w5.cell? ⟨w3.heap.size, 3, none⟩ = some (.slice B4 l3.length cc4) := by rw [hb5.cell (by simp; omega)]; exact World.cell?_setCell_same _ _ _ s3
      clear hb5 q0 q1 q2 q3 s0 s1 s2 s3 p0 p1 p2 p3 f0 f1 f2 f3
      go_wp2
      refine bodyPost_ret (v := .tuple #[.agg #[.int .i64 0, .int .i64 0, .int .i64 0, .slice none 0 0], .int .i64 3]) (by simp [results, Try.results42, go_sem, j0, j1, j2, j3]) rfl ⟨_, rfl, ?_, ?_⟩
      · exact Kd.R_nil _ _ _ _ _
      · repeat (first | exact HB5.out | refine Below.setCell ?_ (by first | (simp; done) | (simp; omega)) _ | apply below_alloc | apply pw_below_drewN)
    | true =>
      rw [if_pos rfl] at H2
      simp only [Option.some.injEq, Prod.mk.injEq] at H2
      obtain ⟨rfl, rfl, rfl, rfl, rfl⟩ := H2
      go_wp2_with fail
      refine (codec_piece.calls _ _ _ _ _ l3 _ _ (Kd.R_reads' (Kd.R_far HO4.out (p := ⟨w3.heap.size, 3, none⟩) (fun k hk => by simp at hk ⊢; omega) _)).2.2 (Kd.R_reads' HO4.out).2.1 HT1.out).mono ?_
      rintro e w5 ⟨rfl, hb5⟩
      have hz7 : w3.heap.size < w5.heap.size := by have := hb5.size; simp at this; omega
      have HB5 := Aside0.mk (below_step (HB4.out.setCell (p := ⟨w3.heap.size, 3, none⟩) (by simp; omega) _) hb5)
      have HO5 := Aside0.mk (Kd.R_below (Kd.R_far HO4.out (p := ⟨w3.heap.size, 3, none⟩) (fun k hk => by simp at hk ⊢; omega) (.slice B4 l3.length cc4)) hb5)
      have j0 : w5.cell? ⟨w.heap.size, 0, none⟩ = some (.int .i64 0) := by rw [hb5.cell (by simp; omega), World.cell?_setCell_far _ _ _ _ (by simp; omega)]; exact q0
      have j1 : w5.cell? ⟨w.heap.size, 1, none⟩ = some (.int .i64 0) := by rw [hb5.cell (by simp; omega), World.cell?_setCell_far _ _ _ _ (by simp; omega)]; exact q1
      have j2 : w5.cell? ⟨w.heap.size, 2, none⟩ = some (.int .i64 0) := by rw [hb5.cell (by simp; omega), World.cell?_setCell_far _ _ _ _ (by simp; omega)]; exact q2
      have j3 : w5.cell? ⟨w.heap.size, 3, none⟩ = some (.slice none 0 0) := by rw [hb5.cell (by simp; omega), World.cell?_setCell_far _ _ _ _ (by simp; omega)]; exact q3
      have m0 : w5.frozen? ⟨w.heap.size, 0, none⟩ = false := by rw [hb5.frozen (by simp; omega), World.frozen?_setCell]; exact p0
      have m1 : w5.frozen? ⟨w.heap.size, 1, none⟩ = false := by rw [hb5.frozen (by simp; omega), World.frozen?_setCell]; exact p1
      have m2 : w5.frozen? ⟨w.heap.size, 2, none⟩ = false := by rw [hb5.frozen (by simp; omega), World.frozen?_setCell]; exact p2
      have m3 : w5.frozen? ⟨w.heap.size, 3, none⟩ = false := by rw [hb5.frozen (by simp; omega), World.frozen?_setCell]; exact p3
      have n0 : w5.cell? ⟨w3.heap.size, 0, none⟩ = some (.int .i64 x1) := by rw [hb5.cell (by simp; omega), World.cell?_setCell_other _ _ _ _ (by simp)]; exact s0
      have n1 : w5.cell? ⟨w3.heap.size, 1, none⟩ = some (.int .i64 x2) := by rw [hb5.cell (by simp; omega), World.cell?_setCell_other _ _ _ _ (by simp)]; exact s1
      have n2 : w5.cell? ⟨w3.heap.size, 2, none⟩ = some (.int .i64 x3) := by rw [hb5.cell (by simp; omega), World.cell?_setCell_other _ _ _ _ (by simp)]; exact s2
      have n3 : w5.cell? ⟨w3.heap.size, 3, none⟩ = some (.slice B4 l3.length cc4) := by rw [hb5.cell (by simp; omega)]; exact World.cell?_setCell_same _ _ _ s3
      clear hb5 q0 q1 q2 q3 s0 s1 s2 s3 p0 p1 p2 p3 f0 f1 f2 f3
      go_wp2
      refine bodyPost_ret (v := .tuple #[.agg #[.int .i64 x1, .int .i64 x2, .int .i64 x3, .slice B4 l3.length cc4], .int .i64 0]) (by simp [results, Try.results42, go_sem, j0, j1, j2, j3]) rfl ⟨_, rfl, ?_, ?_⟩
      · refine Kd.R_mono (ok := fun k => w3.heap.size < k) ?_ (fun _ _ => trivial)
        repeat (first | exact HO5.out | refine Kd.R_far ?_ (fun k hk => by simp at hk ⊢; omega) _)
      · repeat (first | exact HB5.out | refine Below.setCell ?_ (by first | (simp; done) | (simp; omega)) _ | apply below_alloc | apply pw_below_drewN)
theorem codec_GetPiece.calls (A0 : Option Addr) (c0 : Nat) (l0 : List Int) (r1 r2 r3 : Int) (r4 : List Int) (r5 : Int) (w : World) (hr0 : Kd.C (Kd.int .u8) w A0 l0.length l0) (hc0 : l0.length ≤ c0) (h : codec_GetPiece.f l0 = some (r1, r2, r3, r4, r5)) :
    Calls Try.prog 42 #[.slice A0 l0.length c0] w fun e w' => ∃ v3_ : Value, e = .returned (.tuple #[.agg #[.int .i64 r1, .int .i64 r2, .int .i64 r3, v3_], .int .i64 r5]) ∧ Kd.R (Kd.int .u8) 5 w' w.heap.size (fun _ => True) v3_ r4 ∧ Below w.heap.size w w' :=
  codec_GetPiece.walk A0 c0 l0 r1 r2 r3 r4 r5 w hr0 hc0 h


end Go.Proofs.Ytkbialmlddhclaa.QCodec
