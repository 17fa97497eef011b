-- Written by myprint.py, a program of this session (in its repo under wip/tools), out of the loaded functions; Lean checks it.
import Derived.Test.YtkmanjfmffdcbaaQFramex0
import Derived.Test.YtkmanjfmffdcbaaQFramex11
import Derived.Test.YtkmanjfmffdcbaaQFramex12
import Derived.Test.YtkmanjfmffdcbaaQFramex14
namespace Go.Proofs.Ytkmanjfmffdcbaa.QFrame
open Go.RowKit Go.Proofs.YtkmanjfmffdcbaaW.PrintWords Go.Proofs.YtkmanjfmffdcbaaW.PrintLast Go.Proofs.YtkmanjfmffdcbaaW.PrintMore
attribute [local go_sem] max2_int min2_int max_two min_two max_three min_three max_four min_four   -- for this text's walks alone
set_option linter.unusedVariables false
set_option linter.unusedSimpArgs false

/-! ### frame_Get: function 13 -/
def frame_Get.f (k : Nat) (l0 : List Int) : Option (Int × Int × List Int × Int × Int) :=
  (frame_size.f l0).bind fun s => (if s.2 = 0 then (if 0 ≤ s.1 ∧ s.1 ≤ (l0.length : Int) then (crc_Open.f k (l0.take s.1.toNat)).bind fun x => (if x.2 = 0 then (if 12 ≤ x.1.length then some (rd x.1 1, beOr ((x.1.drop 4).take 8) 0, x.1.drop 12, s.1, 0) else none) else some (0, 0, [], 0, 4)) else none) else some (0, 0, [], 0, s.2))
theorem frame_Get.mono : ∀ l0 k, LeO (frame_Get.f k l0) (frame_Get.f (k + 1) l0) := by
  intro l0 k
  unfold frame_Get.f
  exact LeO.bind (LeO.refl _) (fun _ => LeO.ite (LeO.ite (LeO.bind (crc_Open.mono _ _) (fun _ => LeO.refl _)) (LeO.refl _)) (LeO.refl _))
theorem open_n (k : Nat) (A0 : Option Addr) (c0 : Nat) (l0 : List Int) (n : Nat) (r1 : List Int) (r2 : Int) (w : World) (hn : l0.length = n) (hr0 : Kd.C (Kd.int .u8) w A0 l0.length l0) (hc0 : n ≤ c0) (h : crc_Open.f k l0 = some (r1, r2)) :
    Calls Try.prog 55 #[.slice A0 n c0] w fun e w' => ∃ v0_ : Value, e = .returned (.tuple #[v0_, .int .i64 r2]) ∧ Kd.R (Kd.int .u8) 5 w' w.heap.size (fun _ => True) v0_ r1 ∧ Below w.heap.size w w' := by
  subst hn
  exact crc_Open.calls k A0 c0 l0 r1 r2 w hr0 hc0 h
/-- What Get leaves. -/
def FramePost (w : World) (r1 r2 : Int) (r3 : List Int) (r4 r5 : Int) (e : Ending) (w' : World) : Prop := ∃ v2_ : Value, e = .returned (.tuple #[.agg #[.int .u8 r1, .int .u64 r2, v2_], .int .i64 r4, .int .i64 r5]) ∧ Kd.Q (Kd.int .u8) 5 w' w.heap.size (fun _ => True) v2_ r3 ∧ Below w.heap.size w w'
set_option maxHeartbeats 600000 in
set_option maxRecDepth 100000 in
theorem frame_Get.walk (k : Nat) (A0 : Option Addr) (c0 : Nat) (l0 : List Int) (r1 r2 : Int) (r3 : List Int) (r4 r5 : Int) (w : World) (hr0 : Kd.C (Kd.int .u8) w A0 l0.length l0) (hc0 : l0.length ≤ c0) (h : frame_Get.f k l0 = some (r1, r2, r3, r4, r5)) :
    Calls Try.prog 13 #[.slice A0 l0.length c0] w (FramePost w r1 r2 r3 r4 r5) := by
  obtain ⟨⟨s1, s2⟩, hs, H⟩ := Option.bind_eq_some_iff.mp h
  simp only at H
  have HS := Aside0.mk hs
  have HR0 := Aside0.mk hr0
  have HC0 := Aside0.mk hc0
  have HB0 := Aside0.mk (Below.refl w.heap.size w)
  have hz0 : w.heap.size < w.heap.size + 1 := by omega
  clear h hs hr0
  by_cases hs2 : s2 = 0
  · subst hs2
    rw [if_pos rfl] at H
    by_cases hr : 0 ≤ s1 ∧ s1 ≤ (l0.length : Int)
    · rw [if_pos hr] at H
      obtain ⟨⟨x, x2⟩, hx, H⟩ := Option.bind_eq_some_iff.mp H
      simp only at H
      have HX := Aside0.mk hx
      have g0 := hr.1
      have g1 := hr.2
      have g2 : s1 ≤ (c0 : Int) := by omega
      obtain ⟨n, rfl⟩ := Int.eq_ofNat_of_zero_le g0
      have hn : n ≤ l0.length := by omega
      have HT : Aside0 (Kd.C (Kd.int .u8) w A0 (l0.take n).length (l0.take n)) := ⟨by rw [List.length_take, Nat.min_eq_left hn]; exact Hand.C_take HR0.out n hn⟩
      have hlt : (l0.take n).length = n := by rw [List.length_take, Nat.min_eq_left hn]
      have HLT := Aside0.mk hlt
      have hnc : n ≤ c0 := by omega
      clear hx hr hlt
      by_cases hx2 : x2 = 0
      · subst hx2
        rw [if_pos rfl] at H
        by_cases h12 : 12 ≤ x.length
        · rw [if_pos h12] at H
          simp only [Option.some.injEq, Prod.mk.injEq] at H
          obtain ⟨rfl, rfl, rfl, rfl, rfl⟩ := H
          have HN : Aside0 (nums_Get.f x 4 8 = some (beOr ((x.drop 4).take 8) 0, true)) := ⟨by unfold nums_Get.f; rw [if_pos (by omega)]; rfl⟩
          have x1 : (1 : Int) < (x.length : Int) := by omega
          have x2 : (12 : Int) ≤ (x.length : Int) := by omega
          have hx9 : 1 < x.length := by omega
          go_enter Try.func13, Try.ntmps13
          go_wp2_with (first | (go_at_call 54; refine (frame_size.calls A0 c0 l0 _ _ _ (Kd.C_alloc HR0.out _) HC0.out HS.out).mono ?_; rintro e w1 ⟨rfl, ⟨m1, rfl⟩⟩) | (go_at_call 55; refine (open_n k A0 c0 (l0.take n) n _ _ _ HLT.out (Kd.C_drewN (Kd.C_alloc HT.out _) _) hnc HX.out).mono ?_; rintro e w2 ⟨v2, rfl, ho2, hb2⟩; obtain ⟨B2, cb2, rfl⟩ := Kd.R_slice ho2; have HO2 := Aside0.mk ho2; have HB2 := Aside0.mk (below_step (pw_below_drewN (below_alloc HB0.out _) _) hb2); have kb := (hb2.block w.heap.size (by simp)).trans (Hand.alloc_at w _); have q0 := Hand.block_cell kb 0; have q1 := Hand.block_cell kb 1; have q2 := Hand.block_cell kb 2; have p0 := Hand.block_frozen kb 0; have p1 := Hand.block_frozen kb 1; have p2 := Hand.block_frozen kb 2; simp at q0 q1 q2; clear kb ho2 hb2) | (go_at_call 56; refine (nums_Get.calls B2 cb2 x 4 8 _ true _ (Kd.R_reads' HO2.out).2.2 (Kd.R_reads' HO2.out).2.1 HN.out).mono ?_; rintro e w3 ⟨rfl, ⟨m3, rfl⟩⟩))
          have hcap := (Kd.R_reads' HO2.out).2.1
          obtain ⟨ad, rfl, hcell⟩ := Hand.C_cell (Kd.R_reads' HO2.out).2.2 1 hx9
          have HO3 := Aside0.mk (Kd.R_drewN HO2.out m3)
          have HB3 := Aside0.mk (pw_below_drewN HB2.out m3)
          replace q0 : (w2.drewN m3).cell? _ = _ := q0
          replace q1 : (w2.drewN m3).cell? _ = _ := q1
          replace q2 : (w2.drewN m3).cell? _ = _ := q2
          replace p0 : (w2.drewN m3).frozen? _ = _ := p0
          replace p1 : (w2.drewN m3).frozen? _ = _ := p1
          replace p2 : (w2.drewN m3).frozen? _ = _ := p2
          replace hcell : (w2.drewN m3).cell? _ = _ := hcell
          clear HO2 HB2
          generalize w2.drewN m3 = w4 at *
          have HV := Aside0.mk (Kd.Q_drop (Kd.Q_of_R (Kd.R_mono (ok' := fun k => w.heap.size < k) (Kd.R_bound HO3.out) (fun k hk => by have := hk.2.1; simp at this; omega))) h12)
          simp only [show 12 * (Kd.int .u8).sz = 12 from rfl] at HV
          have hbs : w.heap.size ≤ ((w.alloc (.cells #[.int .u8 0, .int .u64 0, .slice none 0 0] 26)).drewN m1).heap.size := by simp
          replace HV := Aside0.mk (Kd.Q_lower HV.out hbs)
          clear hbs HO3
          have hc1 : w4.cell? ⟨ad.block, ad.off + 1, none⟩ = some (.int .u8 (rd x 1)) := by simpa [Addr.add] using hcell
          clear hcell
          by_cases hc12 : cb2 = 12
          · subst hc12
            rw [if_pos rfl, show x.length - 12 = 0 by omega] at HV
            replace HV : Aside0 (Kd.Q (Kd.int .u8) 5 w4 w.heap.size (fun k => w.heap.size < k) (.slice (some ad) 0 0) (x.drop 12)) := HV
            go_region
            all_goals
              go_wp2
              refine bodyPost_ret (v := .tuple #[.agg #[.int .u8 (rd x 1), .int .u64 (beOr ((x.drop 4).take 8) 0), .slice (some ad) 0 0], .int .i64 n, .int .i64 0]) (by simp [results, Try.results13, go_sem, q0, q1, q2]) rfl ⟨_, rfl, ?_, ?_⟩
              · refine Kd.Q_mono (ok := fun k => w.heap.size < k) ?_ (fun _ _ => trivial)
                exact Kd.Q_drew (Kd.Q_far (Kd.Q_far (Kd.Q_far HV.out (fun k hk => Nat.ne_of_gt hk) _) (fun k hk => Nat.ne_of_gt hk) _) (fun k hk => Nat.ne_of_gt hk) _)
              · exact below_drew1 (((HB3.out.setCell (Nat.le_refl _) _).setCell (Nat.le_refl _) _).setCell (Nat.le_refl _) _)
          · rw [if_neg hc12] at HV
            replace HV : Aside0 (Kd.Q (Kd.int .u8) 5 w4 w.heap.size (fun k => w.heap.size < k) (.slice (some (ad.add 12)) (x.length - 12) (cb2 - 12)) (x.drop 12)) := HV
            go_region
            all_goals
              go_wp2
              refine bodyPost_ret (v := .tuple #[.agg #[.int .u8 (rd x 1), .int .u64 (beOr ((x.drop 4).take 8) 0), .slice (some (ad.add 12)) (x.length - 12) (cb2 - 12)], .int .i64 n, .int .i64 0]) (by simp [results, Try.results13, go_sem, q0, q1, q2]) rfl ⟨_, rfl, ?_, ?_⟩
              · refine Kd.Q_mono (ok := fun k => w.heap.size < k) ?_ (fun _ _ => trivial)
                exact Kd.Q_drew (Kd.Q_far (Kd.Q_far (Kd.Q_far HV.out (fun k hk => Nat.ne_of_gt hk) _) (fun k hk => Nat.ne_of_gt hk) _) (fun k hk => Nat.ne_of_gt hk) _)
              · exact below_drew1 (((HB3.out.setCell (Nat.le_refl _) _).setCell (Nat.le_refl _) _).setCell (Nat.le_refl _) _)
        · rw [if_neg h12] at H
          cases H
      · rw [if_neg hx2] at H
        simp only [Option.some.injEq, Prod.mk.injEq] at H
        obtain ⟨rfl, rfl, rfl, rfl, rfl⟩ := H
        have b1 : (x2 != 0) = true := bne_iff_ne.2 hx2
        go_enter Try.func13, Try.ntmps13
        go_wp2_with (first | (go_at_call 54; refine (frame_size.calls A0 c0 l0 _ _ _ (Kd.C_alloc HR0.out _) HC0.out HS.out).mono ?_; rintro e w1 ⟨rfl, ⟨m1, rfl⟩⟩) | (go_at_call 55; refine (open_n k A0 c0 (l0.take n) n _ _ _ HLT.out (Kd.C_drewN (Kd.C_alloc HT.out _) _) hnc HX.out).mono ?_; rintro e w2 ⟨v2, rfl, ho2, hb2⟩; obtain ⟨B2, cb2, rfl⟩ := Kd.R_slice ho2; have HO2 := Aside0.mk ho2; have HB2 := Aside0.mk (below_step (pw_below_drewN (below_alloc HB0.out _) _) hb2); have kb := (hb2.block w.heap.size (by simp)).trans (Hand.alloc_at w _); have q0 := Hand.block_cell kb 0; have q1 := Hand.block_cell kb 1; have q2 := Hand.block_cell kb 2; have p0 := Hand.block_frozen kb 0; have p1 := Hand.block_frozen kb 1; have p2 := Hand.block_frozen kb 2; simp at q0 q1 q2; clear kb ho2 hb2))
        refine bodyPost_ret (v := .tuple #[.agg #[.int .u8 0, .int .u64 0, .slice none 0 0], .int .i64 0, .int .i64 4]) (by simp [results, Try.results13, go_sem, q0, q1, q2]) rfl ⟨_, rfl, Kd.Q_nil _ _ _ _ _, ?_⟩
        repeat (first | exact HB2.out | refine Below.setCell ?_ (by first | (simp; done) | (simp; omega)) _ | apply below_alloc | apply pw_below_drewN | apply below_drew1)
    · rw [if_neg hr] at H
      cases H
  · rw [if_neg hs2] at H
    simp only [Option.some.injEq, Prod.mk.injEq] at H
    obtain ⟨rfl, rfl, rfl, rfl, rfl⟩ := H
    have b1 : (s2 != 0) = true := bne_iff_ne.2 hs2
    go_enter Try.func13, Try.ntmps13
    go_wp2_with (first | (go_at_call 54; refine (frame_size.calls A0 c0 l0 _ _ _ (Kd.C_alloc HR0.out _) HC0.out HS.out).mono ?_; rintro e w1 ⟨rfl, ⟨m1, rfl⟩⟩))
    refine bodyPost_ret (v := .tuple #[.agg #[.int .u8 0, .int .u64 0, .slice none 0 0], .int .i64 0, .int .i64 s2]) (by simp [results, Try.results13, go_sem]) rfl ⟨_, rfl, Kd.Q_nil _ _ _ _ _, ?_⟩
    repeat (first | exact HB0.out | refine Below.setCell ?_ (by first | (simp; done) | (simp; omega)) _ | apply below_alloc | apply pw_below_drewN)
theorem frame_Get.calls (k : Nat) (A0 : Option Addr) (c0 : Nat) (l0 : List Int) (r1 r2 : Int) (r3 : List Int) (r4 r5 : Int) (w : World) (hr0 : Kd.C (Kd.int .u8) w A0 l0.length l0) (hc0 : l0.length ≤ c0) (h : frame_Get.f k l0 = some (r1, r2, r3, r4, r5)) :
    Calls Try.prog 13 #[.slice A0 l0.length c0] w fun e w' => ∃ v2_ : Value, e = .returned (.tuple #[.agg #[.int .u8 r1, .int .u64 r2, v2_], .int .i64 r4, .int .i64 r5]) ∧ Kd.Q (Kd.int .u8) 5 w' w.heap.size (fun _ => True) v2_ r3 ∧ Below w.heap.size w w' :=
  frame_Get.walk k A0 c0 l0 r1 r2 r3 r4 r5 w hr0 hc0 h


end Go.Proofs.Ytkmanjfmffdcbaa.QFrame
