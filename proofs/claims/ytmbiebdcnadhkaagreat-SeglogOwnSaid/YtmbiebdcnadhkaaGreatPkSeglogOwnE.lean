/- The parts of this proof, one after the other (wip/tools/packall.py, shake.py). -/
import Derived.Test.YtmbiebdcnadhkaaGreatPkSeglogOwnD
import Derived.OpenShut
import Derived.Lib.Bytes
import Derived.Test.YtmbiebdcnadhkaaGreatPkSeglogOwnC
set_option linter.unusedVariables false
set_option linter.unusedSimpArgs false
namespace Go.Proofs.YtmbiebdcnadhkaaGreat.QFrame
open Go.RowKit Go.Proofs.YtmbiebdcnadhkaaGreatW.PrintWords Go.Proofs.YtmbiebdcnadhkaaGreatW.PrintLast Go.Proofs.YtmbiebdcnadhkaaGreatW.PrintMore
attribute [local go_sem] max2_int min2_int max_two min_two max_three min_three max_four min_four   -- for this text's walks alone
def frame_Put.f (k : Nat) (a0_0 : Int) (a0_1 : Int) (l0_2 : List Int) : Option (List Int × Int) := if (l0_2.length : Int) > 4096 then (some (([] : List Int), 10)) else ((nums_Put.f k (([165, a0_0] : List Int)) (IntKind.u64.wrap ((l0_2.length : Int))) 2).bind fun t118 => ((nums_Put.f k t118 a0_1 8).bind fun t121 => (if t121.length + l0_2.length < 140737488355328 then ((crc_Seal.f k (t121 ++ l0_2)).bind fun t127 => (some (t127, 0))) else (none))))
theorem frame_Put.mono : ∀ a0 a1 a2 k, LeO (frame_Put.f k a0 a1 a2) (frame_Put.f (k + 1) a0 a1 a2) := by
 intro a0 a1 a2 k
 unfold frame_Put.f
 repeat' first
   | (with_reducible exact crc_Seal.mono _ _)
   | (with_reducible exact nums_Put.mono _ _ _ _)
   | (with_reducible exact LeO.refl _)
   | (with_reducible exact LeO.none _)
   | (with_reducible refine LeO.ite ?_ ?_)
   | (with_reducible refine LeO.bind ?_ (fun _ => ?_))
   | exact crc_Seal.mono _ _
   | exact nums_Put.mono _ _ _ _
   | exact LeO.none _
   | refine LeO.ite ?_ ?_
   | refine LeO.bind ?_ (fun _ => ?_)
set_option maxHeartbeats 8000000 in
set_option maxRecDepth 100000 in
theorem frame_Put.calls (k : Nat) (a0_0 : Int) (a0_1 : Int) (A0_2 : Option Addr) (c0_2 : Nat) (l0_2 : List Int) (r1 : List Int) (r2 : Int) (w : World) (hr0_2 : Kd.C (Kd.int .u8) w A0_2 l0_2.length l0_2) (hc0_2 : l0_2.length ≤ c0_2) (h : frame_Put.f k a0_0 a0_1 l0_2 = some (r1, r2)) :
  Calls Tryz.prog 111 #[.agg #[.int .u8 a0_0, .int .u64 a0_1, .slice A0_2 l0_2.length c0_2]] w fun e w' => ∃ v0_ : Value, e = .returned (.tuple #[v0_, .int .i64 r2]) ∧ Kd.R (Kd.int .u8) 5 w' w.heap.size (fun _ => True) v0_ r1 ∧ Below w.heap.size w w' := by
 have hu134 := Tryz.underlying134
 have HR0_2 := Aside0.mk hr0_2
 have HC0_2 := Aside0.mk hc0_2
 clear hr0_2 hc0_2
 have HB := Aside0.mk (Below.refl w.heap.size w)
 have H : (if (l0_2.length : Int) > 4096 then (some (([] : List Int), 10)) else ((nums_Put.f k (([165, a0_0] : List Int)) (IntKind.u64.wrap ((l0_2.length : Int))) 2).bind fun t118 => ((nums_Put.f k t118 a0_1 8).bind fun t121 => (if t121.length + l0_2.length < 140737488355328 then ((crc_Seal.f k (t121 ++ l0_2)).bind fun t127 => (some (t127, 0))) else (none))))) = some (r1, r2) := h
 clear h
 by_cases c2 : (l0_2.length : Int) > 4096
 ·rw [if_pos c2] at H
  have c2b0 : decide (4096 < (l0_2.length : Int)) = true := decide_eq_true c2
  have c2b1 : decide (4096 < l0_2.length) = true := decide_eq_true (by omega)
  clear c2
  simp only [Option.some.injEq, Prod.mk.injEq] at H
  obtain ⟨rfl, rfl⟩ := H
  go_enter Tryz.func111, Tryz.ntmps111
  go_wp2_with (first | ((with_reducible refine gate_dst (N := 1) rfl ?_); refine box_event ?hg (N := 1) ?hd (cs := #[.int .u8 a0_0, .int .u64 a0_1, .slice A0_2 l0_2.length c0_2]) (t := 134) ?hr ?_; (case hd => rfl); (case hg => rfl); (case hr => first | (go_simp; done) | (go_simp; rfl)); intro gb114 hg w3 hbox hb; have n0_ := Aside0.mk (below_step (by repeat (first | (with_reducible first | exact HB.out | apply below_alloc | apply pw_below_drewN | apply below_drew1) | exact HB.out)) hb); have n1_ := Aside0.mk (hbox); have n2_ := Aside0.mk ((by rw [hg]; exact (below_size (by repeat (first | (with_reducible first | exact HB.out | apply below_alloc | apply pw_below_drewN | apply below_drew1) | exact HB.out))) : w.heap.size ≤ gb114)); have n3_ := Aside0.mk ((by rw [hg]; exact (below_size (by repeat (first | (with_reducible first | exact HB.out | apply below_alloc | apply pw_below_drewN | apply below_drew1) | exact HB.out))) : w.heap.size ≤ gb114)); clear HB; have HB := n0_; have BK114 := n1_; have GW114 := n2_; have GE114 := n3_; clear n0_ n1_ n2_ n3_; clear hb hbox hg; have hcz4_0 : w3.cell? ⟨gb114, 0, none⟩ = some (.int .u8 a0_0) := (blk_cell BK114.out 0).trans rfl; have hcz4_1 : w3.cell? ⟨gb114, 1, none⟩ = some (.int .u64 a0_1) := (blk_cell BK114.out 1).trans rfl; have hcz4_2 : w3.cell? ⟨gb114, 2, none⟩ = some (.slice A0_2 l0_2.length c0_2) := (blk_cell BK114.out 2).trans rfl; have hfz4_0 := blk_frozen BK114.out 0; have hfz4_1 := blk_frozen BK114.out 1; have hfz4_2 := blk_frozen BK114.out 2))
  go_ret2
  exact ⟨_, by first | rfl | (simp [errW_none, errW_some] <;> rfl) | (simp [*, errW_none, errW_some] <;> rfl), by first | exact Kd.R_nil _ _ _ _ _ | exact Kd.N_nil _ _ _ _ _ | exact Kd.V_nil _ _ _ _ _ | exact Kd.Q_nil _ _ _ _ _ | exact Kd.S_nil _ _ _ _ _, by repeat (first | (with_reducible first | exact HB.out | apply below_alloc | apply pw_below_drewN | apply below_drew1 | refine below_set ?_ GE114.out) | exact HB.out)⟩
 ·rw [if_neg c2] at H
  have c2b0 : decide (4096 < (l0_2.length : Int)) = false := decide_eq_false c2
  have c2b1 : decide (4096 < l0_2.length) = false := decide_eq_false (by omega)
  clear c2
  obtain ⟨y115, hy115⟩ : ∃ y_ : List Int, y_ = (([165, a0_0] : List Int)) := ⟨_, rfl⟩
  replace H : ((nums_Put.f k y115 (IntKind.u64.wrap ((l0_2.length : Int))) 2).bind fun t118 => ((nums_Put.f k t118 a0_1 8).bind fun t121 => (if t121.length + l0_2.length < 140737488355328 then ((crc_Seal.f k (t121 ++ l0_2)).bind fun t127 => (some (t127, 0))) else (none)))) = some (r1, r2) := by first | (rw [hy115]; with_reducible exact H) | (have H2_ := (Option.bind_some _ _).symm.trans H; rw [hy115]; with_reducible exact H2_) | (have H2_ := (Option.bind_some _ _).symm.trans H; with_reducible exact H2_) | with_reducible exact H | (rw [hy115]; exact H) | exact H
  have Ny115 := Aside0.mk hy115
  clear hy115
  replace H := Option.bind_eq_some_iff.mp H
  obtain ⟨t118, A50, H⟩ := H
  replace H : ((nums_Put.f k t118 a0_1 8).bind fun t121 => (if t121.length + l0_2.length < 140737488355328 then ((crc_Seal.f k (t121 ++ l0_2)).bind fun t127 => (some (t127, 0))) else (none))) = some (r1, r2) := H
  have A5 := Aside0.mk A50
  clear A50
  replace H := Option.bind_eq_some_iff.mp H
  obtain ⟨t121, A60, H⟩ := H
  replace H : (if t121.length + l0_2.length < 140737488355328 then ((crc_Seal.f k (t121 ++ l0_2)).bind fun t127 => (some (t127, 0))) else (none)) = some (r1, r2) := H
  have A6 := Aside0.mk A60
  clear A60
  by_cases c7 : t121.length + l0_2.length < 140737488355328
  ·rw [if_pos c7] at H
   have LMc7 := Aside0.mk c7
   clear c7
   obtain ⟨y124, hy124⟩ : ∃ y_ : List Int, y_ = (t121 ++ l0_2) := ⟨_, rfl⟩
   replace H : ((crc_Seal.f k y124).bind fun t127 => (some (t127, 0))) = some (r1, r2) := by first | (rw [hy124]; with_reducible exact H) | (have H2_ := (Option.bind_some _ _).symm.trans H; rw [hy124]; with_reducible exact H2_) | (have H2_ := (Option.bind_some _ _).symm.trans H; with_reducible exact H2_) | with_reducible exact H | (rw [hy124]; exact H) | exact H
   have Ny124 := Aside0.mk hy124
   clear hy124
   replace H := Option.bind_eq_some_iff.mp H
   obtain ⟨t127, A80, H⟩ := H
   replace H : (some (t127, 0)) = some (r1, r2) := H
   have A8 := Aside0.mk A80
   clear A80
   simp only [Option.some.injEq, Prod.mk.injEq] at H
   obtain ⟨rfl, rfl⟩ := H
   go_enter Tryz.func111, Tryz.ntmps111
   go_wp2_with (first | ((with_reducible refine gate_dst (N := 1) rfl ?_); refine box_event ?hg (N := 1) ?hd (cs := #[.int .u8 a0_0, .int .u64 a0_1, .slice A0_2 l0_2.length c0_2]) (t := 134) ?hr ?_; (case hd => rfl); (case hg => rfl); (case hr => first | (go_simp; done) | (go_simp; rfl)); intro gb114 hg w9 hbox hb; have n0_ := Aside0.mk (below_step (by repeat (first | (with_reducible first | exact HB.out | apply below_alloc | apply pw_below_drewN | apply below_drew1) | exact HB.out)) hb); have n1_ := Aside0.mk (hbox); have n2_ := Aside0.mk ((by rw [hg]; exact (below_size (by repeat (first | (with_reducible first | exact HB.out | apply below_alloc | apply pw_below_drewN | apply below_drew1) | exact HB.out))) : w.heap.size ≤ gb114)); have n3_ := Aside0.mk ((by rw [hg]; exact (below_size (by repeat (first | (with_reducible first | exact HB.out | apply below_alloc | apply pw_below_drewN | apply below_drew1) | exact HB.out))) : w.heap.size ≤ gb114)); clear HB; have HB := n0_; have BK114 := n1_; have GW114 := n2_; have GE114 := n3_; clear n0_ n1_ n2_ n3_; clear hb hbox hg; have hcz10_0 : w9.cell? ⟨gb114, 0, none⟩ = some (.int .u8 a0_0) := (blk_cell BK114.out 0).trans rfl; have hcz10_1 : w9.cell? ⟨gb114, 1, none⟩ = some (.int .u64 a0_1) := (blk_cell BK114.out 1).trans rfl; have hcz10_2 : w9.cell? ⟨gb114, 2, none⟩ = some (.slice A0_2 l0_2.length c0_2) := (blk_cell BK114.out 2).trans rfl; have hfz10_0 := blk_frozen BK114.out 0; have hfz10_1 := blk_frozen BK114.out 1; have hfz10_2 := blk_frozen BK114.out 2) | ((with_reducible refine gate_dst (N := 11) rfl ?_); refine Kd.R_lit (Kd.int .u8) _ 5 ?hg (N := 11) ?hd (xs := ([165, a0_0] : List Int)) (inner := [.int .u8 165, .int .u8 a0_0]) (ok := fun _ => True) (okp := fun _ => True) ?hr ?hp (fun _ hk => hk) trivial (Below.refl _ _) (Nat.le_refl _) (by simp) ?_; (case hd => rfl); (case hg => rfl); (case hr => first | (go_simp; done) | (go_simp; rfl)); (case hp => exact (Reps.one (show Kd.M (Kd.int .u8) _ _ _ 165 [.int .u8 165] from rfl) (Reps.one (show Kd.M (Kd.int .u8) _ _ _ a0_0 [.int .u8 a0_0] from rfl) (Reps.none _ _)))); intro v116 w11 ho12 hb hg_ hnew_; clear hg_ hnew_; (first | rw [← Ny115.out] at ho12 | (simp only [Int.reduceToNat] at ho12; rw [← Ny115.out] at ho12)); have n0_ := Aside0.mk (Kd.R_lower ho12 (below_size (by repeat (first | (with_reducible first | exact HB.out | apply below_alloc | apply pw_below_drewN | apply below_drew1 | refine below_set ?_ GE114.out) | exact HB.out)))); have n1_ := Aside0.mk (blk_below (g := gb114) (o := .cells #[.int .u8 a0_0, .int .u64 a0_1, .slice A0_2 l0_2.length c0_2] 134 (0, 0)) (by (with_reducible repeat (first | refine blk_drewN ?_ _ | refine blk_drew ?_ | refine blk_alloc ?_ _)); exact BK114.out) hb); have n2_ := Aside0.mk (below_step (by repeat (first | (with_reducible first | exact HB.out | apply below_alloc | apply pw_below_drewN | apply below_drew1 | refine below_set ?_ GE114.out) | exact HB.out)) hb); clear BK114; clear HB; have HO117 := n0_; have BK114 := n1_; have HB := n2_; clear n0_ n1_ n2_; clear hb ho12; have hcz13_0 : w11.cell? ⟨gb114, 0, none⟩ = some (.int .u8 a0_0) := (blk_cell BK114.out 0).trans rfl; have hcz13_1 : w11.cell? ⟨gb114, 1, none⟩ = some (.int .u64 a0_1) := (blk_cell BK114.out 1).trans rfl; have hcz13_2 : w11.cell? ⟨gb114, 2, none⟩ = some (.slice A0_2 l0_2.length c0_2) := (blk_cell BK114.out 2).trans rfl; have hfz13_0 := blk_frozen BK114.out 0; have hfz13_1 := blk_frozen BK114.out 1; have hfz13_2 := blk_frozen BK114.out 2; obtain ⟨Ao14, co14, eo14⟩ := Kd.R_slice HO117.out; subst eo14) | ((with_reducible refine gate_callee (f := 133) rfl ?_); refine goesL_ (some 17) rfl rfl Tryz.func133 (by kernel_rfl) rfl #[.slice Ao14 y115.length co14, .int .u64 (IntKind.u64.wrap ((l0_2.length : Int))), .int .i64 2] rfl (by (try simp only [List.map_toArray, List.map_cons, List.map_nil]); first | done | rfl | (simp only [List.length_drop, List.length_take]; rfl)) ?_; (with_reducible refine (nums_Put.calls k _ _ y115 (IntKind.u64.wrap ((l0_2.length : Int))) 2 t118 _ ?side1 ?side2 A5.out).mono ?_); (case side1 => repeat (first | exact (Kd.R_reads' HO117.out).2.2 | (with_reducible refine Kd.C_alloc ?_ _) | (with_reducible refine Kd.C_drewN ?_ _) | (with_reducible refine Kd.C_drew ?_))); (case side2 => exact (Kd.R_reads' HO117.out).2.1); rintro e w15 ⟨v119, rfl, ho0, hb⟩; refine ⟨_, rfl, ?_⟩; have n0_ := Aside0.mk (Kd.R_elder' (by (with_reducible repeat (first | apply Kd.R_alloc | apply Kd.R_drewN | apply Kd.R_drew)); exact HO117.out) (Kd.R_base ho0) hb); have n1_ := Aside0.mk (Kd.R_lower (Kd.R_new' ho0 (Kd.R_lt (by (with_reducible repeat (first | apply Kd.R_alloc | apply Kd.R_drewN | apply Kd.R_drew)); exact HO117.out))) (below_size (by repeat (first | (with_reducible first | exact HB.out | apply below_alloc | apply pw_below_drewN | apply below_drew1 | refine below_set ?_ GE114.out) | exact HB.out)))); have n2_ := Aside0.mk (blk_below (g := gb114) (o := .cells #[.int .u8 a0_0, .int .u64 a0_1, .slice A0_2 l0_2.length c0_2] 134 (0, 0)) (by (with_reducible repeat (first | refine blk_drewN ?_ _ | refine blk_drew ?_ | refine blk_alloc ?_ _)); exact BK114.out) hb); have n3_ := Aside0.mk (below_step (by repeat (first | (with_reducible first | exact HB.out | apply below_alloc | apply pw_below_drewN | apply below_drew1 | refine below_set ?_ GE114.out) | exact HB.out)) hb); clear HO117; clear BK114; clear HB; have HO117 := n0_; have HO120 := n1_; have BK114 := n2_; have HB := n3_; clear n0_ n1_ n2_ n3_; (try clear hb); (try clear hb2); (try clear hk); (try clear hi); (try clear ho0); have hcz16_0 : w15.cell? ⟨gb114, 0, none⟩ = some (.int .u8 a0_0) := (blk_cell BK114.out 0).trans rfl; have hcz16_1 : w15.cell? ⟨gb114, 1, none⟩ = some (.int .u64 a0_1) := (blk_cell BK114.out 1).trans rfl; have hcz16_2 : w15.cell? ⟨gb114, 2, none⟩ = some (.slice A0_2 l0_2.length c0_2) := (blk_cell BK114.out 2).trans rfl; have hfz16_0 := blk_frozen BK114.out 0; have hfz16_1 := blk_frozen BK114.out 1; have hfz16_2 := blk_frozen BK114.out 2; obtain ⟨Ao17, co17, eo17⟩ := Kd.R_slice HO120.out; subst eo17) | ((with_reducible refine gate_callee (f := 133) rfl ?_); refine goesL_ (some 21) rfl rfl Tryz.func133 (by kernel_rfl) rfl #[.slice Ao17 t118.length co17, .int .u64 a0_1, .int .i64 8] rfl (by (try simp only [List.map_toArray, List.map_cons, List.map_nil]); first | done | rfl | (simp only [List.length_drop, List.length_take]; rfl)) ?_; (with_reducible refine (nums_Put.calls k _ _ t118 a0_1 8 t121 _ ?side1 ?side2 A6.out).mono ?_); (case side1 => repeat (first | exact (Kd.R_reads' HO120.out).2.2 | (with_reducible refine Kd.C_alloc ?_ _) | (with_reducible refine Kd.C_drewN ?_ _) | (with_reducible refine Kd.C_drew ?_))); (case side2 => exact (Kd.R_reads' HO120.out).2.1); rintro e w18 ⟨v122, rfl, ho0, hb⟩; refine ⟨_, rfl, ?_⟩; have n0_ := Aside0.mk (Kd.R_elder' (by (with_reducible repeat (first | apply Kd.R_alloc | apply Kd.R_drewN | apply Kd.R_drew)); exact HO117.out) (Kd.R_base ho0) hb); have n1_ := Aside0.mk (Kd.R_elder' (by (with_reducible repeat (first | apply Kd.R_alloc | apply Kd.R_drewN | apply Kd.R_drew)); exact HO120.out) (Kd.R_base ho0) hb); have n2_ := Aside0.mk (Kd.R_lower (Kd.R_new' (Kd.R_new' ho0 (Kd.R_lt (by (with_reducible repeat (first | apply Kd.R_alloc | apply Kd.R_drewN | apply Kd.R_drew)); exact HO117.out))) (Kd.R_lt (by (with_reducible repeat (first | apply Kd.R_alloc | apply Kd.R_drewN | apply Kd.R_drew)); exact HO120.out))) (below_size (by repeat (first | (with_reducible first | exact HB.out | apply below_alloc | apply pw_below_drewN | apply below_drew1 | refine below_set ?_ GE114.out) | exact HB.out)))); have n3_ := Aside0.mk (blk_below (g := gb114) (o := .cells #[.int .u8 a0_0, .int .u64 a0_1, .slice A0_2 l0_2.length c0_2] 134 (0, 0)) (by (with_reducible repeat (first | refine blk_drewN ?_ _ | refine blk_drew ?_ | refine blk_alloc ?_ _)); exact BK114.out) hb); have n4_ := Aside0.mk (below_step (by repeat (first | (with_reducible first | exact HB.out | apply below_alloc | apply pw_below_drewN | apply below_drew1 | refine below_set ?_ GE114.out) | exact HB.out)) hb); clear HO117; clear HO120; clear BK114; clear HB; have HO117 := n0_; have HO120 := n1_; have HO123 := n2_; have BK114 := n3_; have HB := n4_; clear n0_ n1_ n2_ n3_ n4_; (try clear hb); (try clear hb2); (try clear hk); (try clear hi); (try clear ho0); have hcz19_0 : w18.cell? ⟨gb114, 0, none⟩ = some (.int .u8 a0_0) := (blk_cell BK114.out 0).trans rfl; have hcz19_1 : w18.cell? ⟨gb114, 1, none⟩ = some (.int .u64 a0_1) := (blk_cell BK114.out 1).trans rfl; have hcz19_2 : w18.cell? ⟨gb114, 2, none⟩ = some (.slice A0_2 l0_2.length c0_2) := (blk_cell BK114.out 2).trans rfl; have hfz19_0 := blk_frozen BK114.out 0; have hfz19_1 := blk_frozen BK114.out 1; have hfz19_2 := blk_frozen BK114.out 2) | ((with_reducible refine gate_builtin (b := .append) (xs := #[.tmp 22, .tmp 24]) rfl ?_); at_builtin; refine Kd.R_append_rows (Kd.int .u8) (w0 := w) w.heap.size rfl (.tmp 22) (.tmp 24) 25 5 (.int .u8 0) 1 rfl Tryz.underlying25 info5 rfl (by decide) (by omega) v122 t121 l0_2 _ _ _ (fun k_ => some k_ ≠ (.slice Ao14 y115.length co14 : Value).ownBlock ∧ some k_ ≠ (.slice Ao17 t118.length co17 : Value).ownBlock) (fun _ => False) rfl rfl ?aO ?aR (fun _ _ h => h) (fun _ h => h.elim) ?aF ?aB ?aS ?aL ?_; (case aR => repeat (first | exact (Kd.C_below HR0_2.out HB.out) | (with_reducible refine Kd.C_alloc ?_ _) | (with_reducible refine Kd.C_drewN ?_ _) | (with_reducible refine Kd.C_drew ?_))); (case aB => exact (by repeat (first | (with_reducible first | exact HB.out | apply below_alloc | apply pw_below_drewN | apply below_drew1 | refine below_set ?_ GE114.out) | exact HB.out))); (case aF => exact (fun k_ hk => ⟨Kd.fresh' (Kd.R_lt (by (with_reducible repeat (first | apply Kd.R_alloc | apply Kd.R_drewN | apply Kd.R_drew)); exact HO117.out)) k_ hk, Kd.fresh' (Kd.R_lt (by (with_reducible repeat (first | apply Kd.R_alloc | apply Kd.R_drewN | apply Kd.R_drew)); exact HO120.out)) k_ hk⟩)); (case aO => exact (by (with_reducible repeat (first | apply Kd.R_alloc | apply Kd.R_drewN | apply Kd.R_drew)); exact Kd.R_mono HO123.out (fun _ hk => ⟨hk.1.2, hk.2⟩))); (case aS => exact (below_size (by repeat (first | (with_reducible first | exact HB.out | apply below_alloc | apply pw_below_drewN | apply below_drew1 | refine below_set ?_ GE114.out) | exact HB.out)))); (case aL => have := LMc7.out; omega); intro v125 w20 ho hb hg hat; rw [← Ny124.out] at ho; have n0_ := Aside0.mk (blk_grown (g := gb114) (o := .cells #[.int .u8 a0_0, .int .u64 a0_1, .slice A0_2 l0_2.length c0_2] 134 (0, 0)) (by (with_reducible repeat (first | refine blk_drewN ?_ _ | refine blk_drew ?_ | refine blk_alloc ?_ _)); exact BK114.out) hg (Kd.R_ne HO123.out BK114.out (by decide))); have n1_ := Aside0.mk (Kd.R_after (ok := (fun k_ => some k_ ≠ (.slice Ao17 t118.length co17 : Value).ownBlock)) (by (with_reducible repeat (first | apply Kd.R_alloc | apply Kd.R_drewN | apply Kd.R_drew)); exact Kd.R_mono HO117.out (fun _ hk => ⟨hk.1.2, hk.2⟩)) hg hat); have n2_ := Aside0.mk (Kd.R_after (ok := (fun k_ => some k_ ≠ (.slice Ao14 y115.length co14 : Value).ownBlock)) (by (with_reducible repeat (first | apply Kd.R_alloc | apply Kd.R_drewN | apply Kd.R_drew)); exact Kd.R_mono HO120.out (fun _ hk => ⟨hk.1.2, hk.2⟩)) hg hat); have n3_ := Aside0.mk (hb); have n4_ := Aside0.mk (ho); clear BK114; clear HO117; clear HO120; clear HB; clear HO123; have BK114 := n0_; have HO117 := n1_; have HO120 := n2_; have HB := n3_; have HO126 := n4_; clear n0_ n1_ n2_ n3_ n4_; clear ho hb hg hat; obtain ⟨Ao21, co21, eo21⟩ := Kd.R_slice HO126.out; subst eo21) | ((with_reducible refine gate_callee (f := 134) rfl ?_); refine goesL_ (some 26) rfl rfl Tryz.func134 (by kernel_rfl) rfl #[.slice Ao21 y124.length co21] rfl (by (try simp only [List.map_toArray, List.map_cons, List.map_nil]); first | done | rfl | (simp only [List.length_drop, List.length_take]; rfl)) ?_; (with_reducible refine (crc_Seal.calls k _ _ y124 t127 _ ?side1 ?side2 A8.out).mono ?_); (case side1 => repeat (first | exact (Kd.R_reads' HO126.out).2.2 | (with_reducible refine Kd.C_alloc ?_ _) | (with_reducible refine Kd.C_drewN ?_ _) | (with_reducible refine Kd.C_drew ?_))); (case side2 => exact (Kd.R_reads' HO126.out).2.1); rintro e w22 ⟨v128, rfl, ho0, hb⟩; refine ⟨_, rfl, ?_⟩; have n0_ := Aside0.mk (Kd.R_elder' (by (with_reducible repeat (first | apply Kd.R_alloc | apply Kd.R_drewN | apply Kd.R_drew)); exact HO117.out) (Kd.R_base ho0) hb); have n1_ := Aside0.mk (Kd.R_elder' (by (with_reducible repeat (first | apply Kd.R_alloc | apply Kd.R_drewN | apply Kd.R_drew)); exact HO120.out) (Kd.R_base ho0) hb); have n2_ := Aside0.mk (Kd.R_elder' (by (with_reducible repeat (first | apply Kd.R_alloc | apply Kd.R_drewN | apply Kd.R_drew)); exact HO126.out) (Kd.R_base ho0) hb); have n3_ := Aside0.mk (Kd.R_lower (Kd.R_new' (Kd.R_new' (Kd.R_new' ho0 (Kd.R_lt (by (with_reducible repeat (first | apply Kd.R_alloc | apply Kd.R_drewN | apply Kd.R_drew)); exact HO117.out))) (Kd.R_lt (by (with_reducible repeat (first | apply Kd.R_alloc | apply Kd.R_drewN | apply Kd.R_drew)); exact HO120.out))) (Kd.R_lt (by (with_reducible repeat (first | apply Kd.R_alloc | apply Kd.R_drewN | apply Kd.R_drew)); exact HO126.out))) (below_size (by repeat (first | (with_reducible first | exact HB.out | apply below_alloc | apply pw_below_drewN | apply below_drew1 | refine below_set ?_ GE114.out) | exact HB.out)))); have n4_ := Aside0.mk (blk_below (g := gb114) (o := .cells #[.int .u8 a0_0, .int .u64 a0_1, .slice A0_2 l0_2.length c0_2] 134 (0, 0)) (by (with_reducible repeat (first | refine blk_drewN ?_ _ | refine blk_drew ?_ | refine blk_alloc ?_ _)); exact BK114.out) hb); have n5_ := Aside0.mk (below_step (by repeat (first | (with_reducible first | exact HB.out | apply below_alloc | apply pw_below_drewN | apply below_drew1 | refine below_set ?_ GE114.out) | exact HB.out)) hb); clear HO117; clear HO120; clear HO126; clear BK114; clear HB; have HO117 := n0_; have HO120 := n1_; have HO126 := n2_; have HO129 := n3_; have BK114 := n4_; have HB := n5_; clear n0_ n1_ n2_ n3_ n4_ n5_; (try clear hb); (try clear hb2); (try clear hk); (try clear hi); (try clear ho0)))
   go_ret2
   exact ⟨_, by first | rfl | (simp [errW_none, errW_some] <;> rfl) | (simp [*, errW_none, errW_some] <;> rfl), by (with_reducible repeat (first | apply Kd.R_alloc | apply Kd.R_drewN | apply Kd.R_drew)); exact Kd.R_mono HO129.out (fun _ hk => trivial), by repeat (first | (with_reducible first | exact HB.out | apply below_alloc | apply pw_below_drewN | apply below_drew1 | refine below_set ?_ GE114.out) | exact HB.out)⟩
  ·rw [if_neg c7] at H
   exact absurd H (by simp)
end Go.Proofs.YtmbiebdcnadhkaaGreat.QFrame
namespace Go.Proofs.YtmbiebdcnadhkaaGreat.QFrame
open Go.RowKit Go.Proofs.YtmbiebdcnadhkaaGreatW.PrintWords Go.Proofs.YtmbiebdcnadhkaaGreatW.PrintLast Go.Proofs.YtmbiebdcnadhkaaGreatW.PrintMore
attribute [local go_sem] max2_int min2_int max_two min_two max_three min_three max_four min_four   -- for this text's walks alone
def spenceref11_number.l0 : Nat → Int → List Int → Int → Int → Option (Int)
 | 0, _, _, _, _ => none
 | k + 1, x3, x6, x7, x8 => if x8 < x7 then (if 0 ≤ x8 then (if x8 < (x6.length : Int) then (spenceref11_number.l0 k (IntKind.u64.wrap ((IntKind.u64.wrap (x3 * 256)) + (IntKind.u64.wrap (rd x6 x8)))) x6 x7 (wrap64 (x8 + 1))) else (none)) else (none)) else (some x3)
def spenceref11_number.f (k : Nat) (l0 : List Int) : Option (Int) := spenceref11_number.l0 k 0 l0 (l0.length : Int) 0
theorem spenceref11_number.mono_l : ∀ k, (∀ y0 y1 y2 y3, LeO (spenceref11_number.l0 k y0 y1 y2 y3) (spenceref11_number.l0 (k + 1) y0 y1 y2 y3))
 | 0 => fun _ _ _ _ r h => by simp [spenceref11_number.l0] at h
 | k + 1 => by
  have ih0 := spenceref11_number.mono_l k
  ·intro y0 y1 y2 y3
   unfold spenceref11_number.l0
   repeat' first
   | (with_reducible exact ih0 _ _ _ _)
   | (with_reducible exact LeO.refl _)
   | (with_reducible exact LeO.none _)
   | (with_reducible refine LeO.ite ?_ ?_)
   | (with_reducible refine LeO.bind ?_ (fun _ => ?_))
   | exact ih0 _ _ _ _
   | exact LeO.none _
   | refine LeO.ite ?_ ?_
   | refine LeO.bind ?_ (fun _ => ?_)
theorem spenceref11_number.mono : ∀ a0 k, LeO (spenceref11_number.f k a0) (spenceref11_number.f (k + 1) a0) := by
 intro a0 k
 have ih0 := spenceref11_number.mono_l k
 unfold spenceref11_number.f
 repeat' first
   | (with_reducible exact ih0 _ _ _ _)
   | (with_reducible exact LeO.refl _)
   | (with_reducible exact LeO.none _)
   | (with_reducible refine LeO.ite ?_ ?_)
   | (with_reducible refine LeO.bind ?_ (fun _ => ?_))
   | exact ih0 _ _ _ _
   | exact LeO.none _
   | refine LeO.ite ?_ ?_
   | refine LeO.bind ?_ (fun _ => ?_)
end Go.Proofs.YtmbiebdcnadhkaaGreat.QFrame
namespace Go.Proofs.YtmbiebdcnadhkaaGreat.QFrame
open Go.RowKit Go.Proofs.YtmbiebdcnadhkaaGreatW.PrintWords Go.Proofs.YtmbiebdcnadhkaaGreatW.PrintLast Go.Proofs.YtmbiebdcnadhkaaGreatW.PrintMore
attribute [local go_sem] max2_int min2_int max_two min_two max_three min_three max_four min_four   -- for this text's walks alone
mutual
def spenceref11_Parse.j0 : Nat → List Int → Bool → Option (Int × Int × List Int × Int × Int)
 | 0, _, _ => none
 | k + 1, x0, x15 => if x15 = true then (some (0, 0, ([] : List Int), 0, 13)) else (if 0 < (x0.length : Int) then (if (rd x0 0) = 165 then (spenceref11_Parse.j1 k x0 (decide ((x0.length : Int) < 16))) else (spenceref11_Parse.j1 k x0 true)) else (none))
def spenceref11_Parse.j1 : Nat → List Int → Bool → Option (Int × Int × List Int × Int × Int)
 | 0, _, _ => none
 | k + 1, x0, x25 => if x25 = true then (some (0, 0, ([] : List Int), 0, 3)) else (if 2 ≤ 4 then (if 4 ≤ (x0.length : Int) then ((spenceref11_number.f k ((x0.take 4).drop 2)).bind fun t190 => (if (wrap64 (t190)) > 4096 then (spenceref11_Parse.j2 k x0 (wrap64 (t190)) true) else (spenceref11_Parse.j2 k x0 (wrap64 (t190)) (decide ((wrap64 ((wrap64 (t190)) + 16)) > (x0.length : Int)))))) else (none)) else (none))
def spenceref11_Parse.j2 : Nat → List Int → Int → Bool → Option (Int × Int × List Int × Int × Int)
 | 0, _, _, _ => none
 | k + 1, x0, x5, x39 => if x39 = true then (some (0, 0, ([] : List Int), 0, 3)) else (if 12 ≤ (wrap64 (12 + x5)) then (if (wrap64 (12 + x5)) ≤ (x0.length : Int) then (if 0 ≤ (wrap64 (12 + x5)) then ((spenceref01_Seal.f k (x0.take ((wrap64 (12 + x5)) : Int).toNat)).bind fun t193 => (if 0 ≤ (wrap64 (16 + x5)) then (if (wrap64 (16 + x5)) ≤ (x0.length : Int) then ((spenceref01_Bytes.f k t193 (x0.take ((wrap64 (16 + x5)) : Int).toNat)).bind fun t197 => (if t197 = true then (if 1 < (x0.length : Int) then (if 4 ≤ 12 then (if 12 ≤ (x0.length : Int) then ((spenceref11_number.f k ((x0.take 12).drop 4)).bind fun t200 => (if ([] : List Int).length + ((x0.take ((wrap64 (12 + x5)) : Int).toNat).drop 12).length < 140737488355328 then (some (rd x0 1, t200, (([] : List Int) ++ ((x0.take ((wrap64 (12 + x5)) : Int).toNat).drop 12)), wrap64 (x5 + 16), 0)) else (none))) else (none)) else (none)) else (none)) else (some (0, 0, ([] : List Int), 0, 4)))) else (none)) else (none))) else (none)) else (none)) else (none))
end
def spenceref11_Parse.f (k : Nat) (l0 : List Int) : Option (Int × Int × List Int × Int × Int) := if (l0.length : Int) = 0 then (spenceref11_Parse.j0 k l0 true) else (if 0 < (l0.length : Int) then (spenceref11_Parse.j0 k l0 ((rd l0 0) == 255)) else (none))
theorem spenceref11_Parse.mono_l : ∀ k, (∀ y0 y1, LeO (spenceref11_Parse.j0 k y0 y1) (spenceref11_Parse.j0 (k + 1) y0 y1)) ∧ (∀ y0 y1, LeO (spenceref11_Parse.j1 k y0 y1) (spenceref11_Parse.j1 (k + 1) y0 y1)) ∧ (∀ y0 y1 y2, LeO (spenceref11_Parse.j2 k y0 y1 y2) (spenceref11_Parse.j2 (k + 1) y0 y1 y2))
 | 0 => ⟨fun _ _ r h => by simp [spenceref11_Parse.j0] at h, fun _ _ r h => by simp [spenceref11_Parse.j1] at h, fun _ _ _ r h => by simp [spenceref11_Parse.j2] at h⟩
 | k + 1 => by
  obtain ⟨ih0, ih1, ih2⟩ := spenceref11_Parse.mono_l k
  refine ⟨?_, ?_, ?_⟩
  ·intro y0 y1
   unfold spenceref11_Parse.j0
   repeat' first
   | (with_reducible exact ih0 _ _)
   | (with_reducible exact ih1 _ _)
   | (with_reducible exact ih2 _ _ _)
   | (with_reducible exact spenceref01_Bytes.mono _ _ _)
   | (with_reducible exact spenceref01_Seal.mono _ _)
   | (with_reducible exact spenceref11_number.mono _ _)
   | (with_reducible exact LeO.refl _)
   | (with_reducible exact LeO.none _)
   | (with_reducible refine LeO.ite ?_ ?_)
   | (with_reducible refine LeO.bind ?_ (fun _ => ?_))
   | exact ih0 _ _
   | exact ih1 _ _
   | exact ih2 _ _ _
   | exact spenceref01_Bytes.mono _ _ _
   | exact spenceref01_Seal.mono _ _
   | exact spenceref11_number.mono _ _
   | exact LeO.none _
   | refine LeO.ite ?_ ?_
   | refine LeO.bind ?_ (fun _ => ?_)
  ·intro y0 y1
   unfold spenceref11_Parse.j1
   repeat' first
   | (with_reducible exact ih0 _ _)
   | (with_reducible exact ih1 _ _)
   | (with_reducible exact ih2 _ _ _)
   | (with_reducible exact spenceref01_Bytes.mono _ _ _)
   | (with_reducible exact spenceref01_Seal.mono _ _)
   | (with_reducible exact spenceref11_number.mono _ _)
   | (with_reducible exact LeO.refl _)
   | (with_reducible exact LeO.none _)
   | (with_reducible refine LeO.ite ?_ ?_)
   | (with_reducible refine LeO.bind ?_ (fun _ => ?_))
   | exact ih0 _ _
   | exact ih1 _ _
   | exact ih2 _ _ _
   | exact spenceref01_Bytes.mono _ _ _
   | exact spenceref01_Seal.mono _ _
   | exact spenceref11_number.mono _ _
   | exact LeO.none _
   | refine LeO.ite ?_ ?_
   | refine LeO.bind ?_ (fun _ => ?_)
  ·intro y0 y1 y2
   unfold spenceref11_Parse.j2
   repeat' first
   | (with_reducible exact ih0 _ _)
   | (with_reducible exact ih1 _ _)
   | (with_reducible exact ih2 _ _ _)
   | (with_reducible exact spenceref01_Bytes.mono _ _ _)
   | (with_reducible exact spenceref01_Seal.mono _ _)
   | (with_reducible exact spenceref11_number.mono _ _)
   | (with_reducible exact LeO.refl _)
   | (with_reducible exact LeO.none _)
   | (with_reducible refine LeO.ite ?_ ?_)
   | (with_reducible refine LeO.bind ?_ (fun _ => ?_))
   | exact ih0 _ _
   | exact ih1 _ _
   | exact ih2 _ _ _
   | exact spenceref01_Bytes.mono _ _ _
   | exact spenceref01_Seal.mono _ _
   | exact spenceref11_number.mono _ _
   | exact LeO.none _
   | refine LeO.ite ?_ ?_
   | refine LeO.bind ?_ (fun _ => ?_)
theorem spenceref11_Parse.mono : ∀ a0 k, LeO (spenceref11_Parse.f k a0) (spenceref11_Parse.f (k + 1) a0) := by
 intro a0 k
 obtain ⟨ih0, ih1, ih2⟩ := spenceref11_Parse.mono_l k
 unfold spenceref11_Parse.f
 repeat' first
   | (with_reducible exact ih0 _ _)
   | (with_reducible exact ih1 _ _)
   | (with_reducible exact ih2 _ _ _)
   | (with_reducible exact spenceref01_Bytes.mono _ _ _)
   | (with_reducible exact spenceref01_Seal.mono _ _)
   | (with_reducible exact spenceref11_number.mono _ _)
   | (with_reducible exact LeO.refl _)
   | (with_reducible exact LeO.none _)
   | (with_reducible refine LeO.ite ?_ ?_)
   | (with_reducible refine LeO.bind ?_ (fun _ => ?_))
   | exact ih0 _ _
   | exact ih1 _ _
   | exact ih2 _ _ _
   | exact spenceref01_Bytes.mono _ _ _
   | exact spenceref01_Seal.mono _ _
   | exact spenceref11_number.mono _ _
   | exact LeO.none _
   | refine LeO.ite ?_ ?_
   | refine LeO.bind ?_ (fun _ => ?_)
end Go.Proofs.YtmbiebdcnadhkaaGreat.QFrame
namespace Go.Proofs.YtmbiebdcnadhkaaGreat.FrameFacts
open Go.RowKit Go.Proofs.YtmbiebdcnadhkaaGreatW.PrintWords Go.Proofs.YtmbiebdcnadhkaaGreatW.PrintLast Go.Proofs.YtmbiebdcnadhkaaGreatW.PrintMore Go.Proofs.YtmbiebdcnadhkaaGreat.QFrame Go.Proofs.YtmbiebdcnadhkaaGreat.NumMath Go.Proofs.YtmbiebdcnadhkaaGreat.NumFacts
open Go.Proofs.YtmbiebdcnadhkaaGreat.CrcFacts (le4 le4_len le4_byt sum nb opened seal_is refseal_is bytes_is)
theorem fits_is (a b c : Int) : nums_Fits.f a b c = some (decide (b ≤ a ∧ a ≤ c)) := by
 unfold nums_Fits.f
 by_cases h : a ≥ b
 ·rw [if_pos h]; congr 1; exact decide_eq_decide.2 ⟨fun h2 => ⟨h, h2⟩, fun h2 => h2.2⟩
 ·rw [if_neg h, decide_eq_false (by omega)]
def dl (l : List Int) : Nat := be ((l.drop 2).take 2)
def head (l : List Int) : Int := if l.length = 0 then 13 else if rd l 0 = 255 then 13 else if rd l 0 = 165 ∧ 16 ≤ l.length ∧ dl l ≤ 4096 ∧ dl l + 16 ≤ l.length then 0 else 3
def bare (kind seq : Int) (l : List Int) : List Int := [165, kind] ++ bb l.length 2 ++ bb seq.toNat 8 ++ l
theorem bare_len (kind seq : Int) (l : List Int) : (bare kind seq l).length = l.length + 12 := by simp [bare, bb_len]; omega
theorem bare_byt (kind seq : Int) (l : List Int) (hk : 0 ≤ kind ∧ kind ≤ 255) (hl : Byt l) : Byt (bare kind seq l) := by
 refine Byt.app (Byt.app (Byt.app ?_ (bb_byt _ _)) (bb_byt _ _)) hl
 intro x hx
 simp at hx
 rcases hx with h | h <;> omega
theorem put_frame (k : Nat) (kind seq : Int) (l : List Int) (hkd : 0 ≤ kind ∧ kind ≤ 255) (hs : 0 ≤ seq ∧ seq ≤ 18446744073709551615) (hl : Byt l) (hm : l.length ≤ 4096) (hk : l.length + 100 ≤ k) : frame_Put.f k kind seq l = some (bare kind seq l ++ le4 (sum (nb (bare kind seq l))), 0) := by
 obtain ⟨s, rfl⟩ := Int.eq_ofNat_of_zero_le hs.1
 unfold frame_Put.f
 rw [if_neg (by omega), u64_wrap _ (by omega) (by omega), show (2 : Int) = ((2 : Nat) : Int) from rfl, put_is k l.length 2 [165, kind] (by omega) (by simp) (by omega), Option.bind_some, show (8 : Int) = ((8 : Nat) : Int) from rfl, put_is k s 8 _ (by omega) (by simp [bb_len]) (by omega), Option.bind_some, if_pos (by simp [bb_len]; omega)]
 have e : [165, kind] ++ bb l.length 2 ++ bb s 8 ++ l = bare kind (s : Int) l := rfl
 rw [e, seal_is k _ (bare_byt kind (s : Int) l hkd hl) (by rw [bare_len]; omega) (by rw [bare_len]; omega)]
 rfl
end Go.Proofs.YtmbiebdcnadhkaaGreat.FrameFacts
namespace Go.Proofs.YtmbiebdcnadhkaaGreat.QFrame
open Go.RowKit Go.Proofs.YtmbiebdcnadhkaaGreatW.PrintWords Go.Proofs.YtmbiebdcnadhkaaGreatW.PrintLast Go.Proofs.YtmbiebdcnadhkaaGreatW.PrintMore
attribute [local go_sem] max2_int min2_int max_two min_two max_three min_three max_four min_four   -- for this text's walks alone
def spenceref01_Lay.l0 : Nat → Int → Int → List Int → Int → Option (List Int)
 | 0, _, _, _, _ => none
 | k + 1, x0, x1, x5, x6 => if x6 < 8 then (if x6 ≥ (wrap64 (8 - x1)) then (if 0 ≤ (wrap64 (56 - (wrap64 (8 * x6)))) then (if x5.length < 140737488355328 then (spenceref01_Lay.l0 k x0 x1 (x5 ++ [(shr .u64 x0 (wrap64 (56 - (wrap64 (8 * x6))))) % 256]) (wrap64 (x6 + 1))) else (none)) else (none)) else (spenceref01_Lay.l0 k x0 x1 x5 (wrap64 (x6 + 1)))) else (some x5)
def spenceref01_Lay.f (k : Nat) (a0 : Int) (a1 : Int) : Option (List Int) := spenceref01_Lay.l0 k a0 a1 ([] : List Int) 0
theorem spenceref01_Lay.mono_l : ∀ k, (∀ y0 y1 y2 y3, LeO (spenceref01_Lay.l0 k y0 y1 y2 y3) (spenceref01_Lay.l0 (k + 1) y0 y1 y2 y3))
 | 0 => fun _ _ _ _ r h => by simp [spenceref01_Lay.l0] at h
 | k + 1 => by
  have ih0 := spenceref01_Lay.mono_l k
  ·intro y0 y1 y2 y3
   unfold spenceref01_Lay.l0
   repeat' first
   | (with_reducible exact ih0 _ _ _ _)
   | (with_reducible exact LeO.refl _)
   | (with_reducible exact LeO.none _)
   | (with_reducible refine LeO.ite ?_ ?_)
   | (with_reducible refine LeO.bind ?_ (fun _ => ?_))
   | exact ih0 _ _ _ _
   | exact LeO.none _
   | refine LeO.ite ?_ ?_
   | refine LeO.bind ?_ (fun _ => ?_)
theorem spenceref01_Lay.mono : ∀ a0 a1 k, LeO (spenceref01_Lay.f k a0 a1) (spenceref01_Lay.f (k + 1) a0 a1) := by
 intro a0 a1 k
 have ih0 := spenceref01_Lay.mono_l k
 unfold spenceref01_Lay.f
 repeat' first
   | (with_reducible exact ih0 _ _ _ _)
   | (with_reducible exact LeO.refl _)
   | (with_reducible exact LeO.none _)
   | (with_reducible refine LeO.ite ?_ ?_)
   | (with_reducible refine LeO.bind ?_ (fun _ => ?_))
   | exact ih0 _ _ _ _
   | exact LeO.none _
   | refine LeO.ite ?_ ?_
   | refine LeO.bind ?_ (fun _ => ?_)
set_option maxHeartbeats 8000000 in
set_option maxRecDepth 100000 in
theorem spenceref01_Lay.calls (k : Nat) (a0 : Int) (a1 : Int) (r : List Int) (w : World) (h : spenceref01_Lay.f k a0 a1 = some r) :
  Calls Tryz.prog 138 #[.int .u64 a0, .int .i64 a1] w fun e w' => ∃ v0_ : Value, e = .returned (v0_) ∧ Kd.R (Kd.int .u8) 5 w' w.heap.size (fun _ => True) v0_ r ∧ Below w.heap.size w w' := by
 have HB := Aside0.mk (Below.refl w.heap.size w)
 have H : (spenceref01_Lay.l0 k a0 a1 ([] : List Int) 0) = some r := h
 clear h
 have H' := Aside0.mk H
 clear H
 go_enter Tryz.func138, Tryz.ntmps138
 go_wp2
 go_loopg [5, 6] k (fun kq v5 v6 w' => ∃ (x5_1 : List Int) (x6_1 : Int), v6 = .int .i64 x6_1 ∧ Aside0 (spenceref01_Lay.l0 kq a0 a1 x5_1 x6_1 = some r) ∧ Aside0 (kq ≤ k) ∧ Aside0 (Kd.R (Kd.int .u8) 5 w' w.heap.size (fun _ => True) v5 x5_1) ∧ Aside0 (Below w.heap.size w w'))
 case atStart => exact ⟨(([] : List Int)), (0), (by first | rfl | (simp; done) | (simp [*]; done)), H', ⟨Nat.le_refl _⟩, ⟨by first | exact Kd.R_nil _ _ _ _ _ | exact Kd.N_nil _ _ _ _ _ | exact Kd.V_nil _ _ _ _ _ | exact Kd.Q_nil _ _ _ _ _ | exact Kd.S_nil _ _ _ _ _⟩, ⟨by repeat (first | (with_reducible first | exact HB.out | apply below_alloc | apply pw_below_drewN | apply below_drew1) | exact HB.out)⟩⟩
 case round =>
  clear H'
  try clear c1
  try clear p2
  obtain ⟨x5_1, x6_1, rfl, HA, HK1, HO_5, HB⟩ := hrel
  cases gk with
  | zero => exact absurd HA.out (by simp [spenceref01_Lay.l0])
  | succ k1 =>
   have H := HA.out
   clear HA
   simp only [spenceref01_Lay.l0] at H
   by_cases c3 : x6_1 < 8
   ·rw [if_pos c3] at H
    have c3b0 : decide (x6_1 < 8) = true := decide_eq_true c3
    clear c3
    by_cases c4 : x6_1 ≥ (wrap64 (8 - a1))
    ·rw [if_pos c4] at H
     have c4b0 : decide ((wrap64 (8 - a1)) ≤ x6_1) = true := decide_eq_true c4
     clear c4
     obtain ⟨ji5, hji5⟩ : ∃ j_ : Int, (wrap64 (56 - (wrap64 (8 * x6_1)))) = j_ := ⟨_, rfl⟩
     replace H : (if 0 ≤ (ji5) then (if x5_1.length < 140737488355328 then (spenceref01_Lay.l0 k1 a0 a1 (x5_1 ++ [(shr .u64 a0 (ji5)) % 256]) (wrap64 (x6_1 + 1))) else (none)) else (none)) = some r := by first | (rw [hji5] at H; exact H) | (simp only [hji5] at H ⊢; exact H)
     have hji5w : (IntKind.i64.wrap (56 - (wrap64 (8 * x6_1)))) = ji5 := (i64_w _).trans hji5
     by_cases c6 : 0 ≤ (ji5)
     ·rw [if_pos c6] at H
      have c6b0 := eq_true c6
      have c6b1 : decide (0 ≤ (ji5)) = true := decide_eq_true c6
      clear c6
      obtain ⟨ji7, hji7⟩ : ∃ j_ : Int, (shr .u64 a0 (ji5)) = j_ := ⟨_, rfl⟩
      replace H : (if x5_1.length < 140737488355328 then (spenceref01_Lay.l0 k1 a0 a1 (x5_1 ++ [(ji7) % 256]) (wrap64 (x6_1 + 1))) else (none)) = some r := by first | (rw [hji7] at H; exact H) | (simp only [hji7] at H ⊢; exact H)
      have hji7_ : (a0 / 2 ^ min (ji5).toNat 64) = ji7 := hji7
      have hji7z : (ji5) ≤ 64 → (a0 / 2 ^ (ji5).toNat) = ji7 := shr_small hji7
      by_cases c8 : x5_1.length < 140737488355328
      ·rw [if_pos c8] at H
       have LMc8 := Aside0.mk c8
       clear c8
       obtain ⟨y142, hy142⟩ : ∃ y_ : List Int, y_ = (x5_1 ++ [(ji7) % 256]) := ⟨_, rfl⟩
       replace H : (spenceref01_Lay.l0 k1 a0 a1 y142 (wrap64 (x6_1 + 1))) = some r := by first | (rw [hy142]; with_reducible exact H) | (have H2_ := (Option.bind_some _ _).symm.trans H; rw [hy142]; with_reducible exact H2_) | (have H2_ := (Option.bind_some _ _).symm.trans H; with_reducible exact H2_) | with_reducible exact H | (rw [hy142]; exact H) | exact H
       have Ny142 := Aside0.mk hy142
       clear hy142
       have H' := Aside0.mk H
       clear H
       go_wp2_with (first | ((with_reducible refine gate_builtin (b := .append) (xs := #[.tmp 15, .tmp 22]) rfl ?_); at_builtin; refine Kd.R_append (Kd.int .u8) (w0 := w) w.heap.size rfl (.tmp 15) (.tmp 22) 25 5 (.int .u8 0) 1 rfl Tryz.underlying25 info5 rfl (by decide) (by omega) u5 x5_1 ((ji7) % 256) [.int .u8 ((ji7) % 256)] (fun _ => True) (fun _ => False) rfl rfl ?aP (fun _ hk => hk.elim) ?aF ?aO ?aB ?aS ?aL ?_; (case aP => exact rfl); (case aB => exact (by repeat (first | (with_reducible first | exact HB.out | apply below_alloc | apply pw_below_drewN | apply below_drew1) | exact HB.out))); (case aF => exact (fun _ _ => trivial)); (case aO => exact (by (with_reducible repeat (first | apply Kd.R_alloc | apply Kd.R_drewN | apply Kd.R_drew)); exact HO_5.out)); (case aS => exact (below_size (by repeat (first | (with_reducible first | exact HB.out | apply below_alloc | apply pw_below_drewN | apply below_drew1) | exact HB.out)))); (case aL => have := LMc8.out; omega); intro v143 w9 ho hb hg hat; rw [← Ny142.out] at ho; have n0_ := Aside0.mk (hb); have n1_ := Aside0.mk (ho); clear HB; clear HO_5; have HB := n0_; have HO144 := n1_; clear n0_ n1_; clear ho hb hg hat))
       go_roundg k1
       case measure => have := HK1.out; omega
       case rel => exact ⟨(y142), (wrap64 (x6_1 + 1)), (by first | rfl | (simp; done) | (simp [*]; done)), H', ⟨by have := HK1.out; omega⟩, ⟨by (with_reducible repeat (first | apply Kd.R_alloc | apply Kd.R_drewN | apply Kd.R_drew)); exact HO144.out⟩, ⟨by repeat (first | (with_reducible first | exact HB.out | apply below_alloc | apply pw_below_drewN | apply below_drew1) | exact HB.out)⟩⟩
      ·rw [if_neg c8] at H
       exact absurd H (by simp)
     ·rw [if_neg c6] at H
      exact absurd H (by simp)
    ·rw [if_neg c4] at H
     have c4b0 : decide ((wrap64 (8 - a1)) ≤ x6_1) = false := decide_eq_false c4
     clear c4
     have H' := Aside0.mk H
     clear H
     go_wp2
     go_roundg k1
     case measure => have := HK1.out; omega
     case rel => exact ⟨(x5_1), (wrap64 (x6_1 + 1)), (by first | rfl | (simp; done) | (simp [*]; done)), H', ⟨by have := HK1.out; omega⟩, ⟨by (with_reducible repeat (first | apply Kd.R_alloc | apply Kd.R_drewN | apply Kd.R_drew)); exact HO_5.out⟩, ⟨by repeat (first | (with_reducible first | exact HB.out | apply below_alloc | apply pw_below_drewN | apply below_drew1) | exact HB.out)⟩⟩
   ·rw [if_neg c3] at H
    have c3b0 : decide (x6_1 < 8) = false := decide_eq_false c3
    clear c3
    obtain rfl := Option.some.inj H
    go_wp2
    all_goals
     go_ret
     exact ⟨_, by first | rfl | (simp [errW_none, errW_some] <;> rfl) | (simp [*, errW_none, errW_some] <;> rfl), by (with_reducible repeat (first | apply Kd.R_alloc | apply Kd.R_drewN | apply Kd.R_drew)); exact HO_5.out, by repeat (first | (with_reducible first | exact HB.out | apply below_alloc | apply pw_below_drewN | apply below_drew1) | exact HB.out)⟩
end Go.Proofs.YtmbiebdcnadhkaaGreat.QFrame
namespace Go.Proofs.YtmbiebdcnadhkaaGreat.NumFacts
open Go.RowKit Go.Proofs.YtmbiebdcnadhkaaGreatW.PrintWords Go.Proofs.YtmbiebdcnadhkaaGreatW.PrintLast Go.Proofs.YtmbiebdcnadhkaaGreatW.PrintMore Go.Proofs.YtmbiebdcnadhkaaGreat.QFrame Go.Proofs.YtmbiebdcnadhkaaGreat.NumMath
theorem lay_loop (d : Nat) : ∀ (k n c i : Nat) (l : List Int), i + d = 8 → c ≤ 8 → l.length + d ≤ 1000000 → d < k → spenceref01_Lay.l0 k (n : Int) (c : Int) l (i : Int) = some (l ++ bb n (min c d)) := by
 induction d with
 | zero =>
  intro k n c i l hi hc hl hk
  obtain ⟨k, rfl⟩ : ∃ m, k = m + 1 := ⟨k - 1, by omega⟩
  simp only [spenceref01_Lay.l0]
  rw [if_neg (by omega), Nat.min_zero]
  simp [bb]
 | succ d ih =>
  intro k n c i l hi hc hl hk
  obtain ⟨k, rfl⟩ : ∃ m, k = m + 1 := ⟨k - 1, by omega⟩
  simp only [spenceref01_Lay.l0]
  have e1 : wrap64 (8 * (i : Int)) = 8 * (i : Int) := wr (by omega) (by omega)
  have e2 : wrap64 (56 - 8 * (i : Int)) = 8 * (d : Int) := by rw [wr (by omega) (by omega)]; omega
  rw [if_pos (by omega), wr (a := 8 - (c : Int)) (by omega) (by omega), e1, e2, wr (a := (i : Int) + 1) (by omega) (by omega), show (i : Int) + 1 = ((i + 1 : Nat) : Int) by omega]
  by_cases h : (i : Int) ≥ 8 - (c : Int)
  ·rw [if_pos h, if_pos (by omega), if_pos (by omega), shr8 n d (by omega), ih k n c (i + 1) _ (by omega) hc (by simp; omega) (by omega), Nat.min_eq_right (by omega), Nat.min_eq_right (by omega), List.append_assoc]
   simp [bb]
  ·rw [if_neg h, ih k n c (i + 1) _ (by omega) hc (by omega) (by omega), Nat.min_eq_left (by omega), Nat.min_eq_left (by omega)]
theorem lay_is (k n c : Nat) (hc : c ≤ 8) (hk : 9 ≤ k) : spenceref01_Lay.f k (n : Int) (c : Int) = some (bb n c) := by
 have h := lay_loop 8 k n c 0 [] rfl hc (by simp) (by omega)
 rw [Nat.min_eq_left hc, List.nil_append] at h
 exact h
end Go.Proofs.YtmbiebdcnadhkaaGreat.NumFacts
namespace Go.Proofs.YtmbiebdcnadhkaaGreat.QFrame
open Go.RowKit Go.Proofs.YtmbiebdcnadhkaaGreatW.PrintWords Go.Proofs.YtmbiebdcnadhkaaGreatW.PrintLast Go.Proofs.YtmbiebdcnadhkaaGreatW.PrintMore
attribute [local go_sem] max2_int min2_int max_two min_two max_three min_three max_four min_four   -- for this text's walks alone
def spenceref11_Frame.f (k : Nat) (a0 : Int) (a1 : Int) (l2 : List Int) : Option (List Int) := if (l2.length : Int) > 4096 then (some ([] : List Int)) else ((some (([165, a0] : List Int) : List Int)).bind fun y145 => ((spenceref01_Lay.f k (IntKind.u64.wrap ((l2.length : Int))) 2).bind fun t148 => (if y145.length + t148.length < 140737488355328 then ((some (y145 ++ t148 : List Int)).bind fun y151 => ((spenceref01_Lay.f k a1 8).bind fun t154 => (if y151.length + t154.length < 140737488355328 then ((some (y151 ++ t154 : List Int)).bind fun y157 => (if y157.length + l2.length < 140737488355328 then ((spenceref01_Seal.f k (y157 ++ l2)).bind fun t163 => (some t163)) else (none))) else (none)))) else (none))))
theorem spenceref11_Frame.mono : ∀ a0 a1 a2 k, LeO (spenceref11_Frame.f k a0 a1 a2) (spenceref11_Frame.f (k + 1) a0 a1 a2) := by
 intro a0 a1 a2 k
 unfold spenceref11_Frame.f
 repeat' first
   | (with_reducible exact spenceref01_Lay.mono _ _ _)
   | (with_reducible exact spenceref01_Seal.mono _ _)
   | (with_reducible exact LeO.refl _)
   | (with_reducible exact LeO.none _)
   | (with_reducible refine LeO.ite ?_ ?_)
   | (with_reducible refine LeO.bind ?_ (fun _ => ?_))
   | exact spenceref01_Lay.mono _ _ _
   | exact spenceref01_Seal.mono _ _
   | exact LeO.none _
   | refine LeO.ite ?_ ?_
   | refine LeO.bind ?_ (fun _ => ?_)
set_option maxHeartbeats 8000000 in
set_option maxRecDepth 100000 in
theorem spenceref11_Frame.calls (k : Nat) (a0 : Int) (a1 : Int) (A2 : Option Addr) (c2 : Nat) (l2 : List Int) (r : List Int) (w : World) (hr2 : Kd.C (Kd.int .u8) w A2 l2.length l2) (hc2 : l2.length ≤ c2) (h : spenceref11_Frame.f k a0 a1 l2 = some r) :
  Calls Tryz.prog 118 #[.int .u8 a0, .int .u64 a1, .slice A2 l2.length c2] w fun e w' => ∃ v0_ : Value, e = .returned (v0_) ∧ Kd.R (Kd.int .u8) 5 w' w.heap.size (fun _ => True) v0_ r ∧ Below w.heap.size w w' := by
 have HR2 := Aside0.mk hr2
 have HC2 := Aside0.mk hc2
 clear hr2 hc2
 have HB := Aside0.mk (Below.refl w.heap.size w)
 have H : (if (l2.length : Int) > 4096 then (some ([] : List Int)) else ((some (([165, a0] : List Int) : List Int)).bind fun y145 => ((spenceref01_Lay.f k (IntKind.u64.wrap ((l2.length : Int))) 2).bind fun t148 => (if y145.length + t148.length < 140737488355328 then ((some (y145 ++ t148 : List Int)).bind fun y151 => ((spenceref01_Lay.f k a1 8).bind fun t154 => (if y151.length + t154.length < 140737488355328 then ((some (y151 ++ t154 : List Int)).bind fun y157 => (if y157.length + l2.length < 140737488355328 then ((spenceref01_Seal.f k (y157 ++ l2)).bind fun t163 => (some t163)) else (none))) else (none)))) else (none))))) = some r := h
 clear h
 by_cases c4 : (l2.length : Int) > 4096
 ·rw [if_pos c4] at H
  have c4b0 : decide (4096 < (l2.length : Int)) = true := decide_eq_true c4
  have c4b1 : decide (4096 < l2.length) = true := decide_eq_true (by omega)
  clear c4
  obtain rfl := Option.some.inj H
  go_enter Tryz.func118, Tryz.ntmps118
  go_wp2
  all_goals
   go_ret
   exact ⟨_, by first | rfl | (simp [errW_none, errW_some] <;> rfl) | (simp [*, errW_none, errW_some] <;> rfl), by first | exact Kd.R_nil _ _ _ _ _ | exact Kd.N_nil _ _ _ _ _ | exact Kd.V_nil _ _ _ _ _ | exact Kd.Q_nil _ _ _ _ _ | exact Kd.S_nil _ _ _ _ _, by repeat (first | (with_reducible first | exact HB.out | apply below_alloc | apply pw_below_drewN | apply below_drew1) | exact HB.out)⟩
 ·rw [if_neg c4] at H
  have c4b0 : decide (4096 < (l2.length : Int)) = false := decide_eq_false c4
  have c4b1 : decide (4096 < l2.length) = false := decide_eq_false (by omega)
  clear c4
  obtain ⟨y145, hy145⟩ : ∃ y_ : List Int, y_ = (([165, a0] : List Int)) := ⟨_, rfl⟩
  replace H : ((spenceref01_Lay.f k (IntKind.u64.wrap ((l2.length : Int))) 2).bind fun t148 => (if y145.length + t148.length < 140737488355328 then ((some (y145 ++ t148 : List Int)).bind fun y151 => ((spenceref01_Lay.f k a1 8).bind fun t154 => (if y151.length + t154.length < 140737488355328 then ((some (y151 ++ t154 : List Int)).bind fun y157 => (if y157.length + l2.length < 140737488355328 then ((spenceref01_Seal.f k (y157 ++ l2)).bind fun t163 => (some t163)) else (none))) else (none)))) else (none))) = some r := by first | (rw [hy145]; with_reducible exact H) | (have H2_ := (Option.bind_some _ _).symm.trans H; rw [hy145]; with_reducible exact H2_) | (have H2_ := (Option.bind_some _ _).symm.trans H; with_reducible exact H2_) | with_reducible exact H | (rw [hy145]; exact H) | exact H
  have Ny145 := Aside0.mk hy145
  clear hy145
  replace H := Option.bind_eq_some_iff.mp H
  obtain ⟨t148, A50, H⟩ := H
  replace H : (if y145.length + t148.length < 140737488355328 then ((some (y145 ++ t148 : List Int)).bind fun y151 => ((spenceref01_Lay.f k a1 8).bind fun t154 => (if y151.length + t154.length < 140737488355328 then ((some (y151 ++ t154 : List Int)).bind fun y157 => (if y157.length + l2.length < 140737488355328 then ((spenceref01_Seal.f k (y157 ++ l2)).bind fun t163 => (some t163)) else (none))) else (none)))) else (none)) = some r := H
  have A5 := Aside0.mk A50
  clear A50
  by_cases c6 : y145.length + t148.length < 140737488355328
  ·rw [if_pos c6] at H
   have LMc6 := Aside0.mk c6
   clear c6
   obtain ⟨y151, hy151⟩ : ∃ y_ : List Int, y_ = (y145 ++ t148) := ⟨_, rfl⟩
   replace H : ((spenceref01_Lay.f k a1 8).bind fun t154 => (if y151.length + t154.length < 140737488355328 then ((some (y151 ++ t154 : List Int)).bind fun y157 => (if y157.length + l2.length < 140737488355328 then ((spenceref01_Seal.f k (y157 ++ l2)).bind fun t163 => (some t163)) else (none))) else (none))) = some r := by first | (rw [hy151]; with_reducible exact H) | (have H2_ := (Option.bind_some _ _).symm.trans H; rw [hy151]; with_reducible exact H2_) | (have H2_ := (Option.bind_some _ _).symm.trans H; with_reducible exact H2_) | with_reducible exact H | (rw [hy151]; exact H) | exact H
   have Ny151 := Aside0.mk hy151
   clear hy151
   replace H := Option.bind_eq_some_iff.mp H
   obtain ⟨t154, A70, H⟩ := H
   replace H : (if y151.length + t154.length < 140737488355328 then ((some (y151 ++ t154 : List Int)).bind fun y157 => (if y157.length + l2.length < 140737488355328 then ((spenceref01_Seal.f k (y157 ++ l2)).bind fun t163 => (some t163)) else (none))) else (none)) = some r := H
   have A7 := Aside0.mk A70
   clear A70
   by_cases c8 : y151.length + t154.length < 140737488355328
   ·rw [if_pos c8] at H
    have LMc8 := Aside0.mk c8
    clear c8
    obtain ⟨y157, hy157⟩ : ∃ y_ : List Int, y_ = (y151 ++ t154) := ⟨_, rfl⟩
    replace H : (if y157.length + l2.length < 140737488355328 then ((spenceref01_Seal.f k (y157 ++ l2)).bind fun t163 => (some t163)) else (none)) = some r := by first | (rw [hy157]; with_reducible exact H) | (have H2_ := (Option.bind_some _ _).symm.trans H; rw [hy157]; with_reducible exact H2_) | (have H2_ := (Option.bind_some _ _).symm.trans H; with_reducible exact H2_) | with_reducible exact H | (rw [hy157]; exact H) | exact H
    have Ny157 := Aside0.mk hy157
    clear hy157
    by_cases c9 : y157.length + l2.length < 140737488355328
    ·rw [if_pos c9] at H
     have LMc9 := Aside0.mk c9
     clear c9
     obtain ⟨y160, hy160⟩ : ∃ y_ : List Int, y_ = (y157 ++ l2) := ⟨_, rfl⟩
     replace H : ((spenceref01_Seal.f k y160).bind fun t163 => (some t163)) = some r := by first | (rw [hy160]; with_reducible exact H) | (have H2_ := (Option.bind_some _ _).symm.trans H; rw [hy160]; with_reducible exact H2_) | (have H2_ := (Option.bind_some _ _).symm.trans H; with_reducible exact H2_) | with_reducible exact H | (rw [hy160]; exact H) | exact H
     have Ny160 := Aside0.mk hy160
     clear hy160
     replace H := Option.bind_eq_some_iff.mp H
     obtain ⟨t163, A100, H⟩ := H
     replace H : (some t163) = some r := H
     have A10 := Aside0.mk A100
     clear A100
     obtain rfl := Option.some.inj H
     go_enter Tryz.func118, Tryz.ntmps118
     go_wp2_with (first | ((with_reducible refine gate_dst (N := 12) rfl ?_); refine Kd.R_lit (Kd.int .u8) _ 5 ?hg (N := 12) ?hd (xs := ([165, a0] : List Int)) (inner := [.int .u8 165, .int .u8 a0]) (ok := fun _ => True) (okp := fun _ => True) ?hr ?hp (fun _ hk => hk) trivial (Below.refl _ _) (Nat.le_refl _) (by simp) ?_; (case hd => rfl); (case hg => rfl); (case hr => first | (go_simp; done) | (go_simp; rfl)); (case hp => exact (Reps.one (show Kd.M (Kd.int .u8) _ _ _ 165 [.int .u8 165] from rfl) (Reps.one (show Kd.M (Kd.int .u8) _ _ _ a0 [.int .u8 a0] from rfl) (Reps.none _ _)))); intro v146 w11 ho12 hb hg_ hnew_; clear hg_ hnew_; (first | rw [← Ny145.out] at ho12 | (simp only [Int.reduceToNat] at ho12; rw [← Ny145.out] at ho12)); have n0_ := Aside0.mk (Kd.R_lower ho12 (below_size (by repeat (first | (with_reducible first | exact HB.out | apply below_alloc | apply pw_below_drewN | apply below_drew1) | exact HB.out)))); have n1_ := Aside0.mk (below_step (by repeat (first | (with_reducible first | exact HB.out | apply below_alloc | apply pw_below_drewN | apply below_drew1) | exact HB.out)) hb); clear HB; have HO147 := n0_; have HB := n1_; clear n0_ n1_; clear hb ho12) | ((with_reducible refine gate_callee (f := 138) rfl ?_); refine goesL_ (some 17) rfl rfl Tryz.func138 (by kernel_rfl) rfl #[.int .u64 (IntKind.u64.wrap ((l2.length : Int))), .int .i64 2] rfl (by (try simp only [List.map_toArray, List.map_cons, List.map_nil]); first | done | rfl | (simp only [List.length_drop, List.length_take]; rfl)) ?_; (with_reducible refine (spenceref01_Lay.calls k (IntKind.u64.wrap ((l2.length : Int))) 2 t148 _ A5.out).mono ?_); rintro e w13 ⟨v149, rfl, ho0, hb⟩; refine ⟨_, rfl, ?_⟩; have n0_ := Aside0.mk (Kd.R_elder' (by (with_reducible repeat (first | apply Kd.R_alloc | apply Kd.R_drewN | apply Kd.R_drew)); exact HO147.out) (Kd.R_base ho0) hb); have n1_ := Aside0.mk (Kd.R_lower (Kd.R_new' ho0 (Kd.R_lt (by (with_reducible repeat (first | apply Kd.R_alloc | apply Kd.R_drewN | apply Kd.R_drew)); exact HO147.out))) (below_size (by repeat (first | (with_reducible first | exact HB.out | apply below_alloc | apply pw_below_drewN | apply below_drew1) | exact HB.out)))); have n2_ := Aside0.mk (below_step (by repeat (first | (with_reducible first | exact HB.out | apply below_alloc | apply pw_below_drewN | apply below_drew1) | exact HB.out)) hb); clear HO147; clear HB; have HO147 := n0_; have HO150 := n1_; have HB := n2_; clear n0_ n1_ n2_; (try clear hb); (try clear hb2); (try clear hk); (try clear hi); (try clear ho0); obtain ⟨Ao15, co15, eo15⟩ := Kd.R_slice HO150.out; subst eo15) | ((with_reducible refine gate_builtin (b := .append) (xs := #[.tmp 13, .tmp 17]) rfl ?_); at_builtin; refine Kd.R_append_rows (Kd.int .u8) (w0 := w) w.heap.size rfl (.tmp 13) (.tmp 17) 25 5 (.int .u8 0) 1 rfl Tryz.underlying25 info5 rfl (by decide) (by omega) v146 y145 t148 _ _ _ (fun k_ => some k_ ≠ (.slice Ao15 t148.length co15 : Value).ownBlock) (fun _ => False) rfl rfl ?aO ?aR (fun _ _ h => h) (fun _ h => h.elim) ?aF ?aB ?aS ?aL ?_; (case aR => repeat (first | exact (Kd.R_reads' HO150.out).2.2 | (with_reducible refine Kd.C_alloc ?_ _) | (with_reducible refine Kd.C_drewN ?_ _) | (with_reducible refine Kd.C_drew ?_))); (case aB => exact (by repeat (first | (with_reducible first | exact HB.out | apply below_alloc | apply pw_below_drewN | apply below_drew1) | exact HB.out))); (case aF => exact (fun k_ hk => Kd.fresh' (Kd.R_lt (by (with_reducible repeat (first | apply Kd.R_alloc | apply Kd.R_drewN | apply Kd.R_drew)); exact HO150.out)) k_ hk)); (case aO => exact (by (with_reducible repeat (first | apply Kd.R_alloc | apply Kd.R_drewN | apply Kd.R_drew)); exact Kd.R_mono HO147.out (fun _ hk => hk.2))); (case aS => exact (below_size (by repeat (first | (with_reducible first | exact HB.out | apply below_alloc | apply pw_below_drewN | apply below_drew1) | exact HB.out)))); (case aL => have := LMc6.out; omega); intro v152 w14 ho hb hg hat; rw [← Ny151.out] at ho; have n0_ := Aside0.mk (Kd.R_after (ok := (fun _ => True)) (by (with_reducible repeat (first | apply Kd.R_alloc | apply Kd.R_drewN | apply Kd.R_drew)); exact HO150.out) hg hat); have n1_ := Aside0.mk (hb); have n2_ := Aside0.mk (ho); clear HO150; clear HB; clear HO147; have HO150 := n0_; have HB := n1_; have HO153 := n2_; clear n0_ n1_ n2_; clear ho hb hg hat) | ((with_reducible refine gate_callee (f := 138) rfl ?_); refine goesL_ (some 21) rfl rfl Tryz.func138 (by kernel_rfl) rfl #[.int .u64 a1, .int .i64 8] rfl (by (try simp only [List.map_toArray, List.map_cons, List.map_nil]); first | done | rfl | (simp only [List.length_drop, List.length_take]; rfl)) ?_; (with_reducible refine (spenceref01_Lay.calls k a1 8 t154 _ A7.out).mono ?_); rintro e w16 ⟨v155, rfl, ho0, hb⟩; refine ⟨_, rfl, ?_⟩; have n0_ := Aside0.mk (Kd.R_elder' (by (with_reducible repeat (first | apply Kd.R_alloc | apply Kd.R_drewN | apply Kd.R_drew)); exact HO150.out) (Kd.R_base ho0) hb); have n1_ := Aside0.mk (Kd.R_elder' (by (with_reducible repeat (first | apply Kd.R_alloc | apply Kd.R_drewN | apply Kd.R_drew)); exact HO153.out) (Kd.R_base ho0) hb); have n2_ := Aside0.mk (Kd.R_lower (Kd.R_new' (Kd.R_new' ho0 (Kd.R_lt (by (with_reducible repeat (first | apply Kd.R_alloc | apply Kd.R_drewN | apply Kd.R_drew)); exact HO150.out))) (Kd.R_lt (by (with_reducible repeat (first | apply Kd.R_alloc | apply Kd.R_drewN | apply Kd.R_drew)); exact HO153.out))) (below_size (by repeat (first | (with_reducible first | exact HB.out | apply below_alloc | apply pw_below_drewN | apply below_drew1) | exact HB.out)))); have n3_ := Aside0.mk (below_step (by repeat (first | (with_reducible first | exact HB.out | apply below_alloc | apply pw_below_drewN | apply below_drew1) | exact HB.out)) hb); clear HO150; clear HO153; clear HB; have HO150 := n0_; have HO153 := n1_; have HO156 := n2_; have HB := n3_; clear n0_ n1_ n2_ n3_; (try clear hb); (try clear hb2); (try clear hk); (try clear hi); (try clear ho0); obtain ⟨Ao18, co18, eo18⟩ := Kd.R_slice HO156.out; subst eo18) | ((with_reducible refine gate_builtin (b := .append) (xs := #[.tmp 19, .tmp 21]) rfl ?_); at_builtin; refine Kd.R_append_rows (Kd.int .u8) (w0 := w) w.heap.size rfl (.tmp 19) (.tmp 21) 25 5 (.int .u8 0) 1 rfl Tryz.underlying25 info5 rfl (by decide) (by omega) v152 y151 t154 _ _ _ (fun k_ => some k_ ≠ (.slice Ao15 t148.length co15 : Value).ownBlock ∧ some k_ ≠ (.slice Ao18 t154.length co18 : Value).ownBlock) (fun _ => False) rfl rfl ?aO ?aR (fun _ _ h => h) (fun _ h => h.elim) ?aF ?aB ?aS ?aL ?_; (case aR => repeat (first | exact (Kd.R_reads' HO156.out).2.2 | (with_reducible refine Kd.C_alloc ?_ _) | (with_reducible refine Kd.C_drewN ?_ _) | (with_reducible refine Kd.C_drew ?_))); (case aB => exact (by repeat (first | (with_reducible first | exact HB.out | apply below_alloc | apply pw_below_drewN | apply below_drew1) | exact HB.out))); (case aF => exact (fun k_ hk => ⟨Kd.fresh' (Kd.R_lt (by (with_reducible repeat (first | apply Kd.R_alloc | apply Kd.R_drewN | apply Kd.R_drew)); exact HO150.out)) k_ hk, Kd.fresh' (Kd.R_lt (by (with_reducible repeat (first | apply Kd.R_alloc | apply Kd.R_drewN | apply Kd.R_drew)); exact HO156.out)) k_ hk⟩)); (case aO => exact (by (with_reducible repeat (first | apply Kd.R_alloc | apply Kd.R_drewN | apply Kd.R_drew)); exact HO153.out)); (case aS => exact (below_size (by repeat (first | (with_reducible first | exact HB.out | apply below_alloc | apply pw_below_drewN | apply below_drew1) | exact HB.out)))); (case aL => have := LMc8.out; omega); intro v158 w17 ho hb hg hat; rw [← Ny157.out] at ho; have n0_ := Aside0.mk (Kd.R_after (ok := (fun k_ => some k_ ≠ (.slice Ao18 t154.length co18 : Value).ownBlock)) (by (with_reducible repeat (first | apply Kd.R_alloc | apply Kd.R_drewN | apply Kd.R_drew)); exact Kd.R_mono HO150.out (fun _ hk => ⟨hk.2, hk.1.2⟩)) hg hat); have n1_ := Aside0.mk (Kd.R_after (ok := (fun k_ => some k_ ≠ (.slice Ao15 t148.length co15 : Value).ownBlock)) (by (with_reducible repeat (first | apply Kd.R_alloc | apply Kd.R_drewN | apply Kd.R_drew)); exact Kd.R_mono HO156.out (fun _ hk => ⟨hk.1.2, hk.2⟩)) hg hat); have n2_ := Aside0.mk (hb); have n3_ := Aside0.mk (ho); clear HO150; clear HO156; clear HB; clear HO153; have HO150 := n0_; have HO156 := n1_; have HB := n2_; have HO159 := n3_; clear n0_ n1_ n2_ n3_; clear ho hb hg hat) | ((with_reducible refine gate_builtin (b := .append) (xs := #[.tmp 23, .tmp 24]) rfl ?_); at_builtin; refine Kd.R_append_rows (Kd.int .u8) (w0 := w) w.heap.size rfl (.tmp 23) (.tmp 24) 25 5 (.int .u8 0) 1 rfl Tryz.underlying25 info5 rfl (by decide) (by omega) v158 y157 l2 _ _ _ (fun k_ => some k_ ≠ (.slice Ao15 t148.length co15 : Value).ownBlock ∧ some k_ ≠ (.slice Ao18 t154.length co18 : Value).ownBlock) (fun _ => False) rfl rfl ?aO ?aR (fun _ _ h => h) (fun _ h => h.elim) ?aF ?aB ?aS ?aL ?_; (case aR => repeat (first | exact (Kd.C_below HR2.out HB.out) | (with_reducible refine Kd.C_alloc ?_ _) | (with_reducible refine Kd.C_drewN ?_ _) | (with_reducible refine Kd.C_drew ?_))); (case aB => exact (by repeat (first | (with_reducible first | exact HB.out | apply below_alloc | apply pw_below_drewN | apply below_drew1) | exact HB.out))); (case aF => exact (fun k_ hk => ⟨Kd.fresh' (Kd.R_lt (by (with_reducible repeat (first | apply Kd.R_alloc | apply Kd.R_drewN | apply Kd.R_drew)); exact HO150.out)) k_ hk, Kd.fresh' (Kd.R_lt (by (with_reducible repeat (first | apply Kd.R_alloc | apply Kd.R_drewN | apply Kd.R_drew)); exact HO156.out)) k_ hk⟩)); (case aO => exact (by (with_reducible repeat (first | apply Kd.R_alloc | apply Kd.R_drewN | apply Kd.R_drew)); exact HO159.out)); (case aS => exact (below_size (by repeat (first | (with_reducible first | exact HB.out | apply below_alloc | apply pw_below_drewN | apply below_drew1) | exact HB.out)))); (case aL => have := LMc9.out; omega); intro v161 w19 ho hb hg hat; rw [← Ny160.out] at ho; have n0_ := Aside0.mk (Kd.R_after (ok := (fun k_ => some k_ ≠ (.slice Ao18 t154.length co18 : Value).ownBlock)) (by (with_reducible repeat (first | apply Kd.R_alloc | apply Kd.R_drewN | apply Kd.R_drew)); exact HO150.out) hg hat); have n1_ := Aside0.mk (Kd.R_after (ok := (fun k_ => some k_ ≠ (.slice Ao15 t148.length co15 : Value).ownBlock)) (by (with_reducible repeat (first | apply Kd.R_alloc | apply Kd.R_drewN | apply Kd.R_drew)); exact HO156.out) hg hat); have n2_ := Aside0.mk (hb); have n3_ := Aside0.mk (ho); clear HO150; clear HO156; clear HB; clear HO159; have HO150 := n0_; have HO156 := n1_; have HB := n2_; have HO162 := n3_; clear n0_ n1_ n2_ n3_; clear ho hb hg hat; obtain ⟨Ao20, co20, eo20⟩ := Kd.R_slice HO162.out; subst eo20) | ((with_reducible refine gate_callee (f := 122) rfl ?_); refine goesL_ (some 26) rfl rfl Tryz.func122 (by kernel_rfl) rfl #[.slice Ao20 y160.length co20] rfl (by (try simp only [List.map_toArray, List.map_cons, List.map_nil]); first | done | rfl | (simp only [List.length_drop, List.length_take]; rfl)) ?_; (with_reducible refine (spenceref01_Seal.calls k _ _ y160 t163 _ ?side1 ?side2 A10.out).mono ?_); (case side1 => repeat (first | exact (Kd.R_reads' HO162.out).2.2 | (with_reducible refine Kd.C_alloc ?_ _) | (with_reducible refine Kd.C_drewN ?_ _) | (with_reducible refine Kd.C_drew ?_))); (case side2 => exact (Kd.R_reads' HO162.out).2.1); rintro e w21 ⟨v164, rfl, ho0, hb⟩; refine ⟨_, rfl, ?_⟩; have n0_ := Aside0.mk (Kd.R_elder' (by (with_reducible repeat (first | apply Kd.R_alloc | apply Kd.R_drewN | apply Kd.R_drew)); exact HO150.out) (Kd.R_base ho0) hb); have n1_ := Aside0.mk (Kd.R_elder' (by (with_reducible repeat (first | apply Kd.R_alloc | apply Kd.R_drewN | apply Kd.R_drew)); exact HO156.out) (Kd.R_base ho0) hb); have n2_ := Aside0.mk (Kd.R_elder' (by (with_reducible repeat (first | apply Kd.R_alloc | apply Kd.R_drewN | apply Kd.R_drew)); exact HO162.out) (Kd.R_base ho0) hb); have n3_ := Aside0.mk (Kd.R_lower (Kd.R_new' (Kd.R_new' (Kd.R_new' ho0 (Kd.R_lt (by (with_reducible repeat (first | apply Kd.R_alloc | apply Kd.R_drewN | apply Kd.R_drew)); exact HO150.out))) (Kd.R_lt (by (with_reducible repeat (first | apply Kd.R_alloc | apply Kd.R_drewN | apply Kd.R_drew)); exact HO156.out))) (Kd.R_lt (by (with_reducible repeat (first | apply Kd.R_alloc | apply Kd.R_drewN | apply Kd.R_drew)); exact HO162.out))) (below_size (by repeat (first | (with_reducible first | exact HB.out | apply below_alloc | apply pw_below_drewN | apply below_drew1) | exact HB.out)))); have n4_ := Aside0.mk (below_step (by repeat (first | (with_reducible first | exact HB.out | apply below_alloc | apply pw_below_drewN | apply below_drew1) | exact HB.out)) hb); clear HO150; clear HO156; clear HO162; clear HB; have HO150 := n0_; have HO156 := n1_; have HO162 := n2_; have HO165 := n3_; have HB := n4_; clear n0_ n1_ n2_ n3_ n4_; (try clear hb); (try clear hb2); (try clear hk); (try clear hi); (try clear ho0)))
     all_goals
      go_ret
      exact ⟨_, by first | rfl | (simp [errW_none, errW_some] <;> rfl) | (simp [*, errW_none, errW_some] <;> rfl), by (with_reducible repeat (first | apply Kd.R_alloc | apply Kd.R_drewN | apply Kd.R_drew)); exact Kd.R_mono HO165.out (fun _ hk => trivial), by repeat (first | (with_reducible first | exact HB.out | apply below_alloc | apply pw_below_drewN | apply below_drew1) | exact HB.out)⟩
    ·rw [if_neg c9] at H
     exact absurd H (by simp)
   ·rw [if_neg c8] at H
    exact absurd H (by simp)
  ·rw [if_neg c6] at H
   exact absurd H (by simp)
end Go.Proofs.YtmbiebdcnadhkaaGreat.QFrame
namespace Go.Proofs.YtmbiebdcnadhkaaGreat.QFrame
open Go.RowKit Go.Proofs.YtmbiebdcnadhkaaGreatW.PrintWords Go.Proofs.YtmbiebdcnadhkaaGreatW.PrintLast Go.Proofs.YtmbiebdcnadhkaaGreatW.PrintMore
attribute [local go_sem] max2_int min2_int max_two min_two max_three min_three max_four min_four   -- for this text's walks alone
def frame_Pages.f (a0 : Int) (a1 : Int) : Option (Int) := if a1 < 1 then (some 0) else ((frame_Size.f a0).bind fun t204 => (if a1 = 0 then (none) else ((frame_Size.f a0).bind fun t205 => (if (Int.tmod t205 a1) > 0 then (some (wrap64 ((wrap64 (Int.tdiv t204 a1)) + 1))) else (some (wrap64 (Int.tdiv t204 a1)))))))
set_option maxHeartbeats 8000000 in
set_option maxRecDepth 100000 in
theorem frame_Pages.calls (a0 : Int) (a1 : Int) (r : Int) (w : World) (h : frame_Pages.f a0 a1 = some r) :
  Calls Tryz.prog 85 #[.int .i64 a0, .int .i64 a1] w fun e w' => e = .returned (.int .i64 r) ∧ Drawn0 w w' := by
 have H : (if a1 < 1 then (some 0) else ((frame_Size.f a0).bind fun t204 => (if a1 = 0 then (none) else ((frame_Size.f a0).bind fun t205 => (if (Int.tmod t205 a1) > 0 then (some (wrap64 ((wrap64 (Int.tdiv t204 a1)) + 1))) else (some (wrap64 (Int.tdiv t204 a1)))))))) = some r := h
 clear h
 by_cases c3 : a1 < 1
 ·rw [if_pos c3] at H
  have c3b0 : decide (a1 < 1) = true := decide_eq_true c3
  clear c3
  obtain rfl := Option.some.inj H
  go_enter Tryz.func85, Tryz.ntmps85
  go_wp2
  all_goals
   go_ret
   exact ⟨by first | rfl | (simp; done) | (simp [*]; done), by repeat (first | exact Drawn0.refl _ | apply Drawn0.step)⟩
 ·rw [if_neg c3] at H
  have c3b0 : decide (a1 < 1) = false := decide_eq_false c3
  clear c3
  replace H := Option.bind_eq_some_iff.mp H
  obtain ⟨t204, A40, H⟩ := H
  replace H : (if a1 = 0 then (none) else ((frame_Size.f a0).bind fun t205 => (if (Int.tmod t205 a1) > 0 then (some (wrap64 ((wrap64 (Int.tdiv t204 a1)) + 1))) else (some (wrap64 (Int.tdiv t204 a1)))))) = some r := H
  have A4 := Aside0.mk A40
  clear A40
  by_cases c5 : a1 = 0
  ·rw [if_pos c5] at H
   exact absurd H (by simp)
  ·rw [if_neg c5] at H
   have c5b0 : (a1 == 0) = false := beq_eq_false_iff_ne.mpr c5
   have c5b1 : (a1 != 0) = true := bne_iff_ne.mpr c5
   replace H := Option.bind_eq_some_iff.mp H
   obtain ⟨t205, A60, H⟩ := H
   replace H : (if (Int.tmod t205 a1) > 0 then (some (wrap64 ((wrap64 (Int.tdiv t204 a1)) + 1))) else (some (wrap64 (Int.tdiv t204 a1)))) = some r := H
   have A6 := Aside0.mk A60
   clear A60
   by_cases c7 : (Int.tmod t205 a1) > 0
   ·rw [if_pos c7] at H
    have c7b0 : decide (0 < (Int.tmod t205 a1)) = true := decide_eq_true c7
    clear c7
    obtain rfl := Option.some.inj H
    go_enter Tryz.func85, Tryz.ntmps85
    go_wp2_with (first | ((with_reducible refine gate_callee (f := 109) rfl ?_); refine goesL_ (some 9) rfl rfl Tryz.func109 (by kernel_rfl) rfl #[.int .i64 a0] rfl (by (try simp only [List.map_toArray, List.map_cons, List.map_nil]); first | done | rfl | (simp only [List.length_drop, List.length_take]; rfl)) ?_; (with_reducible refine (frame_Size.calls a0 t204 _ A4.out).mono ?_); rintro e w' ⟨rfl, ⟨nd, rfl⟩⟩; refine ⟨_, rfl, ?_⟩) | ((with_reducible refine gate_callee (f := 109) rfl ?_); refine goesL_ (some 13) rfl rfl Tryz.func109 (by kernel_rfl) rfl #[.int .i64 a0] rfl (by (try simp only [List.map_toArray, List.map_cons, List.map_nil]); first | done | rfl | (simp only [List.length_drop, List.length_take]; rfl)) ?_; (with_reducible refine (frame_Size.calls a0 t205 _ A6.out).mono ?_); rintro e w' ⟨rfl, ⟨nd, rfl⟩⟩; refine ⟨_, rfl, ?_⟩))
    all_goals
     go_ret
     exact ⟨by first | rfl | (simp; done) | (simp [*]; done), by repeat (first | exact Drawn0.refl _ | apply Drawn0.step)⟩
   ·rw [if_neg c7] at H
    have c7b0 : decide (0 < (Int.tmod t205 a1)) = false := decide_eq_false c7
    clear c7
    obtain rfl := Option.some.inj H
    go_enter Tryz.func85, Tryz.ntmps85
    go_wp2_with (first | ((with_reducible refine gate_callee (f := 109) rfl ?_); refine goesL_ (some 9) rfl rfl Tryz.func109 (by kernel_rfl) rfl #[.int .i64 a0] rfl (by (try simp only [List.map_toArray, List.map_cons, List.map_nil]); first | done | rfl | (simp only [List.length_drop, List.length_take]; rfl)) ?_; (with_reducible refine (frame_Size.calls a0 t204 _ A4.out).mono ?_); rintro e w' ⟨rfl, ⟨nd, rfl⟩⟩; refine ⟨_, rfl, ?_⟩) | ((with_reducible refine gate_callee (f := 109) rfl ?_); refine goesL_ (some 13) rfl rfl Tryz.func109 (by kernel_rfl) rfl #[.int .i64 a0] rfl (by (try simp only [List.map_toArray, List.map_cons, List.map_nil]); first | done | rfl | (simp only [List.length_drop, List.length_take]; rfl)) ?_; (with_reducible refine (frame_Size.calls a0 t205 _ A6.out).mono ?_); rintro e w' ⟨rfl, ⟨nd, rfl⟩⟩; refine ⟨_, rfl, ?_⟩))
    all_goals
     go_ret
     exact ⟨by first | rfl | (simp; done) | (simp [*]; done), by repeat (first | exact Drawn0.refl _ | apply Drawn0.step)⟩
end Go.Proofs.YtmbiebdcnadhkaaGreat.QFrame
namespace Go.Proofs.YtmbiebdcnadhkaaGreat.QFrame
open Go.RowKit Go.Proofs.YtmbiebdcnadhkaaGreatW.PrintWords Go.Proofs.YtmbiebdcnadhkaaGreatW.PrintLast Go.Proofs.YtmbiebdcnadhkaaGreatW.PrintMore
attribute [local go_sem] max2_int min2_int max_two min_two max_three min_three max_four min_four   -- for this text's walks alone
def spenceref11_Pages.l0 : Nat → Int → Int → Int → Option (Int)
 | 0, _, _, _ => none
 | k + 1, x0, x1, x5 => if (wrap64 (x5 * x1)) < (wrap64 (x0 + 16)) then (spenceref11_Pages.l0 k x0 x1 (wrap64 (x5 + 1))) else (some x5)
def spenceref11_Pages.f (k : Nat) (a0 : Int) (a1 : Int) : Option (Int) := spenceref11_Pages.l0 k a0 a1 0
theorem spenceref11_Pages.mono_l : ∀ k, (∀ y0 y1 y2, LeO (spenceref11_Pages.l0 k y0 y1 y2) (spenceref11_Pages.l0 (k + 1) y0 y1 y2))
 | 0 => fun _ _ _ r h => by simp [spenceref11_Pages.l0] at h
 | k + 1 => by
  have ih0 := spenceref11_Pages.mono_l k
  ·intro y0 y1 y2
   unfold spenceref11_Pages.l0
   repeat' first
   | (with_reducible exact ih0 _ _ _)
   | (with_reducible exact LeO.refl _)
   | (with_reducible exact LeO.none _)
   | (with_reducible refine LeO.ite ?_ ?_)
   | (with_reducible refine LeO.bind ?_ (fun _ => ?_))
   | exact ih0 _ _ _
   | exact LeO.none _
   | refine LeO.ite ?_ ?_
   | refine LeO.bind ?_ (fun _ => ?_)
theorem spenceref11_Pages.mono : ∀ a0 a1 k, LeO (spenceref11_Pages.f k a0 a1) (spenceref11_Pages.f (k + 1) a0 a1) := by
 intro a0 a1 k
 have ih0 := spenceref11_Pages.mono_l k
 unfold spenceref11_Pages.f
 repeat' first
   | (with_reducible exact ih0 _ _ _)
   | (with_reducible exact LeO.refl _)
   | (with_reducible exact LeO.none _)
   | (with_reducible refine LeO.ite ?_ ?_)
   | (with_reducible refine LeO.bind ?_ (fun _ => ?_))
   | exact ih0 _ _ _
   | exact LeO.none _
   | refine LeO.ite ?_ ?_
   | refine LeO.bind ?_ (fun _ => ?_)
set_option maxHeartbeats 8000000 in
set_option maxRecDepth 100000 in
theorem spenceref11_Pages.calls (k : Nat) (a0 : Int) (a1 : Int) (r : Int) (w : World) (h : spenceref11_Pages.f k a0 a1 = some r) :
  Calls Tryz.prog 95 #[.int .i64 a0, .int .i64 a1] w fun e w' => e = .returned (.int .i64 r) ∧ Drawn0 w w' := by
 have H : (spenceref11_Pages.l0 k a0 a1 0) = some r := h
 clear h
 have H' := Aside0.mk H
 clear H
 go_enter Tryz.func95, Tryz.ntmps95
 go_wp2
 go_loopg [5] k (fun kq v5 w' => ∃ (x5_1 : Int), v5 = .int .i64 x5_1 ∧ Aside0 (spenceref11_Pages.l0 kq a0 a1 x5_1 = some r) ∧ Aside0 (kq ≤ k) ∧ Drawn0 w w')
 case atStart => exact ⟨(0), (by first | rfl | (simp; done) | (simp [*]; done)), H', ⟨Nat.le_refl _⟩, by repeat (first | exact Drawn0.refl _ | apply Drawn0.step)⟩
 case round =>
  clear H'
  try clear p2
  obtain ⟨x5_1, rfl, HA, HK1, ⟨m1, rfl⟩⟩ := hrel
  cases gk with
  | zero => exact absurd HA.out (by simp [spenceref11_Pages.l0])
  | succ k1 =>
   have H := HA.out
   clear HA
   simp only [spenceref11_Pages.l0] at H
   by_cases c3 : (wrap64 (x5_1 * a1)) < (wrap64 (a0 + 16))
   ·rw [if_pos c3] at H
    have c3b0 : decide ((wrap64 (x5_1 * a1)) < (wrap64 (a0 + 16))) = true := decide_eq_true c3
    clear c3
    have H' := Aside0.mk H
    clear H
    go_wp2
    go_roundg k1
    case measure => have := HK1.out; omega
    case rel => exact ⟨(wrap64 (x5_1 + 1)), (by first | rfl | (simp; done) | (simp [*]; done)), H', ⟨by have := HK1.out; omega⟩, by repeat (first | exact Drawn0.refl _ | apply Drawn0.step)⟩
   ·rw [if_neg c3] at H
    have c3b0 : decide ((wrap64 (x5_1 * a1)) < (wrap64 (a0 + 16))) = false := decide_eq_false c3
    clear c3
    obtain rfl := Option.some.inj H
    go_wp2
    all_goals
     go_ret
     exact ⟨by first | rfl | (simp; done) | (simp [*]; done), by repeat (first | exact Drawn0.refl _ | apply Drawn0.step)⟩
end Go.Proofs.YtmbiebdcnadhkaaGreat.QFrame
namespace Go.Proofs.YtmbiebdcnadhkaaGreat.FrMore
open Go.RowKit Go.Proofs.YtmbiebdcnadhkaaGreat.QFrame Go.Proofs.YtmbiebdcnadhkaaGreatW.PrintWords Go.Proofs.YtmbiebdcnadhkaaGreatW.PrintLast Go.Proofs.YtmbiebdcnadhkaaGreat.FrameFacts Go.Proofs.YtmbiebdcnadhkaaGreat.NumMath
open Go.Proofs.YtmbiebdcnadhkaaGreat.NumFacts (lay_is)
open Go.Proofs.YtmbiebdcnadhkaaGreat.CrcFacts (le4 le4_len le4_byt sum nb bytes_is refseal_is)
theorem fsize_is (n : Nat) (h : n ≤ 5000) : frame_Size.f (n : Int) = some (if n ≤ 4096 then (n : Int) + 16 else 0) := by
 unfold frame_Size.f
 rw [fits_is, Option.bind_some]
 by_cases h4 : n ≤ 4096
 ·rw [if_pos (decide_eq_true (by omega)), wr (by omega) (by omega), if_pos h4]
 ·rw [if_neg (by rw [decide_eq_true_iff]; omega), if_neg h4]
def rec (kind seq : Int) (l : List Int) : List Int := bare kind seq l ++ le4 (sum (nb (bare kind seq l)))
theorem rec_len (kind seq : Int) (l : List Int) : (rec kind seq l).length = l.length + 16 := by rw [rec, List.length_append, bare_len, le4_len]
theorem rec_byt (kind seq : Int) (l : List Int) (hk : 0 ≤ kind ∧ kind ≤ 255) (hl : Byt l) : Byt (rec kind seq l) := (bare_byt kind seq l hk hl).app (le4_byt _)
theorem ref_rec (k : Nat) (kind seq : Int) (l : List Int) (hkd : 0 ≤ kind ∧ kind ≤ 255) (hs : 0 ≤ seq ∧ seq ≤ 18446744073709551615) (hl : Byt l) (hm : l.length ≤ 4096) (hk : 5000 ≤ k) : spenceref11_Frame.f k kind seq l = some (rec kind seq l) := by
 obtain ⟨s, rfl⟩ := Int.eq_ofNat_of_zero_le hs.1
 unfold spenceref11_Frame.f
 rw [if_neg (by omega), Option.bind_some, u64_wrap _ (by omega) (by omega), show (2 : Int) = ((2 : Nat) : Int) from rfl, lay_is k l.length 2 (by omega) (by omega), Option.bind_some, if_pos (by simp [bb_len]), Option.bind_some, show (8 : Int) = ((8 : Nat) : Int) from rfl, lay_is k s 8 (by omega) (by omega), Option.bind_some, if_pos (by simp [bb_len]), Option.bind_some, if_pos (by simp [bb_len]; omega)]
 have e : [165, kind] ++ bb l.length 2 ++ bb s 8 ++ l = bare kind (s : Int) l := rfl
 rw [e, refseal_is k _ (bare_byt kind (s : Int) l hkd hl) (by rw [bare_len]; omega) (by rw [bare_len]; omega)]
 rfl
theorem pages_loop (n p : Nat) (hp : 0 < p) (hpm : p ≤ 9223372036854775807) (hn : n ≤ 4096) (d : Nat) : ∀ (k i : Nat), (i = 0 ∨ (i - 1) * p < n + 16) → (n + 16 + p - 1) / p = i + d → d < k →
  spenceref11_Pages.l0 k (n : Int) (p : Int) (i : Int) = some (((n + 16 + p - 1) / p : Nat) : Int) := by
 have key : ∀ i : Nat, i * p < n + 16 ↔ i < (n + 16 + p - 1) / p := by
  intro i
  have h := Nat.le_div_iff_mul_le hp (x := i + 1) (y := n + 16 + p - 1)
  rw [Nat.add_mul, Nat.one_mul] at h
  omega
 have bound : ∀ i : Nat, (i = 0 ∨ (i - 1) * p < n + 16) → i * p ≤ 9223372036854775807 := by
  intro i hi
  rcases hi with rfl | hi
  ·simp
  ·match i with
   | 0 => simp
   | 1 => simp; exact hpm
   | i + 2 =>
    rw [show i + 2 - 1 = i + 1 by omega] at hi
    have h1 : (i + 1) * p = i * p + p := by rw [Nat.add_mul, Nat.one_mul]
    have h2 : (i + 2) * p = i * p + 2 * p := Nat.add_mul _ _ _
    omega
 have small : ∀ i : Nat, i ≤ (n + 16 + p - 1) / p → i ≤ 4112 := by
  intro i hi
  have h1 : i * p ≤ n + 16 + p - 1 := (Nat.le_div_iff_mul_le hp).1 hi
  match i with
  | 0 => omega
  | i + 1 =>
   rw [Nat.add_mul, Nat.one_mul] at h1
   have h2 : i * 1 ≤ i * p := Nat.mul_le_mul_left i hp
   omega
 induction d with
 | zero =>
  intro k i hi hd hk
  obtain ⟨k, rfl⟩ : ∃ m, k = m + 1 := ⟨k - 1, by omega⟩
  have hb := bound i hi
  have h1 := key i
  have hs := small i (by omega)
  have hc : (i : Int) * (p : Int) = ((i * p : Nat) : Int) := by simp
  rw [spenceref11_Pages.l0, hc, wr (a := ((i * p : Nat) : Int)) (by omega) (by omega), wr (a := (n : Int) + 16) (by omega) (by omega), if_neg (by omega)]
  congr 1
  omega
 | succ d ih =>
  intro k i hi hd hk
  obtain ⟨k, rfl⟩ : ∃ m, k = m + 1 := ⟨k - 1, by omega⟩
  have hb := bound i hi
  have h1 := (key i).2 (by omega)
  have hs := small i (by omega)
  have hc : (i : Int) * (p : Int) = ((i * p : Nat) : Int) := by simp
  rw [spenceref11_Pages.l0, hc, wr (a := ((i * p : Nat) : Int)) (by omega) (by omega), wr (a := (n : Int) + 16) (by omega) (by omega), if_pos (by omega), wr (a := (i : Int) + 1) (by omega) (by omega), show (i : Int) + 1 = ((i + 1 : Nat) : Int) by omega]
  exact ih k (i + 1) (.inr (by rw [Nat.add_sub_cancel]; exact h1)) (by omega) (by omega)
theorem ceil_is (D p : Nat) (hp : 0 < p) : (D + p - 1) / p = D / p + (if 0 < D % p then 1 else 0) := by
 have e := Nat.div_add_mod D p
 have hr := Nat.mod_lt D hp
 by_cases h : 0 < D % p
 ·rw [if_pos h, show D + p - 1 = (D % p - 1) + p * (D / p + 1) by rw [Nat.mul_add, Nat.mul_one]; omega, Nat.add_mul_div_left _ _ hp, Nat.div_eq_of_lt (by omega)]
  omega
 ·rw [if_neg h, show D + p - 1 = (p - 1) + p * (D / p) by omega, Nat.add_mul_div_left _ _ hp, Nat.div_eq_of_lt (by omega)]
  omega
theorem fpages_is (n p : Nat) (hp : 0 < p) (hn : n ≤ 4096) : frame_Pages.f (n : Int) (p : Int) = some (((n + 16 + p - 1) / p : Nat) : Int) := by
 unfold frame_Pages.f
 have hd : (n + 16) / p ≤ n + 16 := Nat.div_le_self _ _
 rw [if_neg (by omega), fsize_is n (by omega), if_pos hn, Option.bind_some, if_neg (by omega), Option.bind_some, show (n : Int) + 16 = ((n + 16 : Nat) : Int) by omega, ← Int.ofNat_tdiv, ← Int.ofNat_tmod, ceil_is _ _ hp]
 generalize (n + 16) / p = q at hd ⊢
 generalize (n + 16) % p = m
 rw [wr (a := (q : Int)) (by omega) (by omega), wr (a := (q : Int) + 1) (by omega) (by omega)]
 by_cases h : 0 < m
 ·rw [if_pos (by omega), if_pos h]; congr 1
 ·rw [if_neg (by omega), if_neg h]; congr 1
theorem pages_is (k n p : Nat) (hp : 0 < p) (hpm : p ≤ 9223372036854775807) (hn : n ≤ 4096) (hk : 5000 ≤ k) : spenceref11_Pages.f k (n : Int) (p : Int) = some (((n + 16 + p - 1) / p : Nat) : Int) := by
 have hb : (n + 16 + p - 1) / p ≤ 4112 := by
  rw [ceil_is _ _ hp]
  rcases Nat.lt_or_ge 1 p with h | h
  ·have h1 : (n + 16) / p ≤ (n + 16) / 2 := Nat.div_le_div_left h (by omega)
   split <;> omega
  ·obtain rfl : p = 1 := by omega
   rw [Nat.div_one, Nat.mod_one, if_neg (by omega)]
   omega
 exact pages_loop n p hp hpm hn ((n + 16 + p - 1) / p) k 0 (.inl rfl) (Nat.zero_add _).symm (Nat.lt_of_le_of_lt hb (by omega))
theorem fpages_no (n : Nat) (p : Int) (h : 4096 < n) (hm : n ≤ 9223372036854775807) : frame_Pages.f (n : Int) p = some 0 := by
 have hsz : frame_Size.f (n : Int) = some 0 := by
  unfold frame_Size.f
  rw [fits_is, Option.bind_some, if_neg (by rw [decide_eq_true_iff]; omega)]
 unfold frame_Pages.f
 by_cases hp : p < 1
 ·rw [if_pos hp]
 ·rw [if_neg hp, hsz, Option.bind_some, if_neg (by omega), Option.bind_some]
  simp [wr]
theorem frame_no (k : Nat) (kind seq : Int) (l : List Int) (h : 4096 < l.length) : frame_Put.f k kind seq l = some ([], 10) := by
 unfold frame_Put.f
 rw [if_pos (by omega)]
end Go.Proofs.YtmbiebdcnadhkaaGreat.FrMore
namespace Go.Proofs.YtmbiebdcnadhkaaGreat.Fl
open Go.RowKit Go.Proofs.YtmbiebdcnadhkaaGreatW.PrintWords Go.Proofs.YtmbiebdcnadhkaaGreatW.PrintMore Go.Maps
abbrev rec := @Go.Proofs.YtmbiebdcnadhkaaGreat.FrMore.rec
theorem rec_len (kind seq : Int) (l : List Int) : (rec kind seq l).length = l.length + 16 := Go.Proofs.YtmbiebdcnadhkaaGreat.FrMore.rec_len kind seq l
structure KindOk (k : Int) : Prop where
 k0 : 0 ≤ k
 k1 : k ≤ 255
structure SeqOk (k : Int) : Prop where
 k0 : 0 ≤ k
 k1 : k ≤ 18446744073709551615
section
variable {w : World} {A : Option Addr} {c : Nat} {l : List Int} {kind seq : Int}
theorem rec_byt (hk : KindOk kind) (hl : Byt l) : Byt (rec kind seq l) := Go.Proofs.YtmbiebdcnadhkaaGreat.FrMore.rec_byt kind seq l ⟨hk.k0, hk.k1⟩ hl
theorem Put_ok (hk : KindOk kind) (hs : SeqOk seq) (hl : Byt l) (h : kB.C w A l.length l) (hc : l.length ≤ c) (hm : l.length ≤ 4096) :
  Calls Tryz.prog 111 #[.agg #[.int .u8 kind, .int .u64 seq, .slice A l.length c]] w fun e w' => ∃ A' c', e = .returned (.tuple #[.slice A' (l.length + 16) c', .int .i64 0]) ∧ l.length + 16 ≤ c' ∧ kB.C w' A' (l.length + 16) (rec kind seq l) ∧ Below w.heap.size w w' := by
 refine (Go.Proofs.YtmbiebdcnadhkaaGreat.QFrame.frame_Put.calls (l.length + 100) kind seq A c l (rec kind seq l) 0 w h hc (Go.Proofs.YtmbiebdcnadhkaaGreat.FrameFacts.put_frame _ kind seq l ⟨hk.k0, hk.k1⟩ ⟨hs.k0, hs.k1⟩ hl hm (Nat.le_refl _))).mono fun e w' ⟨v, e1, hr, hb⟩ => ?_
 obtain ⟨A', c', rfl, h1, h2⟩ := Kd.R_reads hr
 rw [rec_len] at e1 h1 h2
 exact ⟨A', c', e1, h1, h2, hb⟩
theorem Put_no (h : kB.C w A l.length l) (hc : l.length ≤ c) (hm : 4096 < l.length) :
  Calls Tryz.prog 111 #[.agg #[.int .u8 kind, .int .u64 seq, .slice A l.length c]] w fun e w' => ∃ v, e = .returned (.tuple #[v, .int .i64 10]) ∧ Below w.heap.size w w' :=
 (Go.Proofs.YtmbiebdcnadhkaaGreat.QFrame.frame_Put.calls 1 kind seq A c l [] 10 w h hc (Go.Proofs.YtmbiebdcnadhkaaGreat.FrMore.frame_no 1 kind seq l hm)).mono fun e w' ⟨v, e1, _, hb⟩ => ⟨v, e1, hb⟩
theorem Frame_ok (hk : KindOk kind) (hs : SeqOk seq) (hl : Byt l) (h : kB.C w A l.length l) (hc : l.length ≤ c) (hm : l.length ≤ 4096) :
  Calls Tryz.prog 118 #[.int .u8 kind, .int .u64 seq, .slice A l.length c] w fun e w' => ∃ ad c', e = .returned (.slice (some ad) (l.length + 16) c') ∧ l.length + 16 ≤ c' ∧ kB.C w' (some ad) (l.length + 16) (rec kind seq l) ∧ Row w' w.heap.size (fun k => w.heap.size ≤ k) (.slice (some ad) (l.length + 16) c') (rec kind seq l) ∧ Below w.heap.size w w' := by
 refine (Go.Proofs.YtmbiebdcnadhkaaGreat.QFrame.spenceref11_Frame.calls 5000 kind seq A c l (rec kind seq l) w h hc (Go.Proofs.YtmbiebdcnadhkaaGreat.FrMore.ref_rec 5000 kind seq l ⟨hk.k0, hk.k1⟩ ⟨hs.k0, hs.k1⟩ hl hm (Nat.le_refl _))).mono fun e w' ⟨v, e1, hr, hb⟩ => ?_
 have hrow := Row.mono (Row.bound (Row.ofR hr)) (ok' := fun k => w.heap.size ≤ k) (fun k hk => hk.2.1)
 obtain ⟨A', c', rfl, h1, h2⟩ := Kd.R_reads hr
 obtain ⟨ad, rfl, _⟩ := h2.2.2 (by rw [rec_len]; omega)
 rw [rec_len] at e1 h1 h2 hrow
 exact ⟨ad, c', e1, h1, h2, hrow, hb⟩
set_option maxHeartbeats 1000000 in
set_option maxRecDepth 100000 in
theorem Frame_no (hm : 4096 < l.length) :
  Calls Tryz.prog 118 #[.int .u8 kind, .int .u64 seq, .slice A l.length c] w fun e w' => e = .returned (.slice none 0 0) ∧ w = w' := by
 have e1 : decide ((4096 : Int) < (l.length : Int)) = true := by simp; omega
 go_enter Tryz.func118, Tryz.ntmps118
 go_wp2
 go_ret
 exact ⟨rfl, rfl⟩
theorem Pages_ok (n : Nat) (s : Int × Int × Int) (hs : ShapeOk s) (hn : n ≤ 4096) (w : World) : Calls Tryz.prog 85 #[.int .i64 (n : Int), .int .i64 s.2.2] w fun e w' => e = .returned (.int .i64 (kpg s n : Int)) ∧ Below w.heap.size w w' := by
 obtain ⟨p, hp⟩ := Int.eq_ofNat_of_zero_le (show 0 ≤ s.2.2 by have := hs.c0; omega)
 have h0 := hs.c0
 unfold kpg
 rw [hp] at h0 ⊢
 refine (Go.Proofs.YtmbiebdcnadhkaaGreat.QFrame.frame_Pages.calls (n : Int) (p : Int) _ w (Go.Proofs.YtmbiebdcnadhkaaGreat.FrMore.fpages_is n p (by omega) hn)).mono fun e w' ⟨e1, nd, e2⟩ => ⟨e1, by rw [e2]; exact pw_below_drewN (Below.refl _ _) _⟩
theorem Pages_no (n : Nat) (s : Int × Int × Int) (hn : 4096 < n) (hm : n ≤ 9223372036854775807) (w : World) : Calls Tryz.prog 85 #[.int .i64 (n : Int), .int .i64 s.2.2] w fun e w' => e = .returned (.int .i64 0) ∧ Below w.heap.size w w' :=
 (Go.Proofs.YtmbiebdcnadhkaaGreat.QFrame.frame_Pages.calls (n : Int) s.2.2 _ w (Go.Proofs.YtmbiebdcnadhkaaGreat.FrMore.fpages_no n s.2.2 hn hm)).mono fun e w' ⟨e1, nd, e2⟩ => ⟨e1, by rw [e2]; exact pw_below_drewN (Below.refl _ _) _⟩
theorem RPages_ok (n : Nat) (s : Int × Int × Int) (hs : ShapeOk s) (hn : n ≤ 4096) (w : World) : Calls Tryz.prog 95 #[.int .i64 (n : Int), .int .i64 s.2.2] w fun e w' => e = .returned (.int .i64 (kpg s n : Int)) ∧ Below w.heap.size w w' := by
 obtain ⟨p, hp⟩ := Int.eq_ofNat_of_zero_le (show 0 ≤ s.2.2 by have := hs.c0; omega)
 have h0 := hs.c0
 have h1 := hs.c1
 unfold kpg
 rw [hp] at h0 h1 ⊢
 refine (Go.Proofs.YtmbiebdcnadhkaaGreat.QFrame.spenceref11_Pages.calls 5000 (n : Int) (p : Int) _ w (Go.Proofs.YtmbiebdcnadhkaaGreat.FrMore.pages_is 5000 n p (by omega) (by omega) hn (Nat.le_refl _))).mono fun e w' ⟨e1, nd, e2⟩ => ⟨e1, by rw [e2]; exact pw_below_drewN (Below.refl _ _) _⟩
end
theorem kpg_bd {s : Int × Int × Int} (hs : ShapeOk s) {n : Nat} (hn : n ≤ 4096) : 1 ≤ kpg s n ∧ kpg s n ≤ 257 := by
 have h0 := hs.c0
 have h1 := hs.c1
 obtain ⟨p, hp⟩ := Int.eq_ofNat_of_zero_le (show 0 ≤ s.2.2 by omega)
 unfold kpg
 rw [hp] at h0 h1 ⊢
 simp only [Int.toNat_natCast]
 have h2 : 1 ≤ (n + 16 + p - 1) / p := (Nat.le_div_iff_mul_le (by omega)).2 (by omega)
 refine ⟨h2, ?_⟩
 have h3 : (n + 16 + p - 1) / p ≤ (n + 16 + p - 1) / 16 := Nat.div_le_div_left (by omega) (by omega)
 rcases Nat.lt_or_ge p 256 with h | h
 ·have h4 : (n + 16 + p - 1) ≤ 4096 + 16 + p - 1 := by omega
  have h5 : (n + 16 + p - 1) / p ≤ (4096 + 16 + p - 1) / p := Nat.div_le_div_right h4
  have h6 : (4096 + 16 + p - 1) / p ≤ 257 := by
   rw [Nat.div_le_iff_le_mul_add_pred (by omega)]
   omega
  omega
 ·have h6 : (n + 16 + p - 1) / p ≤ 257 := by
   rw [Nat.div_le_iff_le_mul_add_pred (by omega)]
   omega
  omega
end Go.Proofs.YtmbiebdcnadhkaaGreat.Fl
namespace Go.Proofs.YtmbiebdcnadhkaaGreat.Fl
open Go.RowKit Go.Proofs.YtmbiebdcnadhkaaGreatW.PrintWords Go.Proofs.YtmbiebdcnadhkaaGreatW.PrintMore Go.Maps
structure DevFrame (N0 p : Nat) (F : (Nat → Prop) → PD → World → Prop) : Prop where
 dev : ∀ {K D w}, F K D w → ∃ ok, DevIs N0 p D ok w
 keep : ∀ {K D w w'}, F K D w → Below w.heap.size w w' → F (fun k => K k ∨ (w.heap.size ≤ k ∧ k < w'.heap.size)) D w'
 less : ∀ {K K' D w}, F K D w → (∀ k, K' k → K k) → F K' D w
 upd : ∀ {K D D' w} {f : FuncId} {args : Array Value} {res : Ending}, F K D w → (∀ ok, DevIs N0 p D ok w → Calls Tryz.prog f args w fun e w' => e = res ∧ DevIs N0 p D' (fun k => ok k ∨ w.heap.size ≤ k) w' ∧ Upd (Mut ok w) w w') →
  Calls Tryz.prog f args w fun e w' => e = res ∧ F K D' w' ∧ Below N0 w w' ∧ Kept K w w'
 size : ∀ {K D w}, F K D w → N0 ≤ w.heap.size
 lt : ∀ {K D w}, F K D w → ∀ k, K k → k < w.heap.size
theorem DevFrame.below {N0 p : Nat} {F : (Nat → Prop) → PD → World → Prop} (hF : DevFrame N0 p F) {K : Nat → Prop} {D : PD} {w w' : World} (h : F K D w) (hb : Below w.heap.size w w') : F K D w' := hF.less (hF.keep h hb) (fun k hk => .inl hk)
theorem run_shape1 (w : World) (x y z : Int) : (Instr.field 23 (.agg #[.int .i64 x, .int .i64 y, .int .i64 z]) 0).run Tryz.prog w = .ok (.int .i64 x) w := by kernel_rfl
theorem run_shape2 (w : World) (x y z : Int) : (Instr.field 23 (.agg #[.int .i64 x, .int .i64 y, .int .i64 z]) 1).run Tryz.prog w = .ok (.int .i64 y) w := by kernel_rfl
theorem run_shape3 (w : World) (x y z : Int) : (Instr.field 23 (.agg #[.int .i64 x, .int .i64 y, .int .i64 z]) 2).run Tryz.prog w = .ok (.int .i64 z) w := by kernel_rfl
theorem DevFrame.still {N0 p : Nat} {F : (Nat → Prop) → PD → World → Prop} (hF : DevFrame N0 p F) {K : Nat → Prop} {D : PD} {w w' : World} (h : F K D w) (hb : Below w.heap.size w w') : F K D w' ∧ Below N0 w w' ∧ Kept K w w' := ⟨hF.below h hb, hb.mono (hF.size h), fun k hk => hb.block k (hF.lt h k hk)⟩
theorem two_frame (N0 p x : Nat) (s : Int × Int × Int) (ps : List Pg) : DevFrame N0 p (fun K D w => Two K N0 p x D s ps w) where
 dev := fun h => by
  obtain ⟨okD, okX, hD, _⟩ := h
  exact ⟨okD, hD⟩
 keep := fun h hb => h.keep hb
 less := fun h hk => h.less hk
 upd := fun h hc => h.dev hc
 size := fun h => h.size
 lt := fun h k hk => by
  obtain ⟨_, _, _, _, _, _, _, _, hK⟩ := h
  exact (hK k hk).1
structure RefFrame (N0 x : Nat) (s : Int × Int × Int) (G : (Nat → Prop) → List Pg → World → Prop) : Prop where
 ref : ∀ {K ps w}, G K ps w → ∃ ok, RefIs N0 x s ps ok w
 keep : ∀ {K ps w w'}, G K ps w → Below w.heap.size w w' → G (fun k => K k ∨ (w.heap.size ≤ k ∧ k < w'.heap.size)) ps w'
 less : ∀ {K K' ps w}, G K ps w → (∀ k, K' k → K k) → G K' ps w
 upd : ∀ {K ps ps' w} {f : FuncId} {args : Array Value} {res : Ending}, G K ps w → (∀ ok, RefIs N0 x s ps ok w → Calls Tryz.prog f args w fun e w' => e = res ∧ RefIs N0 x s ps' (fun k => ok k ∨ w.heap.size ≤ k) w' ∧ Upd (Mut ok w) w w') →
  Calls Tryz.prog f args w fun e w' => e = res ∧ G K ps' w' ∧ Below N0 w w' ∧ Kept K w w'
 size : ∀ {K ps w}, G K ps w → N0 ≤ w.heap.size
 lt : ∀ {K ps w}, G K ps w → ∀ k, K k → k < w.heap.size
theorem RefFrame.below {N0 x : Nat} {s : Int × Int × Int} {G : (Nat → Prop) → List Pg → World → Prop} (hG : RefFrame N0 x s G) {K : Nat → Prop} {ps : List Pg} {w w' : World} (h : G K ps w) (hb : Below w.heap.size w w') : G K ps w' := hG.less (hG.keep h hb) (fun k hk => .inl hk)
theorem RefFrame.still {N0 x : Nat} {s : Int × Int × Int} {G : (Nat → Prop) → List Pg → World → Prop} (hG : RefFrame N0 x s G) {K : Nat → Prop} {ps : List Pg} {w w' : World} (h : G K ps w) (hb : Below w.heap.size w w') : G K ps w' ∧ Below N0 w w' ∧ Kept K w w' := ⟨hG.below h hb, hb.mono (hG.size h), fun k hk => hb.block k (hG.lt h k hk)⟩
theorem two_refFrame (N0 p x : Nat) (s : Int × Int × Int) (D : PD) : RefFrame N0 x s (fun K ps w => Two K N0 p x D s ps w) where
 ref := fun h => by
  obtain ⟨okD, okX, _, hX, _⟩ := h
  exact ⟨okX, hX⟩
 keep := fun h hb => h.keep hb
 less := fun h hk => h.less hk
 upd := fun h hc => h.ref hc
 size := fun h => h.size
 lt := fun h k hk => by
  obtain ⟨_, _, _, _, _, _, _, _, hK⟩ := h
  exact (hK k hk).1
section
variable {N0 p : Nat} {F : (Nat → Prop) → PD → World → Prop} {K : Nat → Prop} {D : PD} {w : World}
theorem DevFrame.write (hF : DevFrame N0 p F) (h : F K D w) (a b : Int) (A : Option Addr) (c : Nat) (l : List Int) (hl : kB.C w A l.length l) (hm : D.dirty.length < 1000000) :
  Calls Tryz.prog 113 #[.pointer (some ⟨p, 0, none⟩), .int .i64 a, .int .i64 b, .slice A l.length c] w fun e w' => e = .returned (.int .i64 (writeE D a b l)) ∧ F K (writeD D a b l) w' ∧ Below N0 w w' ∧ Kept K w w' :=
 hF.upd h (fun ok hD => Write_any hD a b A c l hl hm)
theorem DevFrame.shape (hF : DevFrame N0 p F) (h : F K D w) : ShapeOk D.s := by
 obtain ⟨ok, m, v, es, ck, hD⟩ := hF.dev h
 exact hD.shape
set_option maxHeartbeats 1000000 in
set_option maxRecDepth 100000 in
theorem there_any {ok : Nat → Prop} (hD : DevIs N0 p D ok w) (a b : Int) : Calls Tryz.prog 88 #[.pointer (some ⟨p, 0, none⟩), .int .i64 a, .int .i64 b] w fun e w' => e = .returned (.int .i64 (hasE D.s a b)) ∧ Below w.heap.size w w' := by
 have hr := Read_any hD a b
 have HR := Lib.hid hr
 clear hr hD
 go_enter Tryz.func88, Tryz.ntmps88
 go_wp2_with (go_at_call 60; (with_reducible refine HR.out.mono ?_); rintro e w1 ⟨v, rfl, _, hb⟩; have HB := Aside0.mk hb; clear hb)
 go_ret
 exact ⟨rfl, HB.out⟩
def fitsS (s : Int × Int × Int) (page : Int) (n : Nat) : Bool := decide (n ≤ 4096 ∧ 0 ≤ page ∧ page ≤ s.2.1 ∧ (kpg s n : Int) ≤ s.2.1 - page)
set_option maxHeartbeats 1000000 in
set_option maxRecDepth 100000 in
theorem Fits_ok (s : Int × Int × Int) (hs : ShapeOk s) (page : Int) (n : Nat) (hn : n ≤ 9223372036854775807) (w : World) :
  Calls Tryz.prog 84 #[.agg #[.int .i64 s.1, .int .i64 s.2.1, .int .i64 s.2.2], .int .i64 page, .int .i64 (n : Int)] w fun e w' => e = .returned (.bool (fitsS s page n)) ∧ Below w.heap.size w w' := by
 obtain ⟨W, hW⟩ : ∃ W, W = w.alloc (.cells #[.int .i64 s.1, .int .i64 s.2.1, .int .i64 s.2.2] 23) := ⟨_, rfl⟩
 have q0 : W.heap[w.heap.size]? = some (.cells #[.int .i64 s.1, .int .i64 s.2.1, .int .i64 s.2.2] 23 (0, 0)) := by rw [hW]; exact blk_new w _
 have qb : Below w.heap.size w W := by rw [hW]; exact below_alloc (Below.refl _ _) _
 have hbox : ∀ X : World, Below W.heap.size W X → X.cell? ⟨w.heap.size, 1, none⟩ = some (.int .i64 s.2.1) ∧ X.cell? ⟨w.heap.size, 2, none⟩ = some (.int .i64 s.2.2) := fun X hX => by
  have := (hX.block _ (blt q0)).trans q0
  exact ⟨bcell this 1, bcell this 2⟩
 obtain ⟨k, hk⟩ : ∃ k : Nat, k = if n ≤ 4096 then kpg s n else 0 := ⟨_, rfl⟩
 have hpg : Calls Tryz.prog 85 #[.int .i64 (n : Int), .int .i64 s.2.2] W fun e w' => e = .returned (.int .i64 (k : Int)) ∧ Below W.heap.size W w' := by
  by_cases h : n ≤ 4096
  ·rw [hk, if_pos h]; exact Pages_ok n s hs h W
  ·rw [hk, if_neg h]; exact Pages_no n s (by omega) hn W
 have hkb : k ≤ 257 ∧ (n ≤ 4096 → 1 ≤ k) ∧ (4096 < n → k = 0) := by
  by_cases h : n ≤ 4096
  ·rw [hk, if_pos h]
   have := kpg_bd hs h
   exact ⟨this.2, fun _ => this.1, fun _ => by omega⟩
  ·rw [hk, if_neg h]
   exact ⟨by omega, fun _ => by omega, fun _ => rfl⟩
 have hfs : fitsS s page n = decide (0 < k ∧ 0 ≤ page ∧ page ≤ s.2.1 ∧ (k : Int) ≤ s.2.1 - page) := by
  unfold fitsS
  by_cases h : n ≤ 4096
  ·have : k = kpg s n := by rw [hk, if_pos h]
   rw [← this]
   have := hkb.2.1 h
   congr 1
   exact propext ⟨fun ⟨_, h2⟩ => ⟨by omega, h2⟩, fun ⟨_, h2⟩ => ⟨h, h2⟩⟩
  ·rw [decide_eq_false (fun hh => h hh.1), decide_eq_false (fun hh => by have := hkb.2.2 (by omega); omega)]
 rw [hfs]
 have hp1 := hs.b0
 have hp2 := hs.b1
 have hk3 := hkb.1
 obtain ⟨y1, y2⟩ := hbox W (Below.refl _ _)
 have HPG := Lib.hid hpg
 have HW := Lib.hid hW
 have QB := Aside0.mk qb
 have HBOX := Lib.hid hbox
 clear hpg hW q0 qb hbox hkb hfs hk hn
 by_cases h1 : 0 ≤ page
 ·by_cases h2 : 0 < k
  ·have e2 : decide ((0 : Int) < (k : Int)) = true := by simp; omega
   by_cases h3 : page ≤ s.2.1
   ·by_cases h4 : (k : Int) ≤ s.2.1 - page
    ·have HR := Lib.hid (show decide (0 < k ∧ 0 ≤ page ∧ page ≤ s.2.1 ∧ (k : Int) ≤ s.2.1 - page) = true from decide_eq_true ⟨h2, h1, h3, h4⟩)
     have e4 : decide ((k : Int) ≤ s.2.1 - page) = true := by simp; omega
     go_enter Tryz.func84, Tryz.ntmps84
     go_wp2_with fail
     rw [← HW.out]
     go_wp2_with (go_at_call 85; (with_reducible refine HPG.out.mono ?_); rintro e w1 ⟨rfl, hb⟩; obtain ⟨z1, z2⟩ := HBOX.out _ hb; have HB := Aside0.mk hb; clear hb)
     go_ret
     exact ⟨by rw [HR.out]; rfl, QB.out.trans (HB.out.mono QB.out.size)⟩
    ·have e4 : decide ((k : Int) ≤ s.2.1 - page) = false := by simp; omega
     have HR := Lib.hid (show decide (0 < k ∧ 0 ≤ page ∧ page ≤ s.2.1 ∧ (k : Int) ≤ s.2.1 - page) = false from decide_eq_false (fun hh => by omega))
     go_enter Tryz.func84, Tryz.ntmps84
     go_wp2_with fail
     rw [← HW.out]
     go_wp2_with (go_at_call 85; (with_reducible refine HPG.out.mono ?_); rintro e w1 ⟨rfl, hb⟩; obtain ⟨z1, z2⟩ := HBOX.out _ hb; have HB := Aside0.mk hb; clear hb)
     go_ret
     exact ⟨by rw [HR.out]; rfl, QB.out.trans (HB.out.mono QB.out.size)⟩
   ·have e3 : decide (page ≤ s.2.1) = false := by simp; omega
    have HR := Lib.hid (show decide (0 < k ∧ 0 ≤ page ∧ page ≤ s.2.1 ∧ (k : Int) ≤ s.2.1 - page) = false from decide_eq_false (fun hh => by omega))
    go_enter Tryz.func84, Tryz.ntmps84
    go_wp2_with fail
    rw [← HW.out]
    go_wp2_with (go_at_call 85; (with_reducible refine HPG.out.mono ?_); rintro e w1 ⟨rfl, hb⟩; obtain ⟨z1, z2⟩ := HBOX.out _ hb; have HB := Aside0.mk hb; clear hb)
    go_ret
    exact ⟨by rw [HR.out]; rfl, QB.out.trans (HB.out.mono QB.out.size)⟩
  ·have e2 : decide ((0 : Int) < (k : Int)) = false := by simp; omega
   have HR := Lib.hid (show decide (0 < k ∧ 0 ≤ page ∧ page ≤ s.2.1 ∧ (k : Int) ≤ s.2.1 - page) = false from decide_eq_false (fun hh => by omega))
   go_enter Tryz.func84, Tryz.ntmps84
   go_wp2_with fail
   rw [← HW.out]
   go_wp2_with (go_at_call 85; (with_reducible refine HPG.out.mono ?_); rintro e w1 ⟨rfl, hb⟩; obtain ⟨z1, z2⟩ := HBOX.out _ hb; have HB := Aside0.mk hb; clear hb)
   go_ret
   exact ⟨by rw [HR.out]; rfl, QB.out.trans (HB.out.mono QB.out.size)⟩
 ·have e1 : decide (0 ≤ page) = false := by simp; omega
  have HR := Lib.hid (show decide (0 < k ∧ 0 ≤ page ∧ page ≤ s.2.1 ∧ (k : Int) ≤ s.2.1 - page) = false from decide_eq_false (fun hh => by omega))
  go_enter Tryz.func84, Tryz.ntmps84
  go_wp2_with fail
  rw [← HW.out]
  go_wp2_with (go_at_call 85; (with_reducible refine HPG.out.mono ?_); rintro e w1 ⟨rfl, hb⟩; obtain ⟨z1, z2⟩ := HBOX.out _ hb; have HB := Aside0.mk hb; clear hb)
  go_ret
  exact ⟨by rw [HR.out]; rfl, QB.out.trans (HB.out.mono QB.out.size)⟩
end
end Go.Proofs.YtmbiebdcnadhkaaGreat.Fl
namespace Go.Proofs.YtmbiebdcnadhkaaGreat.Fl
open Go.RowKit Go.Proofs.YtmbiebdcnadhkaaGreatW.PrintWords Go.Proofs.YtmbiebdcnadhkaaGreatW.PrintMore Go.Maps
theorem writeD_dirty (D : PD) (a b : Int) (l : List Int) : (writeD D a b l).dirty.length ≤ D.dirty.length + 1 := by
 unfold writeD
 split
 ·simp
 ·omega
theorem wrD_dirty (a : Int) : ∀ (rs : List (List Int)) (b : Int) (D : PD), (wrD a b rs D).dirty.length ≤ D.dirty.length + rs.length
 | [], _, _ => Nat.le_refl _
 | r :: rs, b, D => by
  have h1 := wrD_dirty a rs (b + 1) (writeD D a b r)
  have h2 := writeD_dirty D a b r
  show (wrD a (b + 1) rs (writeD D a b r)).dirty.length ≤ _
  rw [List.length_cons]
  omega
theorem anyUsedD_true {a b : Int} {k i : Nat} {D : PD} (hi : i < k) (h : usedB D a (b + (i : Int)) = true) : anyUsedD a b k D = true := by
 unfold anyUsedD
 rw [List.any_eq_true]
 exact ⟨i, by simpa using hi, h⟩
theorem anyUsedD_false {a b : Int} {k : Nat} {D : PD} (h : ∀ i : Nat, i < k → usedB D a (b + (i : Int)) = false) : anyUsedD a b k D = false := by
 unfold anyUsedD
 rw [List.any_eq_false]
 intro i hi
 rw [h i (by simpa using hi)]
 decide
section
variable {N0 p : Nat} {F : (Nat → Prop) → PD → World → Prop} {K : Nat → Prop} {D : PD} {w : World} {A : Option Addr} {c : Nat} {l : List Int} {kind seq : Int}
theorem kept_R {T : TypeId} {w w9 wr : World} {v : Value} {rows : List (List Int)} {K : Nat → Prop} (h : kData.R T w9 w.heap.size (fun k => w.heap.size ≤ k) v rows) (hk : Kept (fun k => K k ∨ (w.heap.size ≤ k ∧ k < w9.heap.size)) w9 wr) : kData.R T wr w.heap.size (fun k => w.heap.size ≤ k) v rows :=
 Kd.R_step h (fun k h1 h2 => hk k (.inr ⟨h1, h2⟩))
set_option maxHeartbeats 4000000 in
set_option maxRecDepth 100000 in
theorem Append_F (hF : DevFrame N0 p F) (h : F K D w) (a b : Int) (hk : KindOk kind) (hs : SeqOk seq) (hl : Byt l) (hC : kB.C w A l.length l) (hc : l.length ≤ c) (hm : l.length < 1000000) (hd : D.dirty.length < 900000) :
  Calls Tryz.prog 87 #[.pointer (some ⟨p, 0, none⟩), .int .i64 a, .int .i64 b, .int .u64 seq, .int .u8 kind, .slice A l.length c] w fun e w' => e = .returned (.tuple #[.int .i64 (appE D a b l.length).1, .int .i64 (appE D a b l.length).2]) ∧ F K (appD D a b l.length (rec kind seq l)) w' ∧ Below N0 w w' ∧ Kept K w w' := by
 have hsh := hF.shape h
 have hex := hF.dev h
 obtain ⟨ok, hD⟩ := hex
 have hth := there_any hD a b
 have hshape := fun (X : World) (hX : Below w.heap.size w X) => Shape_any (hD.below hX)
 have hused := fun (X : World) (hX : Below w.heap.size w X) (y : Int) => Used_any (hD.below hX) a y
 obtain ⟨n, hn⟩ : ∃ n, n = l.length := ⟨_, rfl⟩
 have HF := Lib.hid hF
 have HH := Aside0.mk h
 have HN := Lib.hid hn
 have HST := Lib.hid (fun (X : World) (hX : Below w.heap.size w X) => hF.still h hX)
 have HSHP := Lib.hid hshape
 have HUSED := Lib.hid hused
 have HOK := Lib.hid hsh
 have HDD := Lib.hid hd
 have HKK := Lib.hid hk
 have HSS := Lib.hid hs
 have HBL := Lib.hid hl
 have HCA := Aside0.mk hC
 have nm : (n : Int) < 1000000 := by omega
 rw [← hn] at hc hm
 rw [← hn]
 cases hb : hasB D.s a b with
 | false =>
  have hE : appE D a b n = (0, 6) := by unfold appE; rw [hb]; rfl
  have hA : appD D a b n (rec kind seq l) = D := by unfold appD; rw [hE]; rfl
  rw [hE, hA]
  rw [hasE, if_neg (by rw [hb]; decide)] at hth
  have HTH := Lib.hid hth
  clear hb hE hA hth hF h hn hsh hD hshape hused hd hk hs hl hC hc hm
  go_enter Tryz.func87, Tryz.ntmps87
  go_wp2_with (go_at_call 88; (with_reducible refine HTH.out.mono ?_); rintro e w1 ⟨rfl, hb⟩; have HB := Aside0.mk hb; clear hb)
  go_ret2
  exact ⟨rfl, HST.out _ HB.out⟩
 | true =>
  rw [hasE, if_pos hb] at hth
  have HTH := Lib.hid hth
  have HHB := Lib.hid hb
  have hab := (hasB_iff _ _ _).1 hb
  have b0 : 0 ≤ b := hab.2.2.1
  have b1 : b < 64 := by have := hab.2.2.2; have := hsh.b1; omega
  by_cases hlen : n ≤ 4096
  ·have hput := fun (X : World) (hX : Below w.heap.size w X) => Put_ok (w := X) (A := A) (c := c) hk hs hl (Kd.C_below hC hX) (by rw [← hn]; exact hc) (by rw [← hn]; exact hlen)
   rw [← hn] at hput
   have hfit := fun (X : World) => Fits_ok D.s hsh b n (by omega) X
   have hkb := kpg_bd hsh hlen
   obtain ⟨k, hkd⟩ : ∃ k, k = kpg D.s n := ⟨_, rfl⟩
   have HPUT := Lib.hid hput
   cases hfs : fitsS D.s b n with
   | false =>
    have hE : appE D a b n = (0, 5) := by
     unfold appE
     unfold fitsS at hfs
     rw [decide_eq_false_iff_not] at hfs
     rw [if_neg (by rw [hb]; decide), if_neg (by omega), if_pos]
     have := hab.2.2.2
     exact Int.not_le.1 (fun hh => hfs ⟨hlen, b0, by omega, by omega⟩)
    have hA : appD D a b n (rec kind seq l) = D := by unfold appD; rw [hE]; rfl
    rw [hfs] at hfit
    have HFIT := Lib.hid hfit
    rw [hE, hA]
    clear hb hE hA hth hF h hn hsh hD hshape hused hd hk hs hl hC hc hm hput hfit hkb hkd hfs hab
    go_enter Tryz.func87, Tryz.ntmps87
    go_wp2_with (first
     | (go_at_call 88; (with_reducible refine HTH.out.mono ?_); rintro e w1 ⟨rfl, hb⟩; have HB1 := Aside0.mk hb; clear hb)
     | (go_at_call 111; (with_reducible refine (HPUT.out _ HB1.out).mono ?_); rintro e w2 ⟨A2, c2, rfl, hc2, hC2, hb⟩; have HC2 := Aside0.mk hC2; have HCC := Lib.hid hc2; have HB2 := Aside0.mk (HB1.out.trans (hb.mono HB1.out.size)); clear hb hC2 hc2)
     | (go_at_call 58; (with_reducible refine (HSHP.out _ HB2.out).mono ?_); rintro e w3 ⟨rfl, hb⟩; have HB3 := Aside0.mk (HB2.out.trans (hb.mono HB2.out.size)); clear hb)
     | (go_at_call 84; (with_reducible refine (HFIT.out _).mono ?_); rintro e w4 ⟨rfl, hb⟩; have HB4 := Aside0.mk (HB3.out.trans (hb.mono HB3.out.size)); clear hb))
    go_ret2
    exact ⟨rfl, HST.out _ HB4.out⟩
   | true =>
    have hfp : (k : Int) ≤ D.s.2.1 - b := by
     unfold fitsS at hfs
     rw [decide_eq_true_eq] at hfs
     rw [hkd]
     exact hfs.2.2.2
    obtain ⟨nb, hnb⟩ := Int.eq_ofNat_of_zero_le (show 0 ≤ D.s.2.2 by have := hsh.c0; omega)
    have hnb0 : 16 ≤ nb := by have := hsh.c0; omega
    have hnb1 : nb ≤ 256 := by have := hsh.c1; omega
    obtain ⟨R0, hR0⟩ : ∃ R0, R0 = rec kind seq l := ⟨_, rfl⟩
    have hRl : R0.length = n + 16 := by rw [hR0, rec_len, hn]
    have hkl : (padL nb R0).length = k := by
     rw [padL_len (by omega) R0.length R0 (Nat.le_refl _), hRl, hkd, kpg, hnb]
     rfl
    have hcl : (chunkL nb R0).length = k := by
     rw [← hkl, padL_chunks (by omega), List.length_map]
    have hpad : ∀ X : World, Below w.heap.size w X → ∀ (A2 : Option Addr) (c2 : Nat), kB.C X A2 (n + 16) R0 → n + 16 ≤ c2 → Calls Tryz.prog 112 #[.slice A2 (n + 16) c2, .int .i64 (nb : Int)] X fun e w' => ∃ B d, e = .returned (.slice B k d) ∧ kData.R 25 w' w.heap.size (fun k => w.heap.size ≤ k) (.slice B k d) (padL nb R0) ∧ Below w.heap.size w w' := by
     intro X hX A2 c2 hC2 hc2
     rw [← hRl] at hC2 hc2 ⊢
     refine (Pad_any hC2 hc2 (by omega) nb (by omega) (by omega)).mono fun e w' ⟨v, e1, hr, hb⟩ => ?_
     obtain ⟨B, d, rfl⟩ := Kd.R_slice hr
     rw [hkl] at e1 hr
     exact ⟨B, d, e1, Kd.R_mono (Kd.R_lower hr hX.size) (fun k hk => Nat.le_trans hX.size hk), hX.trans (hb.mono hX.size)⟩
    rw [← hR0] at hput
    rw [hfs, hnb] at hfit
    rw [hnb] at hshape
    have HPUT := Lib.hid hput
    have HFIT := Lib.hid hfit
    have HSHP := Lib.hid hshape
    have HPAD := Lib.hid hpad
    have hrow : ∀ i r, (chunkL nb R0)[i]? = some r → (padL nb R0)[i]? = some (full nb r) ∧ r.length ≤ nb := fun i r hi => by
     rw [padL_chunks (by omega), List.getElem?_map, hi]
     exact ⟨rfl, chunk_le (by omega) r (List.mem_of_getElem? hi)⟩
    have HROW := Lib.hid hrow
    have HCL := Lib.hid hcl
    have HNB := Lib.hid hnb
    have HKD := Lib.hid hkd
    have HR0 := Lib.hid hR0
    have k257 : k ≤ 257 := by omega
    have HFP := Lib.hid hfp
    rw [← hR0]
    clear hth hn hsh hD hshape hused hk hs hl hC hc hm hput hfit hkb hkd hfs hab hfp hnb hR0 hRl hkl hcl hpad hrow HSHP
    have HSHP := Lib.hid (show ∀ (X : World), Below w.heap.size w X → Calls Tryz.prog 58 #[.pointer (some ⟨p, 0, none⟩)] X fun e w' => e = .returned (.agg #[.int .i64 D.s.1, .int .i64 D.s.2.1, .int .i64 (nb : Int)]) ∧ Below X.heap.size X w' from fun X hX => by
     obtain ⟨ok, hD⟩ := hF.dev h
     have := Shape_any (hD.below hX)
     rw [HNB.out] at this
     exact this)
    clear hb hF h hd
    have hf3 := run_shape3
    go_enter Tryz.func87, Tryz.ntmps87
    go_wp2_with (first
     | (go_at_call 88; (with_reducible refine HTH.out.mono ?_); rintro e w1 ⟨rfl, hb⟩; have HB1 := Aside0.mk hb; clear hb)
     | (go_at_call 111; (with_reducible refine (HPUT.out _ HB1.out).mono ?_); rintro e w2 ⟨A2, c2, rfl, hc2, hC2, hb⟩; have HC2 := Aside0.mk hC2; have HCC := Lib.hid hc2; have HB2 := Aside0.mk (HB1.out.trans (hb.mono HB1.out.size)); clear hb hC2 hc2)
     | (go_at_call 58; (with_reducible refine (HSHP.out _ HB2.out).mono ?_); rintro e w3 ⟨rfl, hb⟩; have HC3 := Aside0.mk (Kd.C_below HC2.out hb); have HB3 := Aside0.mk (HB2.out.trans (hb.mono HB2.out.size)); clear hb)
     | (go_at_call 84; (with_reducible refine (HFIT.out _).mono ?_); rintro e w4 ⟨rfl, hb⟩; have HC4 := Aside0.mk (Kd.C_below HC3.out hb); have HB4 := Aside0.mk (HB3.out.trans (hb.mono HB3.out.size)); clear hb)
     | (go_at_call 58; (with_reducible refine (HSHP.out _ HB4.out).mono ?_); rintro e w5 ⟨rfl, hb⟩; have HC5 := Aside0.mk (Kd.C_below HC4.out hb); have HB5 := Aside0.mk (HB4.out.trans (hb.mono HB4.out.size)); clear hb)
     | (go_at_call 112; (with_reducible refine (HPAD.out _ HB5.out _ _ HC5.out HCC.out).mono ?_); rintro e w6 ⟨B, d, rfl, hr, hb⟩; have HR6 := Aside0.mk hr; have HB6 := Aside0.mk hb; clear hb hr))
    clear hf3
    go_loopw [55] (fun v55 wr => ∃ i : Nat, i ≤ k ∧ v55 = .int .i64 (i : Int) ∧ Below w6.heap.size w6 wr ∧ ∀ j : Nat, j < i → usedB D a (b + (j : Int)) = false) (fun v55 _ => k - (intOf v55).toNat)
    case atStart => exact ⟨0, Nat.zero_le _, rfl, Below.refl _ _, fun j hj => by omega⟩
    case round =>
     obtain ⟨i, hi, rfl, hbi, hpre⟩ := hrel
     have HI := Aside0.mk hbi
     have HPRE := Lib.hid hpre
     have HBW := Aside0.mk (HB6.out.trans (hbi.mono HB6.out.size))
     clear hbi hpre
     by_cases hlt : i < k
     ·have i0 : (0 : Int) ≤ (i : Int) := by omega
      have i2 : (i : Int) < (k : Int) := by omega
      have i3 : (i : Int) < 257 := by omega
      have hus := HUSED.out _ HBW.out (b + (i : Int))
      cases hu : usedB D a (b + (i : Int)) with
      | true =>
       rw [hu] at hus
       have hE : appE D a b n = (0, 7) := by
        unfold appE
        rw [if_neg (by rw [HHB.out]; decide), if_neg (by omega), if_neg (by have := HFP.out; have := HKD.out; omega), if_pos (by rw [← HKD.out]; exact anyUsedD_true hlt hu)]
       have hA : appD D a b n R0 = D := by unfold appD; rw [hE]; rfl
       have HUS := Lib.hid hus
       have HE := Lib.hid hE
       have HA := Lib.hid hA
       clear hE hA hus hu
       go_wp2_with (go_at_call 63; (with_reducible refine HUS.out.mono ?_); rintro e w7 ⟨rfl, rfl⟩)
       go_ret2
       rw [HE.out, HA.out]
       exact ⟨rfl, HST.out _ HBW.out⟩
      | false =>
       rw [hu] at hus
       have HUS := Lib.hid hus
       have HU := Lib.hid hu
       clear hus hu
       go_wp2_with (go_at_call 63; (with_reducible refine HUS.out.mono ?_); rintro e w7 ⟨rfl, rfl⟩)
       refine ⟨⟨i + 1, by omega, by go_num, HI.out, fun j hj => ?_⟩, by simp [intOf]; omega⟩
       rcases Nat.lt_or_ge j i with h2 | h2
       ·exact HPRE.out j h2
       ·obtain rfl : j = i := by omega
        exact HU.out
     ·obtain rfl : i = k := by omega
      have hE : appE D a b n = ((i : Int), 0) := by
       unfold appE
       rw [if_neg (by rw [HHB.out]; decide), if_neg (by omega), if_neg (by have := HFP.out; have := HKD.out; omega), if_neg (by rw [← HKD.out, anyUsedD_false HPRE.out]; decide), ← HKD.out]
      have hA : appD D a b n R0 = wrD a b (chunkL nb R0) D := by unfold appD; rw [hE, if_pos rfl, HNB.out]; rfl
      have HE := Lib.hid hE
      have HA := Lib.hid hA
      obtain ⟨wa, rfl⟩ : ∃ wa : World, wa = wr := ⟨_, rfl⟩
      have HRA := Aside0.mk (Kd.R_below HR6.out HI.out)
      have HK0 := Aside0.mk (HF.out.keep HH.out HBW.out)
      clear hE hA hlt
      go_wp2
      go_loopw [67] (fun v67 wr => ∃ j : Nat, j ≤ i ∧ v67 = .int .i64 (j : Int) ∧ F (fun k => K k ∨ (w.heap.size ≤ k ∧ k < wa.heap.size)) (wrD a b ((chunkL nb R0).take j) D) wr ∧ Below N0 wa wr ∧ Kept (fun k => K k ∨ (w.heap.size ≤ k ∧ k < wa.heap.size)) wa wr) (fun v67 _ => i - (intOf v67).toNat)
      case atStart => exact ⟨0, Nat.zero_le _, rfl, HK0.out, Below.refl _ _, fun _ _ => rfl⟩
      case round =>
       obtain ⟨j, hj, rfl, hf, hbj, hkj⟩ := hrel
       have HFJ := Aside0.mk hf
       have HBJ := Aside0.mk hbj
       have HKJ := Lib.hid hkj
       clear hf hbj hkj
       by_cases hltj : j < i
       ·obtain ⟨r, hr⟩ : ∃ r, (chunkL nb R0)[j]? = some r := ⟨_, List.getElem?_eq_getElem (by have := HCL.out; omega)⟩
        obtain ⟨hp1, hp2⟩ := HROW.out j r hr
        have hRj := kept_R HRA.out HKJ.out
        have hCd := (Kd.R_reads' hRj).2.2
        obtain ⟨ad, A1, c1, hB, hcell, hlc, hCr⟩ := data_cell hCd hp1
        have hfl : (full nb r).length = nb := full_length hp2
        subst hB
        have hds : (wrD a b ((chunkL nb R0).take j) D).s = D.s := wrD_s a _ b D
        have hdd : (wrD a b ((chunkL nb R0).take j) D).dirty.length < 1000000 := by
         have h1 := wrD_dirty a ((chunkL nb R0).take j) b D
         have h2 := HDD.out
         rw [List.length_take] at h1
         omega
        have hw := HF.out.write HFJ.out a (b + (j : Int)) A1 c1 (full nb r) hCr hdd
        have hnx : writeD (wrD a b ((chunkL nb R0).take j) D) a (b + (j : Int)) (full nb r) = wrD a b ((chunkL nb R0).take (j + 1)) D := by
         have h1 := writeD_full (D := wrD a b ((chunkL nb R0).take j) D) (a := a) (b := b + (j : Int)) (l := r) (by rw [hds, HNB.out]; omega) (by rw [hds, HNB.out]; exact hp2)
         rw [hds, HNB.out] at h1
         rw [show ((nb : Nat) : Int).toNat = nb from rfl] at h1
         rw [h1, List.take_add_one, hr]
         show _ = wrD a b ((chunkL nb R0).take j ++ [r]) D
         rw [wrD_snoc, List.length_take, Nat.min_eq_left (by have := HCL.out; omega)]
        rw [hnx, hfl] at hw
        rw [hfl] at hcell
        have HW := Lib.hid hw
        have j0 : (0 : Int) ≤ (j : Int) := by omega
        have j2 : (j : Int) < (i : Int) := by omega
        have j3 : (j : Int) < 257 := by omega
        clear hr hp1 hp2 hRj hCd hCr hfl hds hdd hw hnx hlc
        go_wp2_with (go_at_call 113; (with_reducible refine HW.out.mono ?_); rintro e w8 ⟨rfl, hf8, hb8, hk8⟩; have HF8 := Aside0.mk hf8; have HB8 := Aside0.mk hb8; have HK8 := Lib.hid hk8; clear hf8 hb8 hk8)
        exact ⟨⟨j + 1, by omega, by go_num, HF8.out, HBJ.out.trans HB8.out, fun k hk => (HK8.out k hk).trans (HKJ.out k hk)⟩, by simp [intOf]; omega⟩
       ·obtain rfl : j = i := by omega
        have hfin : F K (wrD a b (chunkL nb R0) D) wr := by
         have h1 := HF.out.less HFJ.out (K' := K) (fun k hk => .inl hk)
         rwa [List.take_of_length_le (by have := HCL.out; omega)] at h1
        have HFIN := Aside0.mk hfin
        clear hfin
        go_wp2
        go_ret2
        rw [HE.out, HA.out]
        refine ⟨rfl, HFIN.out, (HBW.out.mono (HF.out.size HH.out)).trans HBJ.out, fun k hk => (HKJ.out k (.inl hk)).trans (HBW.out.block k (HF.out.lt HH.out k hk))⟩
  ·have hE : appE D a b n = (0, 10) := by
    unfold appE
    rw [if_neg (by rw [hb]; decide), if_pos (by omega)]
   have hA : appD D a b n (rec kind seq l) = D := by unfold appD; rw [hE]; rfl
   have hput := fun (X : World) (hX : Below w.heap.size w X) => Put_no (w := X) (A := A) (c := c) (kind := kind) (seq := seq) (Kd.C_below hC hX) (by rw [← hn]; exact hc) (by rw [← hn]; omega)
   rw [← hn] at hput
   have HPUT := Lib.hid hput
   rw [hE, hA]
   clear hb hE hA hth hF h hn hsh hD hshape hused hd hk hs hl hC hc hm hput hab hlen
   go_enter Tryz.func87, Tryz.ntmps87
   go_wp2_with (first
    | (go_at_call 88; (with_reducible refine HTH.out.mono ?_); rintro e w1 ⟨rfl, hb⟩; have HB1 := Aside0.mk hb; clear hb)
    | (go_at_call 111; (with_reducible refine (HPUT.out _ HB1.out).mono ?_); rintro e w2 ⟨v2, rfl, hb⟩; have HB2 := Aside0.mk (HB1.out.trans (hb.mono HB1.out.size)); clear hb))
   go_ret2
   exact ⟨rfl, HST.out _ HB2.out⟩
end
end Go.Proofs.YtmbiebdcnadhkaaGreat.Fl
namespace Go.Proofs.YtmbiebdcnadhkaaGreat.Fl
open Go.RowKit Go.Proofs.YtmbiebdcnadhkaaGreatW.PrintWords Go.Proofs.YtmbiebdcnadhkaaGreatW.PrintMore Go.Maps
theorem one_kind : KindOk 1 := ⟨by decide, by decide⟩
section
variable {N0 p : Nat} {F : (Nat → Prop) → PD → World → Prop} {K : Nat → Prop} {D : PD} {w : World} {seq : Int}
set_option maxHeartbeats 1000000 in
set_option maxRecDepth 100000 in
theorem Start_F (hF : DevFrame N0 p F) (h : F K D w) (a : Int) (hs : SeqOk seq) (hd : D.dirty.length < 900000) :
  Calls Tryz.prog 110 #[.pointer (some ⟨p, 0, none⟩), .int .i64 a, .int .u64 seq] w fun e w' => e = .returned (.int .i64 (appE D a 0 0).2) ∧ F K (appD D a 0 0 (rec 1 seq [])) w' ∧ Below N0 w w' ∧ Kept K w w' := by
 have hap := Append_F hF h a 0 one_kind hs Byt.nil (A := none) (c := 0) (Kd.C_nil kB w) (Nat.le_refl _) (by simp) hd
 rw [List.length_nil] at hap
 have HAP := Lib.hid hap
 clear hap hF h hs hd
 go_enter Tryz.func110, Tryz.ntmps110
 go_wp2_with (go_at_call 87; (with_reducible refine HAP.out.mono ?_); rintro e w1 ⟨rfl, hf, hb, hk⟩; have H1 := Aside0.mk hf; have H2 := Aside0.mk hb; have H3 := Lib.hid hk; clear hf hb hk)
 go_ret
 exact ⟨rfl, H1.out, H2.out, H3.out⟩
end
end Go.Proofs.YtmbiebdcnadhkaaGreat.Fl
namespace Go.Proofs.YtmbiebdcnadhkaaGreat.Fl
open Go.RowKit Go.Proofs.YtmbiebdcnadhkaaGreatW.PrintWords Go.Proofs.YtmbiebdcnadhkaaGreatW.PrintMore Go.Maps
section
variable {N0 p : Nat} {D : PD} {w : World} {ok : Nat → Prop}
end
end Go.Proofs.YtmbiebdcnadhkaaGreat.Fl
namespace Go.Proofs.YtmbiebdcnadhkaaGreat.Fl
open Go.RowKit Go.Proofs.YtmbiebdcnadhkaaGreatW.PrintWords Go.Proofs.YtmbiebdcnadhkaaGreatW.PrintMore Go.Maps
def Dat (w : World) (base : Nat) (ok : Nat → Prop) (v : Value) (l : List Int) : Prop :=
 ∃ A c, v = .slice A l.length c ∧ l.length ≤ c ∧ l.length ≤ 9223372036854775807 ∧ (l = [] ∨ ∃ g off cs, A = some ⟨g, off, none⟩ ∧ base ≤ g ∧ ok g ∧ w.heap[g]? = some (.cells cs TB (0, 0)) ∧ ∀ j x, l[j]? = some x → cs[off + j]? = some (.int .u8 x))
section
variable {w w' : World} {base base' : Nat} {ok ok' : Nat → Prop} {v : Value} {l : List Int}
theorem Dat.move (h : Dat w base ok v l) (hm : ∀ k, ok k → w'.heap[k]? = w.heap[k]?) : Dat w' base ok v l := by
 obtain ⟨A, c, h1, h2, h3, h4⟩ := h
 refine ⟨A, c, h1, h2, h3, h4.imp id ?_⟩
 rintro ⟨g, off, cs, e, hb, ho, hh, hc⟩
 exact ⟨g, off, cs, e, hb, ho, (hm g ho).trans hh, hc⟩
theorem Dat.mono (h : Dat w base ok v l) (hk : ∀ k, ok k → ok' k) : Dat w base ok' v l := by
 obtain ⟨A, c, h1, h2, h3, h4⟩ := h
 refine ⟨A, c, h1, h2, h3, h4.imp id ?_⟩
 rintro ⟨g, off, cs, e, hb, ho, hh, hc⟩
 exact ⟨g, off, cs, e, hb, hk g ho, hh, hc⟩
theorem Dat.lower (h : Dat w base ok v l) (hb : base' ≤ base) : Dat w base' ok v l := by
 obtain ⟨A, c, h1, h2, h3, h4⟩ := h
 refine ⟨A, c, h1, h2, h3, h4.imp id ?_⟩
 rintro ⟨g, off, cs, e, hg, ho, hh, hc⟩
 exact ⟨g, off, cs, e, by omega, ho, hh, hc⟩
theorem Dat.bound (h : Dat w base ok v l) : Dat w base (fun k => ok k ∧ base ≤ k ∧ k < w.heap.size ∧ ∃ q, q ∈ [TB] ∧ ∃ cells, w.heap[k]? = some (.cells cells q (0, 0))) v l := by
 obtain ⟨A, c, h1, h2, h3, h4⟩ := h
 refine ⟨A, c, h1, h2, h3, h4.imp id ?_⟩
 rintro ⟨g, off, cs, e, hg, ho, hh, hc⟩
 exact ⟨g, off, cs, e, hg, ⟨ho, hg, blt hh, TB, by simp, cs, hh⟩, hh, hc⟩
theorem Dat.step (h : Dat w base ok v l) (hm : ∀ k, ok k → k < w.heap.size → w'.heap[k]? = w.heap[k]?) : Dat w' base ok v l :=
 Dat.mono (Dat.move (Dat.bound h) (fun k hk => hm k hk.1 hk.2.2.1)) (fun _ hk => hk.1)
theorem Dat.below (h : Dat w base ok v l) (hb : Below w.heap.size w w') : Dat w' base ok v l := h.step (fun k _ hlt => hb.block k hlt)
theorem Dat.typed (h : Dat w base ok v l) (hm : ∀ k cs, w.heap[k]? = some (.cells cs TB (0, 0)) → ok k → w'.heap[k]? = w.heap[k]?) : Dat w' base ok v l :=
 Dat.mono (Dat.move (Dat.bound h) (fun k hk => by
  obtain ⟨h1, _, _, q, hq, cs, hc⟩ := hk
  obtain rfl : q = TB := by simpa using hq
  exact hm k cs hc h1)) (fun _ hk => hk.1)
theorem Dat.reads (h : Dat w base ok v l) : ∃ A c, v = .slice A l.length c ∧ l.length ≤ c ∧ kB.C w A l.length l := by
 obtain ⟨A, c, h1, h2, h3, h4⟩ := h
 refine ⟨A, c, h1, h2, Kd.C_of_reads (d := 0) ⟨rfl, h3, fun hn => ?_⟩⟩
 rcases h4 with rfl | ⟨g, off, cs, e, hg, ho, hh, hc⟩
 ·simp at hn
 ·refine ⟨_, e, fun j hj => ?_⟩
  have ha : (⟨g, off, none⟩ : Addr).add j = ⟨g, off + j, none⟩ := Addr.add_lit _ _ _
  rw [ha]
  have := hc j _ (List.getElem?_eq_getElem hj)
  simp [World.cell?, hh, this, List.getD_eq_getElem?_getD, hj]
end
structure En where
 a : Int
 b : Int
 seq : Int
 pages : Int
 kind : Int
 data : List Int
abbrev TE : TypeId := 35
def enC (e : En) (v : Value) : List Value := [.int .i64 e.a, .int .i64 e.b, .int .u64 e.seq, .int .i64 e.pages, .int .u8 e.kind, v]
def kEnt : Kd En where
 sz := 6
 E := [TB]
 K := fun w e cs => ∃ A c, cs = enC e (.slice A e.data.length c) ∧ e.data.length ≤ c ∧ kB.C w A e.data.length e.data
 M := fun w base ok e cs => ∃ v, cs = enC e v ∧ Dat w base ok v e.data
 K_len := by
  rintro w x cs ⟨A, c, rfl, _⟩
  rfl
 K_one := by
  rintro w x cs ⟨A, c, rfl, _⟩ u hu
  simp only [enC, List.mem_cons, List.not_mem_nil, or_false] at hu
  rcases hu with rfl | rfl | rfl | rfl | rfl | rfl <;> rfl
 K_below := by
  rintro w w1 x cs hb ⟨A, c, rfl, hl, hr⟩
  exact ⟨A, c, rfl, hl, Kd.C_below hr hb⟩
 K_of_M := by
  rintro w base ok x cs ⟨v, rfl, h⟩
  obtain ⟨A, c, rfl, hl, hr⟩ := h.reads
  exact ⟨A, c, rfl, hl, hr⟩
 M_mono := by
  rintro w base ok ok' x cs hok ⟨v, rfl, h⟩
  exact ⟨v, rfl, h.mono hok⟩
 M_bound := by
  rintro w base ok x cs ⟨v, rfl, h⟩
  exact ⟨v, rfl, h.bound⟩
 M_move := by
  rintro w w1 base ok x cs hm ⟨v, rfl, h⟩
  exact ⟨v, rfl, h.move hm⟩
 M_lower := by
  rintro w base base' ok x cs hb ⟨v, rfl, h⟩
  exact ⟨v, rfl, h.lower hb⟩
def BytD (D : PD) : Prop := ∀ a b, Byt (gotD D a b)
section
variable {w : World} {A : Option Addr} {c : Nat} {l : List Int}
end
end Go.Proofs.YtmbiebdcnadhkaaGreat.Fl
