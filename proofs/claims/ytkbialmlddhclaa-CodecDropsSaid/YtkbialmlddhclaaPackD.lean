/- The parts of this proof, one after the other (wip/tools/scratch/packdrops.py). -/
import Derived.Test.YtkbialmlddhclaaQCodecx0
import Derived.Test.YtkbialmlddhclaaPackB
import Derived.Test.YtkbialmlddhclaaQCodecx4
import Derived.Test.YtkbialmlddhclaaQCodecx5
import Derived.Test.YtkbialmlddhclaaQCodecx15
-- Written by myprint.py, a program of this session (in its repo under wip/tools), out of the loaded functions; Lean checks it.
namespace Go.Proofs.Ytkbialmlddhclaa.QCodec
open Go.RowKit Go.Proofs.YtkbialmlddhclaaW.PrintWords Go.Proofs.YtkbialmlddhclaaW.PrintLast Go.Proofs.YtkbialmlddhclaaW.PrintMore
attribute [local go_sem] max2_int min2_int max_two min_two max_three min_three max_four min_four   -- for this text's walks alone
set_option linter.unusedVariables false
set_option linter.unusedSimpArgs false

attribute [local go_sem high] eqA98
/-! ### spencelaw17_CodecDrops: function 14 -/
def spencelaw17_CodecDrops.j0 : Nat → List Int → Int → Bool → Int → Int → Bool → Option (Bool)
  | 0, _, _, _, _, _, _ => none
  | k + 1, x7, x8, x85, x344000, x344001, x344002 => if x85 = true then (some false) else ((spenceref17_RightDrop.f x344000 x344001 x344002).bind fun t364 => (if t364 = true then ((codec_GetDrop.f 5 x7).bind fun bt365 => (if x8 = 0 then ((spenceref17_Drop.f k x344000 x344001 x344002).bind fun t370 => ((spenceref01_Bytes.f k x7 t370).bind fun t373 => (if t373 = true then (if bt365.2.2.2 = 0 then (some (bt365.1 == x344000 && (bt365.2.1 == x344001 && (bt365.2.2.1)))) else (some false)) else (some false)))) else (some false))) else (if x8 = 1 then (some ((x7.length : Int) == 0)) else (some false))))
def spencelaw17_CodecDrops.f (k : Nat) (a0_0 : Int) (a0_1 : Int) (a0_2 : Bool) (a1 : Int) (l2 : List Int) : Option (Bool) := (spencelaw17_awake.f k).bind fun t344 => (if t344 = true then (if (l2.length : Int) > 300 then (some true) else ((codec_PutDrop.f k a0_0 a0_1 a0_2).bind fun bt345 => ((codec_GetDrop.f a1 l2).bind fun bt349 => ((spenceref17_GetDrop.f k a1 l2).bind fun bt354 => ((codec_Object.f k a1 l2).bind fun bt359 => ((spenceref17_Owner.f k 0 0 0 0 a1 l2).bind fun bt361 => (if (!(bt349.1 == bt354.1) || (!(bt349.2.1 == bt354.2.1) || (!(bt349.2.2.1 == bt354.2.2.1)))) = true then (spencelaw17_CodecDrops.j0 k bt345.1 bt345.2 true a0_0 a0_1 a0_2) else (if (bt354.2.2.2 != (bt349.2.2.2 == 0)) = true then (spencelaw17_CodecDrops.j0 k bt345.1 bt345.2 true a0_0 a0_1 a0_2) else (if bt354.2.2.2 = true then (if (bt359.2 != bt361.2.2) = true then (spencelaw17_CodecDrops.j0 k bt345.1 bt345.2 true a0_0 a0_1 a0_2) else (if bt361.2.2 = true then (spencelaw17_CodecDrops.j0 k bt345.1 bt345.2 (bt359.1 != bt361.1) a0_0 a0_1 a0_2) else (spencelaw17_CodecDrops.j0 k bt345.1 bt345.2 false a0_0 a0_1 a0_2))) else (if bt349.2.2.2 = 3 then (if (bt359.2 != bt361.2.2) = true then (spencelaw17_CodecDrops.j0 k bt345.1 bt345.2 true a0_0 a0_1 a0_2) else (if bt361.2.2 = true then (spencelaw17_CodecDrops.j0 k bt345.1 bt345.2 (bt359.1 != bt361.1) a0_0 a0_1 a0_2) else (spencelaw17_CodecDrops.j0 k bt345.1 bt345.2 false a0_0 a0_1 a0_2))) else (spencelaw17_CodecDrops.j0 k bt345.1 bt345.2 true a0_0 a0_1 a0_2))))))))))) else (some false))
theorem spencelaw17_CodecDrops.mono_l : ∀ k, (∀ y0 y1 y2 y3 y4 y5, LeO (spencelaw17_CodecDrops.j0 k y0 y1 y2 y3 y4 y5) (spencelaw17_CodecDrops.j0 (k + 1) y0 y1 y2 y3 y4 y5))
  | 0 => fun _ _ _ _ _ _ r h => by simp [spencelaw17_CodecDrops.j0] at h
  | k + 1 => by
    have ih0 := spencelaw17_CodecDrops.mono_l k
    · intro y0 y1 y2 y3 y4 y5
      unfold spencelaw17_CodecDrops.j0
      repeat' first
      | (with_reducible exact ih0 _ _ _ _ _ _)
      | (with_reducible exact codec_Object.mono _ _ _)
      | (with_reducible exact codec_PutDrop.mono _ _ _ _)
      | (with_reducible exact spencelaw17_awake.mono _)
      | (with_reducible exact spenceref01_Bytes.mono _ _ _)
      | (with_reducible exact spenceref17_Drop.mono _ _ _ _)
      | (with_reducible exact spenceref17_GetDrop.mono _ _ _)
      | (with_reducible exact spenceref17_Owner.mono _ _ _ _ _ _ _)
      | (with_reducible exact LeO.refl _)
      | (with_reducible exact LeO.none _)
      | (with_reducible refine LeO.ite ?_ ?_)
      | (with_reducible refine LeO.bind ?_ (fun _ => ?_))
      | exact ih0 _ _ _ _ _ _
      | exact codec_Object.mono _ _ _
      | exact codec_PutDrop.mono _ _ _ _
      | exact spencelaw17_awake.mono _
      | exact spenceref01_Bytes.mono _ _ _
      | exact spenceref17_Drop.mono _ _ _ _
      | exact spenceref17_GetDrop.mono _ _ _
      | exact spenceref17_Owner.mono _ _ _ _ _ _ _
      | exact LeO.none _
      | refine LeO.ite ?_ ?_
      | refine LeO.bind ?_ (fun _ => ?_)
theorem spencelaw17_CodecDrops.mono : ∀ a0 a1 a2 a3 a4 k, LeO (spencelaw17_CodecDrops.f k a0 a1 a2 a3 a4) (spencelaw17_CodecDrops.f (k + 1) a0 a1 a2 a3 a4) := by
  intro a0 a1 a2 a3 a4 k
  have ih0 := spencelaw17_CodecDrops.mono_l k
  unfold spencelaw17_CodecDrops.f
  repeat' first
      | (with_reducible exact ih0 _ _ _ _ _ _)
      | (with_reducible exact codec_Object.mono _ _ _)
      | (with_reducible exact codec_PutDrop.mono _ _ _ _)
      | (with_reducible exact spencelaw17_awake.mono _)
      | (with_reducible exact spenceref01_Bytes.mono _ _ _)
      | (with_reducible exact spenceref17_Drop.mono _ _ _ _)
      | (with_reducible exact spenceref17_GetDrop.mono _ _ _)
      | (with_reducible exact spenceref17_Owner.mono _ _ _ _ _ _ _)
      | (with_reducible exact LeO.refl _)
      | (with_reducible exact LeO.none _)
      | (with_reducible refine LeO.ite ?_ ?_)
      | (with_reducible refine LeO.bind ?_ (fun _ => ?_))
      | exact ih0 _ _ _ _ _ _
      | exact codec_Object.mono _ _ _
      | exact codec_PutDrop.mono _ _ _ _
      | exact spencelaw17_awake.mono _
      | exact spenceref01_Bytes.mono _ _ _
      | exact spenceref17_Drop.mono _ _ _ _
      | exact spenceref17_GetDrop.mono _ _ _
      | exact spenceref17_Owner.mono _ _ _ _ _ _ _
      | exact LeO.none _
      | refine LeO.ite ?_ ?_
      | refine LeO.bind ?_ (fun _ => ?_)
set_option maxHeartbeats 8000000 in
set_option maxRecDepth 100000 in
theorem spencelaw17_CodecDrops.calls (k : Nat) (a0_0 : Int) (a0_1 : Int) (a0_2 : Bool) (a1 : Int) (A2 : Option Addr) (c2 : Nat) (l2 : List Int) (r : Bool) (w : World) (hr2 : Kd.C (Kd.int .u8) w A2 l2.length l2) (hc2 : l2.length ≤ c2) (h : spencelaw17_CodecDrops.f k a0_0 a0_1 a0_2 a1 l2 = some r) :
    Calls Try.prog 14 #[.agg #[.int .i64 a0_0, .int .i64 a0_1, .bool a0_2], .int .u8 a1, .slice A2 l2.length c2] w fun e w' => e = .returned (.bool r) ∧ Below w.heap.size w w' := by
  have hu98 := Try.underlying98
  have hu111 := Try.underlying111
  have HR2 := Aside0.mk hr2
  have HC2 := Aside0.mk hc2
  clear hr2 hc2
  have HB := Aside0.mk (Below.refl w.heap.size w)
  have H : ((spencelaw17_awake.f k).bind fun t344 => (if t344 = true then (if (l2.length : Int) > 300 then (some true) else ((codec_PutDrop.f k a0_0 a0_1 a0_2).bind fun bt345 => ((codec_GetDrop.f a1 l2).bind fun bt349 => ((spenceref17_GetDrop.f k a1 l2).bind fun bt354 => ((codec_Object.f k a1 l2).bind fun bt359 => ((spenceref17_Owner.f k 0 0 0 0 a1 l2).bind fun bt361 => (if (!(bt349.1 == bt354.1) || (!(bt349.2.1 == bt354.2.1) || (!(bt349.2.2.1 == bt354.2.2.1)))) = true then (spencelaw17_CodecDrops.j0 k bt345.1 bt345.2 true a0_0 a0_1 a0_2) else (if (bt354.2.2.2 != (bt349.2.2.2 == 0)) = true then (spencelaw17_CodecDrops.j0 k bt345.1 bt345.2 true a0_0 a0_1 a0_2) else (if bt354.2.2.2 = true then (if (bt359.2 != bt361.2.2) = true then (spencelaw17_CodecDrops.j0 k bt345.1 bt345.2 true a0_0 a0_1 a0_2) else (if bt361.2.2 = true then (spencelaw17_CodecDrops.j0 k bt345.1 bt345.2 (bt359.1 != bt361.1) a0_0 a0_1 a0_2) else (spencelaw17_CodecDrops.j0 k bt345.1 bt345.2 false a0_0 a0_1 a0_2))) else (if bt349.2.2.2 = 3 then (if (bt359.2 != bt361.2.2) = true then (spencelaw17_CodecDrops.j0 k bt345.1 bt345.2 true a0_0 a0_1 a0_2) else (if bt361.2.2 = true then (spencelaw17_CodecDrops.j0 k bt345.1 bt345.2 (bt359.1 != bt361.1) a0_0 a0_1 a0_2) else (spencelaw17_CodecDrops.j0 k bt345.1 bt345.2 false a0_0 a0_1 a0_2))) else (spencelaw17_CodecDrops.j0 k bt345.1 bt345.2 true a0_0 a0_1 a0_2))))))))))) else (some false))) = some r := h
  clear h
  replace H := Option.bind_eq_some_iff.mp H
  obtain ⟨t344, A40, H⟩ := H
  replace H : (if t344 = true then (if (l2.length : Int) > 300 then (some true) else ((codec_PutDrop.f k a0_0 a0_1 a0_2).bind fun bt345 => ((codec_GetDrop.f a1 l2).bind fun bt349 => ((spenceref17_GetDrop.f k a1 l2).bind fun bt354 => ((codec_Object.f k a1 l2).bind fun bt359 => ((spenceref17_Owner.f k 0 0 0 0 a1 l2).bind fun bt361 => (if (!(bt349.1 == bt354.1) || (!(bt349.2.1 == bt354.2.1) || (!(bt349.2.2.1 == bt354.2.2.1)))) = true then (spencelaw17_CodecDrops.j0 k bt345.1 bt345.2 true a0_0 a0_1 a0_2) else (if (bt354.2.2.2 != (bt349.2.2.2 == 0)) = true then (spencelaw17_CodecDrops.j0 k bt345.1 bt345.2 true a0_0 a0_1 a0_2) else (if bt354.2.2.2 = true then (if (bt359.2 != bt361.2.2) = true then (spencelaw17_CodecDrops.j0 k bt345.1 bt345.2 true a0_0 a0_1 a0_2) else (if bt361.2.2 = true then (spencelaw17_CodecDrops.j0 k bt345.1 bt345.2 (bt359.1 != bt361.1) a0_0 a0_1 a0_2) else (spencelaw17_CodecDrops.j0 k bt345.1 bt345.2 false a0_0 a0_1 a0_2))) else (if bt349.2.2.2 = 3 then (if (bt359.2 != bt361.2.2) = true then (spencelaw17_CodecDrops.j0 k bt345.1 bt345.2 true a0_0 a0_1 a0_2) else (if bt361.2.2 = true then (spencelaw17_CodecDrops.j0 k bt345.1 bt345.2 (bt359.1 != bt361.1) a0_0 a0_1 a0_2) else (spencelaw17_CodecDrops.j0 k bt345.1 bt345.2 false a0_0 a0_1 a0_2))) else (spencelaw17_CodecDrops.j0 k bt345.1 bt345.2 true a0_0 a0_1 a0_2))))))))))) else (some false)) = some r := H
  have A4 := Aside0.mk A40
  clear A40
  by_cases c5 : t344 = true
  · subst c5
    have H1 : (if (l2.length : Int) > 300 then (some true) else ((codec_PutDrop.f k a0_0 a0_1 a0_2).bind fun bt345 => ((codec_GetDrop.f a1 l2).bind fun bt349 => ((spenceref17_GetDrop.f k a1 l2).bind fun bt354 => ((codec_Object.f k a1 l2).bind fun bt359 => ((spenceref17_Owner.f k 0 0 0 0 a1 l2).bind fun bt361 => (if (!(bt349.1 == bt354.1) || (!(bt349.2.1 == bt354.2.1) || (!(bt349.2.2.1 == bt354.2.2.1)))) = true then (spencelaw17_CodecDrops.j0 k bt345.1 bt345.2 true a0_0 a0_1 a0_2) else (if (bt354.2.2.2 != (bt349.2.2.2 == 0)) = true then (spencelaw17_CodecDrops.j0 k bt345.1 bt345.2 true a0_0 a0_1 a0_2) else (if bt354.2.2.2 = true then (if (bt359.2 != bt361.2.2) = true then (spencelaw17_CodecDrops.j0 k bt345.1 bt345.2 true a0_0 a0_1 a0_2) else (if bt361.2.2 = true then (spencelaw17_CodecDrops.j0 k bt345.1 bt345.2 (bt359.1 != bt361.1) a0_0 a0_1 a0_2) else (spencelaw17_CodecDrops.j0 k bt345.1 bt345.2 false a0_0 a0_1 a0_2))) else (if bt349.2.2.2 = 3 then (if (bt359.2 != bt361.2.2) = true then (spencelaw17_CodecDrops.j0 k bt345.1 bt345.2 true a0_0 a0_1 a0_2) else (if bt361.2.2 = true then (spencelaw17_CodecDrops.j0 k bt345.1 bt345.2 (bt359.1 != bt361.1) a0_0 a0_1 a0_2) else (spencelaw17_CodecDrops.j0 k bt345.1 bt345.2 false a0_0 a0_1 a0_2))) else (spencelaw17_CodecDrops.j0 k bt345.1 bt345.2 true a0_0 a0_1 a0_2))))))))))) = some r := by rw [if_pos rfl] at H; exact H
    clear H
    have H := H1
    clear H1
    by_cases c6 : (l2.length : Int) > 300
    · rw [if_pos c6] at H
      have c6b0 : decide (300 < (l2.length : Int)) = true := decide_eq_true c6
      have c6b1 : decide (300 < l2.length) = true := decide_eq_true (by omega)
      clear c6
      obtain rfl := Option.some.inj H
      go_enter Try.func14, Try.ntmps14
      go_wp2_with (first | ((with_reducible refine gate_dst (N := 3) rfl ?_); (try (refine gate_guard (by rfl) ?_; dsimp only)); refine box_event ?hg (N := 3) ?hd (cs := #[.int .i64 a0_0, .int .i64 a0_1, .bool a0_2]) (t := 98) ?hr ?_; (case hd => rfl); (case hg => rfl); (case hr => first | (go_simp; done) | (go_simp; rfl)); intro gb343 hg w7 hbox hb; have n0_ := Aside0.mk (below_step (by repeat (first | (with_reducible first | exact HB.out | apply below_alloc | apply pw_below_drewN | apply below_drew1) | exact HB.out)) hb); have n1_ := Aside0.mk (hbox); have n2_ := Aside0.mk ((by rw [hg]; exact (below_size (by repeat (first | (with_reducible first | exact HB.out | apply below_alloc | apply pw_below_drewN | apply below_drew1) | exact HB.out))) : w.heap.size ≤ gb343)); have n3_ := Aside0.mk ((by rw [hg]; exact (below_size (by repeat (first | (with_reducible first | exact HB.out | apply below_alloc | apply pw_below_drewN | apply below_drew1) | exact HB.out))) : w.heap.size ≤ gb343)); clear HB; have HB := n0_; have BK343 := n1_; have GW343 := n2_; have GE343 := n3_; clear n0_ n1_ n2_ n3_; clear hb hbox hg) | ((with_reducible refine gate_callee (f := 40) rfl ?_); refine goesL_ (some 20) rfl rfl Try.func40 (by kernel_rfl) rfl #[] rfl (by (try simp only [List.map_toArray, List.map_cons, List.map_nil]); first | done | rfl | (simp only [List.length_drop, List.length_take]; rfl)) ?_; (with_reducible refine (spencelaw17_awake.calls k  true _ A4.out).mono ?_); rintro e w8 ⟨rfl, hb⟩; refine ⟨_, rfl, ?_⟩; have n0_ := Aside0.mk (blk_below (g := gb343) (o := .cells #[.int .i64 a0_0, .int .i64 a0_1, .bool a0_2] 98 (0, 0)) (by (with_reducible repeat (first | refine blk_drewN ?_ _ | refine blk_drew ?_ | refine blk_alloc ?_ _)); exact BK343.out) hb); have n1_ := Aside0.mk (below_step (by repeat (first | (with_reducible first | exact HB.out | apply below_alloc | apply pw_below_drewN | apply below_drew1 | refine below_set ?_ GE343.out) | exact HB.out)) hb); clear BK343; clear HB; have BK343 := n0_; have HB := n1_; clear n0_ n1_; (try clear hb); (try clear hb2); (try clear hk); (try clear hi)))
      all_goals
        go_ret
        exact ⟨by first | rfl | (simp [errW_none, errW_some] <;> rfl) | (simp [*, errW_none, errW_some] <;> rfl), by repeat (first | (with_reducible first | exact HB.out | apply below_alloc | apply pw_below_drewN | apply below_drew1 | refine below_set ?_ GE343.out) | exact HB.out)⟩
    · rw [if_neg c6] at H
      have c6b0 : decide (300 < (l2.length : Int)) = false := decide_eq_false c6
      have c6b1 : decide (300 < l2.length) = false := decide_eq_false (by omega)
      clear c6
      replace H := Option.bind_eq_some_iff.mp H
      obtain ⟨⟨t345, t348⟩, A90, H⟩ := H
      replace H : ((codec_GetDrop.f a1 l2).bind fun bt349 => ((spenceref17_GetDrop.f k a1 l2).bind fun bt354 => ((codec_Object.f k a1 l2).bind fun bt359 => ((spenceref17_Owner.f k 0 0 0 0 a1 l2).bind fun bt361 => (if (!(bt349.1 == bt354.1) || (!(bt349.2.1 == bt354.2.1) || (!(bt349.2.2.1 == bt354.2.2.1)))) = true then (spencelaw17_CodecDrops.j0 k t345 t348 true a0_0 a0_1 a0_2) else (if (bt354.2.2.2 != (bt349.2.2.2 == 0)) = true then (spencelaw17_CodecDrops.j0 k t345 t348 true a0_0 a0_1 a0_2) else (if bt354.2.2.2 = true then (if (bt359.2 != bt361.2.2) = true then (spencelaw17_CodecDrops.j0 k t345 t348 true a0_0 a0_1 a0_2) else (if bt361.2.2 = true then (spencelaw17_CodecDrops.j0 k t345 t348 (bt359.1 != bt361.1) a0_0 a0_1 a0_2) else (spencelaw17_CodecDrops.j0 k t345 t348 false a0_0 a0_1 a0_2))) else (if bt349.2.2.2 = 3 then (if (bt359.2 != bt361.2.2) = true then (spencelaw17_CodecDrops.j0 k t345 t348 true a0_0 a0_1 a0_2) else (if bt361.2.2 = true then (spencelaw17_CodecDrops.j0 k t345 t348 (bt359.1 != bt361.1) a0_0 a0_1 a0_2) else (spencelaw17_CodecDrops.j0 k t345 t348 false a0_0 a0_1 a0_2))) else (spencelaw17_CodecDrops.j0 k t345 t348 true a0_0 a0_1 a0_2))))))))) = some r := H
      have A9 := Aside0.mk A90
      clear A90
      replace H := Option.bind_eq_some_iff.mp H
      obtain ⟨⟨t349, t350, t351, t352⟩, A100, H⟩ := H
      replace H : ((spenceref17_GetDrop.f k a1 l2).bind fun bt354 => ((codec_Object.f k a1 l2).bind fun bt359 => ((spenceref17_Owner.f k 0 0 0 0 a1 l2).bind fun bt361 => (if (!(t349 == bt354.1) || (!(t350 == bt354.2.1) || (!(t351 == bt354.2.2.1)))) = true then (spencelaw17_CodecDrops.j0 k t345 t348 true a0_0 a0_1 a0_2) else (if (bt354.2.2.2 != (t352 == 0)) = true then (spencelaw17_CodecDrops.j0 k t345 t348 true a0_0 a0_1 a0_2) else (if bt354.2.2.2 = true then (if (bt359.2 != bt361.2.2) = true then (spencelaw17_CodecDrops.j0 k t345 t348 true a0_0 a0_1 a0_2) else (if bt361.2.2 = true then (spencelaw17_CodecDrops.j0 k t345 t348 (bt359.1 != bt361.1) a0_0 a0_1 a0_2) else (spencelaw17_CodecDrops.j0 k t345 t348 false a0_0 a0_1 a0_2))) else (if t352 = 3 then (if (bt359.2 != bt361.2.2) = true then (spencelaw17_CodecDrops.j0 k t345 t348 true a0_0 a0_1 a0_2) else (if bt361.2.2 = true then (spencelaw17_CodecDrops.j0 k t345 t348 (bt359.1 != bt361.1) a0_0 a0_1 a0_2) else (spencelaw17_CodecDrops.j0 k t345 t348 false a0_0 a0_1 a0_2))) else (spencelaw17_CodecDrops.j0 k t345 t348 true a0_0 a0_1 a0_2)))))))) = some r := H
      have A10 := Aside0.mk A100
      clear A100
      replace H := Option.bind_eq_some_iff.mp H
      obtain ⟨⟨t354, t355, t356, t357⟩, A110, H⟩ := H
      replace H : ((codec_Object.f k a1 l2).bind fun bt359 => ((spenceref17_Owner.f k 0 0 0 0 a1 l2).bind fun bt361 => (if (!(t349 == t354) || (!(t350 == t355) || (!(t351 == t356)))) = true then (spencelaw17_CodecDrops.j0 k t345 t348 true a0_0 a0_1 a0_2) else (if (t357 != (t352 == 0)) = true then (spencelaw17_CodecDrops.j0 k t345 t348 true a0_0 a0_1 a0_2) else (if t357 = true then (if (bt359.2 != bt361.2.2) = true then (spencelaw17_CodecDrops.j0 k t345 t348 true a0_0 a0_1 a0_2) else (if bt361.2.2 = true then (spencelaw17_CodecDrops.j0 k t345 t348 (bt359.1 != bt361.1) a0_0 a0_1 a0_2) else (spencelaw17_CodecDrops.j0 k t345 t348 false a0_0 a0_1 a0_2))) else (if t352 = 3 then (if (bt359.2 != bt361.2.2) = true then (spencelaw17_CodecDrops.j0 k t345 t348 true a0_0 a0_1 a0_2) else (if bt361.2.2 = true then (spencelaw17_CodecDrops.j0 k t345 t348 (bt359.1 != bt361.1) a0_0 a0_1 a0_2) else (spencelaw17_CodecDrops.j0 k t345 t348 false a0_0 a0_1 a0_2))) else (spencelaw17_CodecDrops.j0 k t345 t348 true a0_0 a0_1 a0_2))))))) = some r := H
      have A11 := Aside0.mk A110
      clear A110
      replace H := Option.bind_eq_some_iff.mp H
      obtain ⟨⟨t359, t360⟩, A120, H⟩ := H
      replace H : ((spenceref17_Owner.f k 0 0 0 0 a1 l2).bind fun bt361 => (if (!(t349 == t354) || (!(t350 == t355) || (!(t351 == t356)))) = true then (spencelaw17_CodecDrops.j0 k t345 t348 true a0_0 a0_1 a0_2) else (if (t357 != (t352 == 0)) = true then (spencelaw17_CodecDrops.j0 k t345 t348 true a0_0 a0_1 a0_2) else (if t357 = true then (if (t360 != bt361.2.2) = true then (spencelaw17_CodecDrops.j0 k t345 t348 true a0_0 a0_1 a0_2) else (if bt361.2.2 = true then (spencelaw17_CodecDrops.j0 k t345 t348 (t359 != bt361.1) a0_0 a0_1 a0_2) else (spencelaw17_CodecDrops.j0 k t345 t348 false a0_0 a0_1 a0_2))) else (if t352 = 3 then (if (t360 != bt361.2.2) = true then (spencelaw17_CodecDrops.j0 k t345 t348 true a0_0 a0_1 a0_2) else (if bt361.2.2 = true then (spencelaw17_CodecDrops.j0 k t345 t348 (t359 != bt361.1) a0_0 a0_1 a0_2) else (spencelaw17_CodecDrops.j0 k t345 t348 false a0_0 a0_1 a0_2))) else (spencelaw17_CodecDrops.j0 k t345 t348 true a0_0 a0_1 a0_2)))))) = some r := H
      have A12 := Aside0.mk A120
      clear A120
      replace H := Option.bind_eq_some_iff.mp H
      obtain ⟨⟨t361, t362, t363⟩, A130, H⟩ := H
      replace H : (if (!(t349 == t354) || (!(t350 == t355) || (!(t351 == t356)))) = true then (spencelaw17_CodecDrops.j0 k t345 t348 true a0_0 a0_1 a0_2) else (if (t357 != (t352 == 0)) = true then (spencelaw17_CodecDrops.j0 k t345 t348 true a0_0 a0_1 a0_2) else (if t357 = true then (if (t360 != t363) = true then (spencelaw17_CodecDrops.j0 k t345 t348 true a0_0 a0_1 a0_2) else (if t363 = true then (spencelaw17_CodecDrops.j0 k t345 t348 (t359 != t361) a0_0 a0_1 a0_2) else (spencelaw17_CodecDrops.j0 k t345 t348 false a0_0 a0_1 a0_2))) else (if t352 = 3 then (if (t360 != t363) = true then (spencelaw17_CodecDrops.j0 k t345 t348 true a0_0 a0_1 a0_2) else (if t363 = true then (spencelaw17_CodecDrops.j0 k t345 t348 (t359 != t361) a0_0 a0_1 a0_2) else (spencelaw17_CodecDrops.j0 k t345 t348 false a0_0 a0_1 a0_2))) else (spencelaw17_CodecDrops.j0 k t345 t348 true a0_0 a0_1 a0_2))))) = some r := H
      have A13 := Aside0.mk A130
      clear A130
      have HC14 := Aside0.mk H
      clear H
      go_enter Try.func14, Try.ntmps14
      go_upto_region 10 with (first | ((with_reducible refine gate_dst (N := 3) rfl ?_); (try (refine gate_guard (by rfl) ?_; dsimp only)); refine box_event ?hg (N := 3) ?hd (cs := #[.int .i64 a0_0, .int .i64 a0_1, .bool a0_2]) (t := 98) ?hr ?_; (case hd => rfl); (case hg => rfl); (case hr => first | (go_simp; done) | (go_simp; rfl)); intro gb343 hg w15 hbox hb; have n0_ := Aside0.mk (below_step (by repeat (first | (with_reducible first | exact HB.out | apply below_alloc | apply pw_below_drewN | apply below_drew1) | exact HB.out)) hb); have n1_ := Aside0.mk (hbox); have n2_ := Aside0.mk ((by rw [hg]; exact (below_size (by repeat (first | (with_reducible first | exact HB.out | apply below_alloc | apply pw_below_drewN | apply below_drew1) | exact HB.out))) : w.heap.size ≤ gb343)); have n3_ := Aside0.mk ((by rw [hg]; exact (below_size (by repeat (first | (with_reducible first | exact HB.out | apply below_alloc | apply pw_below_drewN | apply below_drew1) | exact HB.out))) : w.heap.size ≤ gb343)); clear HB; have HB := n0_; have BK343 := n1_; have GW343 := n2_; have GE343 := n3_; clear n0_ n1_ n2_ n3_; clear hb hbox hg) | ((with_reducible refine gate_callee (f := 40) rfl ?_); refine goesL_ (some 20) rfl rfl Try.func40 (by kernel_rfl) rfl #[] rfl (by (try simp only [List.map_toArray, List.map_cons, List.map_nil]); first | done | rfl | (simp only [List.length_drop, List.length_take]; rfl)) ?_; (with_reducible refine (spencelaw17_awake.calls k  true _ A4.out).mono ?_); rintro e w16 ⟨rfl, hb⟩; refine ⟨_, rfl, ?_⟩; have n0_ := Aside0.mk (blk_below (g := gb343) (o := .cells #[.int .i64 a0_0, .int .i64 a0_1, .bool a0_2] 98 (0, 0)) (by (with_reducible repeat (first | refine blk_drewN ?_ _ | refine blk_drew ?_ | refine blk_alloc ?_ _)); exact BK343.out) hb); have n1_ := Aside0.mk (below_step (by repeat (first | (with_reducible first | exact HB.out | apply below_alloc | apply pw_below_drewN | apply below_drew1 | refine below_set ?_ GE343.out) | exact HB.out)) hb); clear BK343; clear HB; have BK343 := n0_; have HB := n1_; clear n0_ n1_; (try clear hb); (try clear hb2); (try clear hk); (try clear hi); have hcz17_0 : w16.cell? ⟨gb343, 0, none⟩ = some (.int .i64 a0_0) := (blk_cell BK343.out 0).trans rfl; have hcz17_1 : w16.cell? ⟨gb343, 1, none⟩ = some (.int .i64 a0_1) := (blk_cell BK343.out 1).trans rfl; have hcz17_2 : w16.cell? ⟨gb343, 2, none⟩ = some (.bool a0_2) := (blk_cell BK343.out 2).trans rfl; have hfz17_0 := blk_frozen BK343.out 0; have hfz17_1 := blk_frozen BK343.out 1; have hfz17_2 := blk_frozen BK343.out 2) | ((with_reducible refine gate_callee (f := 64) rfl ?_); refine goesL_ (some 27) rfl rfl Try.func64 (by kernel_rfl) rfl #[.agg #[.int .i64 a0_0, .int .i64 a0_1, .bool a0_2]] rfl (by (try simp only [List.map_toArray, List.map_cons, List.map_nil]); first | done | rfl | (simp only [List.length_drop, List.length_take]; rfl)) ?_; (with_reducible refine (codec_PutDrop.calls k a0_0 a0_1 a0_2 t345 t348 _ A9.out).mono ?_); rintro e w18 ⟨v346, rfl, ho0, hb⟩; refine ⟨_, rfl, ?_⟩; have n0_ := Aside0.mk (Kd.R_lower ho0 (below_size (by repeat (first | (with_reducible first | exact HB.out | apply below_alloc | apply pw_below_drewN | apply below_drew1 | refine below_set ?_ GE343.out) | exact HB.out)))); have n1_ := Aside0.mk (blk_below (g := gb343) (o := .cells #[.int .i64 a0_0, .int .i64 a0_1, .bool a0_2] 98 (0, 0)) (by (with_reducible repeat (first | refine blk_drewN ?_ _ | refine blk_drew ?_ | refine blk_alloc ?_ _)); exact BK343.out) hb); have n2_ := Aside0.mk (below_step (by repeat (first | (with_reducible first | exact HB.out | apply below_alloc | apply pw_below_drewN | apply below_drew1 | refine below_set ?_ GE343.out) | exact HB.out)) hb); clear BK343; clear HB; have HO347 := n0_; have BK343 := n1_; have HB := n2_; clear n0_ n1_ n2_; (try clear hb); (try clear hb2); (try clear hk); (try clear hi); (try clear ho0)) | ((with_reducible refine gate_callee (f := 65) rfl ?_); refine goesL_ (some 33) rfl rfl Try.func65 (by kernel_rfl) rfl #[.int .u8 a1, .slice A2 l2.length c2] rfl (by (try simp only [List.map_toArray, List.map_cons, List.map_nil]); first | done | rfl | (simp only [List.length_drop, List.length_take]; rfl)) ?_; (with_reducible refine (codec_GetDrop.calls a1 _ _ l2 t349 t350 t351 t352 _ ?side1 ?side2 A10.out).mono ?_); (case side1 => repeat (first | exact (Kd.C_below HR2.out HB.out) | (with_reducible refine Kd.C_alloc ?_ _) | (with_reducible refine Kd.C_drewN ?_ _) | (with_reducible refine Kd.C_drew ?_))); (case side2 => exact HC2.out); rintro e w19 ⟨rfl, hb⟩; refine ⟨_, rfl, ?_⟩; have n0_ := Aside0.mk (Kd.R_below (by (with_reducible repeat (first | apply Kd.R_alloc | apply Kd.R_drewN | apply Kd.R_drew)); exact HO347.out) hb); have n1_ := Aside0.mk (blk_below (g := gb343) (o := .cells #[.int .i64 a0_0, .int .i64 a0_1, .bool a0_2] 98 (0, 0)) (by (with_reducible repeat (first | refine blk_drewN ?_ _ | refine blk_drew ?_ | refine blk_alloc ?_ _)); exact BK343.out) hb); have n2_ := Aside0.mk (below_step (by repeat (first | (with_reducible first | exact HB.out | apply below_alloc | apply pw_below_drewN | apply below_drew1 | refine below_set ?_ GE343.out) | exact HB.out)) hb); clear HO347; clear BK343; clear HB; have HO347 := n0_; have BK343 := n1_; have HB := n2_; clear n0_ n1_ n2_; (try clear hb); (try clear hb2); (try clear hk); (try clear hi)) | ((with_reducible refine gate_dst (N := 9) rfl ?_); (try (refine gate_guard (by rfl) ?_; dsimp only)); refine box_event ?hg (N := 9) ?hd (cs := #[.int .i64 0, .int .i64 0, .bool false]) (t := 98) ?hr ?_; (case hd => rfl); (case hg => rfl); (case hr => first | (go_simp; done) | (go_simp; rfl)); intro gb353 hg w20 hbox hb; have n0_ := Aside0.mk (Kd.R_below (by (with_reducible repeat (first | apply Kd.R_alloc | apply Kd.R_drewN | apply Kd.R_drew)); exact HO347.out) hb); have n1_ := Aside0.mk (blk_below (g := gb343) (o := .cells #[.int .i64 a0_0, .int .i64 a0_1, .bool a0_2] 98 (0, 0)) (by (with_reducible repeat (first | refine blk_drewN ?_ _ | refine blk_drew ?_ | refine blk_alloc ?_ _)); exact BK343.out) hb); have n2_ := Aside0.mk (below_step (by repeat (first | (with_reducible first | exact HB.out | apply below_alloc | apply pw_below_drewN | apply below_drew1 | refine below_set ?_ GE343.out) | exact HB.out)) hb); have n3_ := Aside0.mk (hbox); have n4_ := Aside0.mk ((by rw [hg]; exact (below_size (by repeat (first | (with_reducible first | exact HB.out | apply below_alloc | apply pw_below_drewN | apply below_drew1 | refine below_set ?_ GE343.out) | exact HB.out))) : w.heap.size ≤ gb353)); have n5_ := Aside0.mk ((by rw [hg]; exact (below_size (by repeat (first | (with_reducible first | exact HB.out | apply below_alloc | apply pw_below_drewN | apply below_drew1 | refine below_set ?_ GE343.out) | exact HB.out))) : w.heap.size ≤ gb353)); have n6_ := Aside0.mk ((by rw [hg]; exact Nat.ne_of_lt (blk_lt (g := gb343) (o := .cells #[.int .i64 a0_0, .int .i64 a0_1, .bool a0_2] 98 (0, 0)) (by (with_reducible repeat (first | refine blk_drewN ?_ _ | refine blk_drew ?_ | refine blk_alloc ?_ _)); exact BK343.out)) : gb343 ≠ gb353)); have n7_ := Aside0.mk ((by rw [hg]; exact Nat.ne_of_gt (blk_lt (g := gb343) (o := .cells #[.int .i64 a0_0, .int .i64 a0_1, .bool a0_2] 98 (0, 0)) (by (with_reducible repeat (first | refine blk_drewN ?_ _ | refine blk_drew ?_ | refine blk_alloc ?_ _)); exact BK343.out)) : gb353 ≠ gb343)); clear HO347; clear BK343; clear HB; have HO347 := n0_; have BK343 := n1_; have HB := n2_; have BK353 := n3_; have GW353 := n4_; have GE353 := n5_; have NB343_353 := n6_; have NB353_343 := n7_; clear n0_ n1_ n2_ n3_ n4_ n5_ n6_ n7_; clear hb hbox hg; have hnb21 := NB353_343.out; have hnc21 := NB343_353.out; have hcz22_0 : w20.cell? ⟨gb353, 0, none⟩ = some (.int .i64 0) := (blk_cell BK353.out 0).trans rfl; have hcz22_1 : w20.cell? ⟨gb353, 1, none⟩ = some (.int .i64 0) := (blk_cell BK353.out 1).trans rfl; have hcz22_2 : w20.cell? ⟨gb353, 2, none⟩ = some (.bool false) := (blk_cell BK353.out 2).trans rfl; have hfz22_0 := blk_frozen BK353.out 0; have hfz22_1 := blk_frozen BK353.out 1; have hfz22_2 := blk_frozen BK353.out 2) | ((with_reducible refine gate_callee (f := 66) rfl ?_); refine goesL_ (some 39) rfl rfl Try.func66 (by kernel_rfl) rfl #[.int .u8 a1, .slice A2 l2.length c2] rfl (by (try simp only [List.map_toArray, List.map_cons, List.map_nil]); first | done | rfl | (simp only [List.length_drop, List.length_take]; rfl)) ?_; (with_reducible refine (spenceref17_GetDrop.calls k a1 _ _ l2 t354 t355 t356 t357 _ ?side1 ?side2 A11.out).mono ?_); (case side1 => exact Kd.C_below HR2.out (by repeat (first | (with_reducible first | exact HB.out | apply below_alloc | apply pw_below_drewN | apply below_drew1 | refine below_set ?_ GE343.out | refine below_set ?_ GE353.out) | exact HB.out))); (case side2 => exact HC2.out); rintro e w23 ⟨rfl, hb⟩; refine ⟨_, rfl, ?_⟩; have n0_ := Aside0.mk (Kd.R_below (by (with_reducible repeat (first | apply Kd.R_alloc | apply Kd.R_drewN | apply Kd.R_drew)); exact (Kd.R_mono (Kd.R_far (p := ⟨gb353, 2, none⟩) (Kd.R_far (p := ⟨gb353, 1, none⟩) (Kd.R_far (p := ⟨gb353, 0, none⟩) (Kd.R_types HO347.out BK353.out (by decide)) (fun _ hk => hk.2) (.int .i64 t349)) (fun _ hk => hk.2) (.int .i64 t350)) (fun _ hk => hk.2) (.bool t351)) (fun _ h_ => h_.1))) hb); have n1_ := Aside0.mk (blk_below (g := gb343) (o := .cells #[.int .i64 a0_0, .int .i64 a0_1, .bool a0_2] 98 (0, 0)) (by (with_reducible repeat (first | refine blk_drewN ?_ _ | refine blk_drew ?_ | refine blk_alloc ?_ _)); refine blk_far ?_ NB343_353.out _; (with_reducible repeat (first | refine blk_drewN ?_ _ | refine blk_drew ?_ | refine blk_alloc ?_ _)); refine blk_far ?_ NB343_353.out _; (with_reducible repeat (first | refine blk_drewN ?_ _ | refine blk_drew ?_ | refine blk_alloc ?_ _)); refine blk_far ?_ NB343_353.out _; (with_reducible repeat (first | refine blk_drewN ?_ _ | refine blk_drew ?_ | refine blk_alloc ?_ _)); exact BK343.out) hb); have n2_ := Aside0.mk (blk_below (g := gb353) (o := .cells #[.int .i64 t349, .int .i64 t350, .bool t351] 98 (0, 0)) (by (with_reducible repeat (first | refine blk_drewN ?_ _ | refine blk_drew ?_ | refine blk_alloc ?_ _)); refine blk_put (cs := #[.int .i64 t349, .int .i64 t350, .bool false]) ?_ 2 _ rfl; (with_reducible repeat (first | refine blk_drewN ?_ _ | refine blk_drew ?_ | refine blk_alloc ?_ _)); refine blk_put (cs := #[.int .i64 t349, .int .i64 0, .bool false]) ?_ 1 _ rfl; (with_reducible repeat (first | refine blk_drewN ?_ _ | refine blk_drew ?_ | refine blk_alloc ?_ _)); refine blk_put (cs := #[.int .i64 0, .int .i64 0, .bool false]) ?_ 0 _ rfl; (with_reducible repeat (first | refine blk_drewN ?_ _ | refine blk_drew ?_ | refine blk_alloc ?_ _)); exact BK353.out) hb); have n3_ := Aside0.mk (below_step (by repeat (first | (with_reducible first | exact HB.out | apply below_alloc | apply pw_below_drewN | apply below_drew1 | refine below_set ?_ GE343.out | refine below_set ?_ GE353.out) | exact HB.out)) hb); clear HO347; clear BK343; clear BK353; clear HB; have HO347 := n0_; have BK343 := n1_; have BK353 := n2_; have HB := n3_; clear n0_ n1_ n2_ n3_; (try clear hb); (try clear hb2); (try clear hk); (try clear hi)) | ((with_reducible refine gate_dst (N := 11) rfl ?_); (try (refine gate_guard (by rfl) ?_; dsimp only)); refine box_event ?hg (N := 11) ?hd (cs := #[.int .i64 0, .int .i64 0, .bool false]) (t := 98) ?hr ?_; (case hd => rfl); (case hg => rfl); (case hr => first | (go_simp; done) | (go_simp; rfl)); intro gb358 hg w24 hbox hb; have n0_ := Aside0.mk (Kd.R_below (by (with_reducible repeat (first | apply Kd.R_alloc | apply Kd.R_drewN | apply Kd.R_drew)); exact HO347.out) hb); have n1_ := Aside0.mk (blk_below (g := gb343) (o := .cells #[.int .i64 a0_0, .int .i64 a0_1, .bool a0_2] 98 (0, 0)) (by (with_reducible repeat (first | refine blk_drewN ?_ _ | refine blk_drew ?_ | refine blk_alloc ?_ _)); exact BK343.out) hb); have n2_ := Aside0.mk (blk_below (g := gb353) (o := .cells #[.int .i64 t349, .int .i64 t350, .bool t351] 98 (0, 0)) (by (with_reducible repeat (first | refine blk_drewN ?_ _ | refine blk_drew ?_ | refine blk_alloc ?_ _)); exact BK353.out) hb); have n3_ := Aside0.mk (below_step (by repeat (first | (with_reducible first | exact HB.out | apply below_alloc | apply pw_below_drewN | apply below_drew1 | refine below_set ?_ GE343.out | refine below_set ?_ GE353.out) | exact HB.out)) hb); have n4_ := Aside0.mk (hbox); have n5_ := Aside0.mk ((by rw [hg]; exact (below_size (by repeat (first | (with_reducible first | exact HB.out | apply below_alloc | apply pw_below_drewN | apply below_drew1 | refine below_set ?_ GE343.out | refine below_set ?_ GE353.out) | exact HB.out))) : w.heap.size ≤ gb358)); have n6_ := Aside0.mk ((by rw [hg]; exact (below_size (by repeat (first | (with_reducible first | exact HB.out | apply below_alloc | apply pw_below_drewN | apply below_drew1 | refine below_set ?_ GE343.out | refine below_set ?_ GE353.out) | exact HB.out))) : w.heap.size ≤ gb358)); have n7_ := Aside0.mk ((by rw [hg]; exact Nat.ne_of_lt (blk_lt (g := gb343) (o := .cells #[.int .i64 a0_0, .int .i64 a0_1, .bool a0_2] 98 (0, 0)) (by (with_reducible repeat (first | refine blk_drewN ?_ _ | refine blk_drew ?_ | refine blk_alloc ?_ _)); exact BK343.out)) : gb343 ≠ gb358)); have n8_ := Aside0.mk ((by rw [hg]; exact Nat.ne_of_gt (blk_lt (g := gb343) (o := .cells #[.int .i64 a0_0, .int .i64 a0_1, .bool a0_2] 98 (0, 0)) (by (with_reducible repeat (first | refine blk_drewN ?_ _ | refine blk_drew ?_ | refine blk_alloc ?_ _)); exact BK343.out)) : gb358 ≠ gb343)); have n9_ := Aside0.mk ((by rw [hg]; exact Nat.ne_of_lt (blk_lt (g := gb353) (o := .cells #[.int .i64 t349, .int .i64 t350, .bool t351] 98 (0, 0)) (by (with_reducible repeat (first | refine blk_drewN ?_ _ | refine blk_drew ?_ | refine blk_alloc ?_ _)); exact BK353.out)) : gb353 ≠ gb358)); have n10_ := Aside0.mk ((by rw [hg]; exact Nat.ne_of_gt (blk_lt (g := gb353) (o := .cells #[.int .i64 t349, .int .i64 t350, .bool t351] 98 (0, 0)) (by (with_reducible repeat (first | refine blk_drewN ?_ _ | refine blk_drew ?_ | refine blk_alloc ?_ _)); exact BK353.out)) : gb358 ≠ gb353)); clear HO347; clear BK343; clear BK353; clear HB; have HO347 := n0_; have BK343 := n1_; have BK353 := n2_; have HB := n3_; have BK358 := n4_; have GW358 := n5_; have GE358 := n6_; have NB343_358 := n7_; have NB358_343 := n8_; have NB353_358 := n9_; have NB358_353 := n10_; clear n0_ n1_ n2_ n3_ n4_ n5_ n6_ n7_ n8_ n9_ n10_; clear hb hbox hg; have hnb25 := NB358_343.out; have hnc25 := NB343_358.out; have hnb26 := NB358_353.out; have hnc26 := NB353_358.out; have hcz27_0 : w24.cell? ⟨gb358, 0, none⟩ = some (.int .i64 0) := (blk_cell BK358.out 0).trans rfl; have hcz27_1 : w24.cell? ⟨gb358, 1, none⟩ = some (.int .i64 0) := (blk_cell BK358.out 1).trans rfl; have hcz27_2 : w24.cell? ⟨gb358, 2, none⟩ = some (.bool false) := (blk_cell BK358.out 2).trans rfl; have hfz27_0 := blk_frozen BK358.out 0; have hfz27_1 := blk_frozen BK358.out 1; have hfz27_2 := blk_frozen BK358.out 2) | ((with_reducible refine gate_callee (f := 67) rfl ?_); refine goesL_ (some 45) rfl rfl Try.func67 (by kernel_rfl) rfl #[.int .u8 a1, .slice A2 l2.length c2] rfl (by (try simp only [List.map_toArray, List.map_cons, List.map_nil]); first | done | rfl | (simp only [List.length_drop, List.length_take]; rfl)) ?_; (with_reducible refine (codec_Object.calls k a1 _ _ l2 t359 t360 _ ?side1 ?side2 A12.out).mono ?_); (case side1 => exact Kd.C_below HR2.out (by repeat (first | (with_reducible first | exact HB.out | apply below_alloc | apply pw_below_drewN | apply below_drew1 | refine below_set ?_ GE343.out | refine below_set ?_ GE353.out | refine below_set ?_ GE358.out) | exact HB.out))); (case side2 => exact HC2.out); rintro e w28 ⟨rfl, hb⟩; refine ⟨_, rfl, ?_⟩; have n0_ := Aside0.mk (Kd.R_below (by (with_reducible repeat (first | apply Kd.R_alloc | apply Kd.R_drewN | apply Kd.R_drew)); exact (Kd.R_mono (Kd.R_far (p := ⟨gb358, 2, none⟩) (Kd.R_far (p := ⟨gb358, 1, none⟩) (Kd.R_far (p := ⟨gb358, 0, none⟩) (Kd.R_types HO347.out BK358.out (by decide)) (fun _ hk => hk.2) (.int .i64 t354)) (fun _ hk => hk.2) (.int .i64 t355)) (fun _ hk => hk.2) (.bool t356)) (fun _ h_ => h_.1))) hb); have n1_ := Aside0.mk (blk_below (g := gb343) (o := .cells #[.int .i64 a0_0, .int .i64 a0_1, .bool a0_2] 98 (0, 0)) (by (with_reducible repeat (first | refine blk_drewN ?_ _ | refine blk_drew ?_ | refine blk_alloc ?_ _)); refine blk_far ?_ NB343_358.out _; (with_reducible repeat (first | refine blk_drewN ?_ _ | refine blk_drew ?_ | refine blk_alloc ?_ _)); refine blk_far ?_ NB343_358.out _; (with_reducible repeat (first | refine blk_drewN ?_ _ | refine blk_drew ?_ | refine blk_alloc ?_ _)); refine blk_far ?_ NB343_358.out _; (with_reducible repeat (first | refine blk_drewN ?_ _ | refine blk_drew ?_ | refine blk_alloc ?_ _)); exact BK343.out) hb); have n2_ := Aside0.mk (blk_below (g := gb353) (o := .cells #[.int .i64 t349, .int .i64 t350, .bool t351] 98 (0, 0)) (by (with_reducible repeat (first | refine blk_drewN ?_ _ | refine blk_drew ?_ | refine blk_alloc ?_ _)); refine blk_far ?_ NB353_358.out _; (with_reducible repeat (first | refine blk_drewN ?_ _ | refine blk_drew ?_ | refine blk_alloc ?_ _)); refine blk_far ?_ NB353_358.out _; (with_reducible repeat (first | refine blk_drewN ?_ _ | refine blk_drew ?_ | refine blk_alloc ?_ _)); refine blk_far ?_ NB353_358.out _; (with_reducible repeat (first | refine blk_drewN ?_ _ | refine blk_drew ?_ | refine blk_alloc ?_ _)); exact BK353.out) hb); have n3_ := Aside0.mk (blk_below (g := gb358) (o := .cells #[.int .i64 t354, .int .i64 t355, .bool t356] 98 (0, 0)) (by (with_reducible repeat (first | refine blk_drewN ?_ _ | refine blk_drew ?_ | refine blk_alloc ?_ _)); refine blk_put (cs := #[.int .i64 t354, .int .i64 t355, .bool false]) ?_ 2 _ rfl; (with_reducible repeat (first | refine blk_drewN ?_ _ | refine blk_drew ?_ | refine blk_alloc ?_ _)); refine blk_put (cs := #[.int .i64 t354, .int .i64 0, .bool false]) ?_ 1 _ rfl; (with_reducible repeat (first | refine blk_drewN ?_ _ | refine blk_drew ?_ | refine blk_alloc ?_ _)); refine blk_put (cs := #[.int .i64 0, .int .i64 0, .bool false]) ?_ 0 _ rfl; (with_reducible repeat (first | refine blk_drewN ?_ _ | refine blk_drew ?_ | refine blk_alloc ?_ _)); exact BK358.out) hb); have n4_ := Aside0.mk (below_step (by repeat (first | (with_reducible first | exact HB.out | apply below_alloc | apply pw_below_drewN | apply below_drew1 | refine below_set ?_ GE343.out | refine below_set ?_ GE353.out | refine below_set ?_ GE358.out) | exact HB.out)) hb); clear HO347; clear BK343; clear BK353; clear BK358; clear HB; have HO347 := n0_; have BK343 := n1_; have BK353 := n2_; have BK358 := n3_; have HB := n4_; clear n0_ n1_ n2_ n3_ n4_; (try clear hb); (try clear hb2); (try clear hk); (try clear hi)) | ((with_reducible refine gate_callee (f := 68) rfl ?_); refine goesL_ (some 52) rfl rfl Try.func68 (by kernel_rfl) rfl #[.agg #[.int .i64 0, .int .i64 0, .int .u64 0, .int .i64 0, .int .u8 a1, .slice A2 l2.length c2]] rfl (by (try simp only [List.map_toArray, List.map_cons, List.map_nil]); first | done | rfl | (simp only [List.length_drop, List.length_take]; rfl)) ?_; (with_reducible refine (spenceref17_Owner.calls k 0 0 0 0 a1 _ _ l2 t361 t362 t363 _ ?side1 ?side2 A13.out).mono ?_); (case side1 => repeat (first | exact (Kd.C_below HR2.out HB.out) | (with_reducible refine Kd.C_alloc ?_ _) | (with_reducible refine Kd.C_drewN ?_ _) | (with_reducible refine Kd.C_drew ?_))); (case side2 => exact HC2.out); rintro e w29 ⟨rfl, hb⟩; refine ⟨_, rfl, ?_⟩; have n0_ := Aside0.mk (Kd.R_below (by (with_reducible repeat (first | apply Kd.R_alloc | apply Kd.R_drewN | apply Kd.R_drew)); exact HO347.out) hb); have n1_ := Aside0.mk (blk_below (g := gb343) (o := .cells #[.int .i64 a0_0, .int .i64 a0_1, .bool a0_2] 98 (0, 0)) (by (with_reducible repeat (first | refine blk_drewN ?_ _ | refine blk_drew ?_ | refine blk_alloc ?_ _)); exact BK343.out) hb); have n2_ := Aside0.mk (blk_below (g := gb353) (o := .cells #[.int .i64 t349, .int .i64 t350, .bool t351] 98 (0, 0)) (by (with_reducible repeat (first | refine blk_drewN ?_ _ | refine blk_drew ?_ | refine blk_alloc ?_ _)); exact BK353.out) hb); have n3_ := Aside0.mk (blk_below (g := gb358) (o := .cells #[.int .i64 t354, .int .i64 t355, .bool t356] 98 (0, 0)) (by (with_reducible repeat (first | refine blk_drewN ?_ _ | refine blk_drew ?_ | refine blk_alloc ?_ _)); exact BK358.out) hb); have n4_ := Aside0.mk (below_step (by repeat (first | (with_reducible first | exact HB.out | apply below_alloc | apply pw_below_drewN | apply below_drew1 | refine below_set ?_ GE343.out | refine below_set ?_ GE353.out | refine below_set ?_ GE358.out) | exact HB.out)) hb); clear HO347; clear BK343; clear BK353; clear BK358; clear HB; have HO347 := n0_; have BK343 := n1_; have BK353 := n2_; have BK358 := n3_; have HB := n4_; clear n0_ n1_ n2_ n3_ n4_; (try clear hb); (try clear hb2); (try clear hk); (try clear hi)))
      (try simp only [Act.put, List.setIfInBounds_toArray, List.set_cons_zero, List.set_cons_succ])
      go_cut [85] (fun v85 wc => ∃ (kq : Nat) (x85_13 : Bool), v85 = .bool x85_13 ∧ Aside0 (spencelaw17_CodecDrops.j0 kq t345 t348 x85_13 a0_0 a0_1 a0_2 = some r) ∧ Aside0 (kq ≤ k) ∧ Aside0 (Kd.R (Kd.int .u8) 5 wc w.heap.size (fun _ => True) v346 t345) ∧ Aside0 (wc.heap[gb343]? = some (.cells #[.int .i64 a0_0, .int .i64 a0_1, .bool a0_2] 98 (0, 0))) ∧ Aside0 (wc.heap[gb353]? = some (.cells #[.int .i64 t349, .int .i64 t350, .bool t351] 98 (0, 0))) ∧ Aside0 (wc.heap[gb358]? = some (.cells #[.int .i64 t354, .int .i64 t355, .bool t356] 98 (0, 0))) ∧ Aside0 (Below w.heap.size w wc))
      case first =>
        have H := HC14.out
        clear HC14
        by_cases c30 : (!(t349 == t354) || (!(t350 == t355) || (!(t351 == t356)))) = true
        · rw [if_pos c30] at H
          have c30b0 : (!(t349 == t354) || (!(t350 == t355) || (!(t351 == t356)))) = true := c30
          clear c30
          (first | rw [c30b0] | (simp only [i64_w, i32_w]; rw [c30b0]) | skip)
          have H' := Aside0.mk H
          clear H
          have hnb31 := NB353_343.out
          have hnc31 := NB343_353.out
          have hnb32 := NB353_358.out
          have hnc32 := NB358_353.out
          have hcz33_0 : w29.cell? ⟨gb353, 0, none⟩ = some (.int .i64 t349) := (blk_cell BK353.out 0).trans rfl
          have hcz33_1 : w29.cell? ⟨gb353, 1, none⟩ = some (.int .i64 t350) := (blk_cell BK353.out 1).trans rfl
          have hcz33_2 : w29.cell? ⟨gb353, 2, none⟩ = some (.bool t351) := (blk_cell BK353.out 2).trans rfl
          have hfz33_0 := blk_frozen BK353.out 0
          have hfz33_1 := blk_frozen BK353.out 1
          have hfz33_2 := blk_frozen BK353.out 2
          have hnb34 := NB358_343.out
          have hnc34 := NB343_358.out
          have hcz35_0 : w29.cell? ⟨gb358, 0, none⟩ = some (.int .i64 t354) := (blk_cell BK358.out 0).trans rfl
          have hcz35_1 : w29.cell? ⟨gb358, 1, none⟩ = some (.int .i64 t355) := (blk_cell BK358.out 1).trans rfl
          have hcz35_2 : w29.cell? ⟨gb358, 2, none⟩ = some (.bool t356) := (blk_cell BK358.out 2).trans rfl
          have hfz35_0 := blk_frozen BK358.out 0
          have hfz35_1 := blk_frozen BK358.out 1
          have hfz35_2 := blk_frozen BK358.out 2
          go_wp2
          go_meet
          case rel => exact ⟨_, (true), (by first | rfl | (simp; done) | (simp [*]; done)), H', ⟨by first | omega | exact Nat.le_refl _⟩, ⟨by (with_reducible repeat (first | apply Kd.R_alloc | apply Kd.R_drewN | apply Kd.R_drew)); exact HO347.out⟩, ⟨by (with_reducible repeat (first | refine blk_drewN ?_ _ | refine blk_drew ?_ | refine blk_alloc ?_ _)); exact BK343.out⟩, ⟨by (with_reducible repeat (first | refine blk_drewN ?_ _ | refine blk_drew ?_ | refine blk_alloc ?_ _)); exact BK353.out⟩, ⟨by (with_reducible repeat (first | refine blk_drewN ?_ _ | refine blk_drew ?_ | refine blk_alloc ?_ _)); exact BK358.out⟩, ⟨by repeat (first | (with_reducible first | exact HB.out | apply below_alloc | apply pw_below_drewN | apply below_drew1 | refine below_set ?_ GE343.out | refine below_set ?_ GE353.out | refine below_set ?_ GE358.out) | exact HB.out)⟩⟩
        · rw [if_neg c30] at H
          have c30b0 : (!(t349 == t354) || (!(t350 == t355) || (!(t351 == t356)))) = false := by simpa using c30
          clear c30
          (first | rw [c30b0] | (simp only [i64_w, i32_w]; rw [c30b0]) | skip)
          by_cases c36 : (t357 != (t352 == 0)) = true
          · rw [if_pos c36] at H
            have c36b0 : (t357 != (t352 == 0)) = true := c36
            (try (have c36b1 : decide (t357 = (t352 == 0)) = false := by simpa using c36))
            (try (have c36b2 : (t357 == (t352 == 0)) = false := by simpa using c36))
            (try (have c36b3 : ¬ (t357 = (t352 == 0)) := by simpa using c36))
            clear c36
            have H' := Aside0.mk H
            clear H
            have hnb37 := NB353_343.out
            have hnc37 := NB343_353.out
            have hnb38 := NB353_358.out
            have hnc38 := NB358_353.out
            have hcz39_0 : w29.cell? ⟨gb353, 0, none⟩ = some (.int .i64 t349) := (blk_cell BK353.out 0).trans rfl
            have hcz39_1 : w29.cell? ⟨gb353, 1, none⟩ = some (.int .i64 t350) := (blk_cell BK353.out 1).trans rfl
            have hcz39_2 : w29.cell? ⟨gb353, 2, none⟩ = some (.bool t351) := (blk_cell BK353.out 2).trans rfl
            have hfz39_0 := blk_frozen BK353.out 0
            have hfz39_1 := blk_frozen BK353.out 1
            have hfz39_2 := blk_frozen BK353.out 2
            have hnb40 := NB358_343.out
            have hnc40 := NB343_358.out
            have hcz41_0 : w29.cell? ⟨gb358, 0, none⟩ = some (.int .i64 t354) := (blk_cell BK358.out 0).trans rfl
            have hcz41_1 : w29.cell? ⟨gb358, 1, none⟩ = some (.int .i64 t355) := (blk_cell BK358.out 1).trans rfl
            have hcz41_2 : w29.cell? ⟨gb358, 2, none⟩ = some (.bool t356) := (blk_cell BK358.out 2).trans rfl
            have hfz41_0 := blk_frozen BK358.out 0
            have hfz41_1 := blk_frozen BK358.out 1
            have hfz41_2 := blk_frozen BK358.out 2
            go_wp2
            go_meet
            case rel => exact ⟨_, (true), (by first | rfl | (simp; done) | (simp [*]; done)), H', ⟨by first | omega | exact Nat.le_refl _⟩, ⟨by (with_reducible repeat (first | apply Kd.R_alloc | apply Kd.R_drewN | apply Kd.R_drew)); exact HO347.out⟩, ⟨by (with_reducible repeat (first | refine blk_drewN ?_ _ | refine blk_drew ?_ | refine blk_alloc ?_ _)); exact BK343.out⟩, ⟨by (with_reducible repeat (first | refine blk_drewN ?_ _ | refine blk_drew ?_ | refine blk_alloc ?_ _)); exact BK353.out⟩, ⟨by (with_reducible repeat (first | refine blk_drewN ?_ _ | refine blk_drew ?_ | refine blk_alloc ?_ _)); exact BK358.out⟩, ⟨by repeat (first | (with_reducible first | exact HB.out | apply below_alloc | apply pw_below_drewN | apply below_drew1 | refine below_set ?_ GE343.out | refine below_set ?_ GE353.out | refine below_set ?_ GE358.out) | exact HB.out)⟩⟩
          · rw [if_neg c36] at H
            have c36b0 : (t357 != (t352 == 0)) = false := by simpa using c36
            (try (have c36b1 : decide (t357 = (t352 == 0)) = true := by simpa using c36))
            (try (have c36b2 : (t357 == (t352 == 0)) = true := by simpa using c36))
            clear c36
            by_cases c42 : t357 = true
            · subst c42
              have H1 : (if (t360 != t363) = true then (spencelaw17_CodecDrops.j0 k t345 t348 true a0_0 a0_1 a0_2) else (if t363 = true then (spencelaw17_CodecDrops.j0 k t345 t348 (t359 != t361) a0_0 a0_1 a0_2) else (spencelaw17_CodecDrops.j0 k t345 t348 false a0_0 a0_1 a0_2))) = some r := by rw [if_pos rfl] at H; exact H
              clear H
              have H := H1
              clear H1
              by_cases c43 : (t360 != t363) = true
              · rw [if_pos c43] at H
                have c43b0 : (t360 != t363) = true := c43
                (try (have c43b1 : decide (t360 = t363) = false := by simpa using c43))
                (try (have c43b2 : (t360 == t363) = false := by simpa using c43))
                (try (have c43b3 : ¬ (t360 = t363) := by simpa using c43))
                clear c43
                have H' := Aside0.mk H
                clear H
                have hnb44 := NB353_343.out
                have hnc44 := NB343_353.out
                have hnb45 := NB353_358.out
                have hnc45 := NB358_353.out
                have hcz46_0 : w29.cell? ⟨gb353, 0, none⟩ = some (.int .i64 t349) := (blk_cell BK353.out 0).trans rfl
                have hcz46_1 : w29.cell? ⟨gb353, 1, none⟩ = some (.int .i64 t350) := (blk_cell BK353.out 1).trans rfl
                have hcz46_2 : w29.cell? ⟨gb353, 2, none⟩ = some (.bool t351) := (blk_cell BK353.out 2).trans rfl
                have hfz46_0 := blk_frozen BK353.out 0
                have hfz46_1 := blk_frozen BK353.out 1
                have hfz46_2 := blk_frozen BK353.out 2
                have hnb47 := NB358_343.out
                have hnc47 := NB343_358.out
                have hcz48_0 : w29.cell? ⟨gb358, 0, none⟩ = some (.int .i64 t354) := (blk_cell BK358.out 0).trans rfl
                have hcz48_1 : w29.cell? ⟨gb358, 1, none⟩ = some (.int .i64 t355) := (blk_cell BK358.out 1).trans rfl
                have hcz48_2 : w29.cell? ⟨gb358, 2, none⟩ = some (.bool t356) := (blk_cell BK358.out 2).trans rfl
                have hfz48_0 := blk_frozen BK358.out 0
                have hfz48_1 := blk_frozen BK358.out 1
                have hfz48_2 := blk_frozen BK358.out 2
                go_wp2
                go_meet
                case rel => exact ⟨_, (true), (by first | rfl | (simp; done) | (simp [*]; done)), H', ⟨by first | omega | exact Nat.le_refl _⟩, ⟨by (with_reducible repeat (first | apply Kd.R_alloc | apply Kd.R_drewN | apply Kd.R_drew)); exact HO347.out⟩, ⟨by (with_reducible repeat (first | refine blk_drewN ?_ _ | refine blk_drew ?_ | refine blk_alloc ?_ _)); exact BK343.out⟩, ⟨by (with_reducible repeat (first | refine blk_drewN ?_ _ | refine blk_drew ?_ | refine blk_alloc ?_ _)); exact BK353.out⟩, ⟨by (with_reducible repeat (first | refine blk_drewN ?_ _ | refine blk_drew ?_ | refine blk_alloc ?_ _)); exact BK358.out⟩, ⟨by repeat (first | (with_reducible first | exact HB.out | apply below_alloc | apply pw_below_drewN | apply below_drew1 | refine below_set ?_ GE343.out | refine below_set ?_ GE353.out | refine below_set ?_ GE358.out) | exact HB.out)⟩⟩
              · rw [if_neg c43] at H
                have c43b0 : (t360 != t363) = false := by simpa using c43
                (try (have c43b1 : decide (t360 = t363) = true := by simpa using c43))
                (try (have c43b2 : (t360 == t363) = true := by simpa using c43))
                clear c43
                by_cases c49 : t363 = true
                · subst c49
                  have H1 : (spencelaw17_CodecDrops.j0 k t345 t348 (t359 != t361) a0_0 a0_1 a0_2) = some r := by rw [if_pos rfl] at H; exact H
                  clear H
                  have H := H1
                  clear H1
                  have H' := Aside0.mk H
                  clear H
                  have hnb50 := NB353_343.out
                  have hnc50 := NB343_353.out
                  have hnb51 := NB353_358.out
                  have hnc51 := NB358_353.out
                  have hcz52_0 : w29.cell? ⟨gb353, 0, none⟩ = some (.int .i64 t349) := (blk_cell BK353.out 0).trans rfl
                  have hcz52_1 : w29.cell? ⟨gb353, 1, none⟩ = some (.int .i64 t350) := (blk_cell BK353.out 1).trans rfl
                  have hcz52_2 : w29.cell? ⟨gb353, 2, none⟩ = some (.bool t351) := (blk_cell BK353.out 2).trans rfl
                  have hfz52_0 := blk_frozen BK353.out 0
                  have hfz52_1 := blk_frozen BK353.out 1
                  have hfz52_2 := blk_frozen BK353.out 2
                  have hnb53 := NB358_343.out
                  have hnc53 := NB343_358.out
                  have hcz54_0 : w29.cell? ⟨gb358, 0, none⟩ = some (.int .i64 t354) := (blk_cell BK358.out 0).trans rfl
                  have hcz54_1 : w29.cell? ⟨gb358, 1, none⟩ = some (.int .i64 t355) := (blk_cell BK358.out 1).trans rfl
                  have hcz54_2 : w29.cell? ⟨gb358, 2, none⟩ = some (.bool t356) := (blk_cell BK358.out 2).trans rfl
                  have hfz54_0 := blk_frozen BK358.out 0
                  have hfz54_1 := blk_frozen BK358.out 1
                  have hfz54_2 := blk_frozen BK358.out 2
                  go_wp2
                  go_meet
                  case rel => exact ⟨_, ((t359 != t361)), (by first | rfl | (simp; done) | (simp [*]; done)), H', ⟨by first | omega | exact Nat.le_refl _⟩, ⟨by (with_reducible repeat (first | apply Kd.R_alloc | apply Kd.R_drewN | apply Kd.R_drew)); exact HO347.out⟩, ⟨by (with_reducible repeat (first | refine blk_drewN ?_ _ | refine blk_drew ?_ | refine blk_alloc ?_ _)); exact BK343.out⟩, ⟨by (with_reducible repeat (first | refine blk_drewN ?_ _ | refine blk_drew ?_ | refine blk_alloc ?_ _)); exact BK353.out⟩, ⟨by (with_reducible repeat (first | refine blk_drewN ?_ _ | refine blk_drew ?_ | refine blk_alloc ?_ _)); exact BK358.out⟩, ⟨by repeat (first | (with_reducible first | exact HB.out | apply below_alloc | apply pw_below_drewN | apply below_drew1 | refine below_set ?_ GE343.out | refine below_set ?_ GE353.out | refine below_set ?_ GE358.out) | exact HB.out)⟩⟩
                · replace c49 := Bool.eq_false_iff.mpr c49
                  subst c49
                  have H1 : (spencelaw17_CodecDrops.j0 k t345 t348 false a0_0 a0_1 a0_2) = some r := by rw [if_neg (show ¬ (false = true) by decide)] at H; exact H
                  clear H
                  have H := H1
                  clear H1
                  have H' := Aside0.mk H
                  clear H
                  have hnb55 := NB353_343.out
                  have hnc55 := NB343_353.out
                  have hnb56 := NB353_358.out
                  have hnc56 := NB358_353.out
                  have hcz57_0 : w29.cell? ⟨gb353, 0, none⟩ = some (.int .i64 t349) := (blk_cell BK353.out 0).trans rfl
                  have hcz57_1 : w29.cell? ⟨gb353, 1, none⟩ = some (.int .i64 t350) := (blk_cell BK353.out 1).trans rfl
                  have hcz57_2 : w29.cell? ⟨gb353, 2, none⟩ = some (.bool t351) := (blk_cell BK353.out 2).trans rfl
                  have hfz57_0 := blk_frozen BK353.out 0
                  have hfz57_1 := blk_frozen BK353.out 1
                  have hfz57_2 := blk_frozen BK353.out 2
                  have hnb58 := NB358_343.out
                  have hnc58 := NB343_358.out
                  have hcz59_0 : w29.cell? ⟨gb358, 0, none⟩ = some (.int .i64 t354) := (blk_cell BK358.out 0).trans rfl
                  have hcz59_1 : w29.cell? ⟨gb358, 1, none⟩ = some (.int .i64 t355) := (blk_cell BK358.out 1).trans rfl
                  have hcz59_2 : w29.cell? ⟨gb358, 2, none⟩ = some (.bool t356) := (blk_cell BK358.out 2).trans rfl
                  have hfz59_0 := blk_frozen BK358.out 0
                  have hfz59_1 := blk_frozen BK358.out 1
                  have hfz59_2 := blk_frozen BK358.out 2
                  go_wp2
                  go_meet
                  case rel => exact ⟨_, (false), (by first | rfl | (simp; done) | (simp [*]; done)), H', ⟨by first | omega | exact Nat.le_refl _⟩, ⟨by (with_reducible repeat (first | apply Kd.R_alloc | apply Kd.R_drewN | apply Kd.R_drew)); exact HO347.out⟩, ⟨by (with_reducible repeat (first | refine blk_drewN ?_ _ | refine blk_drew ?_ | refine blk_alloc ?_ _)); exact BK343.out⟩, ⟨by (with_reducible repeat (first | refine blk_drewN ?_ _ | refine blk_drew ?_ | refine blk_alloc ?_ _)); exact BK353.out⟩, ⟨by (with_reducible repeat (first | refine blk_drewN ?_ _ | refine blk_drew ?_ | refine blk_alloc ?_ _)); exact BK358.out⟩, ⟨by repeat (first | (with_reducible first | exact HB.out | apply below_alloc | apply pw_below_drewN | apply below_drew1 | refine below_set ?_ GE343.out | refine below_set ?_ GE353.out | refine below_set ?_ GE358.out) | exact HB.out)⟩⟩
            · replace c42 := Bool.eq_false_iff.mpr c42
              subst c42
              have H1 : (if t352 = 3 then (if (t360 != t363) = true then (spencelaw17_CodecDrops.j0 k t345 t348 true a0_0 a0_1 a0_2) else (if t363 = true then (spencelaw17_CodecDrops.j0 k t345 t348 (t359 != t361) a0_0 a0_1 a0_2) else (spencelaw17_CodecDrops.j0 k t345 t348 false a0_0 a0_1 a0_2))) else (spencelaw17_CodecDrops.j0 k t345 t348 true a0_0 a0_1 a0_2)) = some r := by rw [if_neg (show ¬ (false = true) by decide)] at H; exact H
              clear H
              have H := H1
              clear H1
              by_cases c60 : t352 = 3
              · rw [if_pos c60] at H
                have c60b0 : (t352 == 3) = true := beq_iff_eq.mpr c60
                have c60b1 : (t352 != 3) = false := bne_eq_false_iff_eq.mpr c60
                clear c60
                by_cases c61 : (t360 != t363) = true
                · rw [if_pos c61] at H
                  have c61b0 : (t360 != t363) = true := c61
                  (try (have c61b1 : decide (t360 = t363) = false := by simpa using c61))
                  (try (have c61b2 : (t360 == t363) = false := by simpa using c61))
                  (try (have c61b3 : ¬ (t360 = t363) := by simpa using c61))
                  clear c61
                  have H' := Aside0.mk H
                  clear H
                  have hnb62 := NB353_343.out
                  have hnc62 := NB343_353.out
                  have hnb63 := NB353_358.out
                  have hnc63 := NB358_353.out
                  have hcz64_0 : w29.cell? ⟨gb353, 0, none⟩ = some (.int .i64 t349) := (blk_cell BK353.out 0).trans rfl
                  have hcz64_1 : w29.cell? ⟨gb353, 1, none⟩ = some (.int .i64 t350) := (blk_cell BK353.out 1).trans rfl
                  have hcz64_2 : w29.cell? ⟨gb353, 2, none⟩ = some (.bool t351) := (blk_cell BK353.out 2).trans rfl
                  have hfz64_0 := blk_frozen BK353.out 0
                  have hfz64_1 := blk_frozen BK353.out 1
                  have hfz64_2 := blk_frozen BK353.out 2
                  have hnb65 := NB358_343.out
                  have hnc65 := NB343_358.out
                  have hcz66_0 : w29.cell? ⟨gb358, 0, none⟩ = some (.int .i64 t354) := (blk_cell BK358.out 0).trans rfl
                  have hcz66_1 : w29.cell? ⟨gb358, 1, none⟩ = some (.int .i64 t355) := (blk_cell BK358.out 1).trans rfl
                  have hcz66_2 : w29.cell? ⟨gb358, 2, none⟩ = some (.bool t356) := (blk_cell BK358.out 2).trans rfl
                  have hfz66_0 := blk_frozen BK358.out 0
                  have hfz66_1 := blk_frozen BK358.out 1
                  have hfz66_2 := blk_frozen BK358.out 2
                  go_wp2
                  go_meet
                  case rel => exact ⟨_, (true), (by first | rfl | (simp; done) | (simp [*]; done)), H', ⟨by first | omega | exact Nat.le_refl _⟩, ⟨by (with_reducible repeat (first | apply Kd.R_alloc | apply Kd.R_drewN | apply Kd.R_drew)); exact HO347.out⟩, ⟨by (with_reducible repeat (first | refine blk_drewN ?_ _ | refine blk_drew ?_ | refine blk_alloc ?_ _)); exact BK343.out⟩, ⟨by (with_reducible repeat (first | refine blk_drewN ?_ _ | refine blk_drew ?_ | refine blk_alloc ?_ _)); exact BK353.out⟩, ⟨by (with_reducible repeat (first | refine blk_drewN ?_ _ | refine blk_drew ?_ | refine blk_alloc ?_ _)); exact BK358.out⟩, ⟨by repeat (first | (with_reducible first | exact HB.out | apply below_alloc | apply pw_below_drewN | apply below_drew1 | refine below_set ?_ GE343.out | refine below_set ?_ GE353.out | refine below_set ?_ GE358.out) | exact HB.out)⟩⟩
                · rw [if_neg c61] at H
                  have c61b0 : (t360 != t363) = false := by simpa using c61
                  (try (have c61b1 : decide (t360 = t363) = true := by simpa using c61))
                  (try (have c61b2 : (t360 == t363) = true := by simpa using c61))
                  clear c61
                  by_cases c67 : t363 = true
                  · subst c67
                    have H1 : (spencelaw17_CodecDrops.j0 k t345 t348 (t359 != t361) a0_0 a0_1 a0_2) = some r := by rw [if_pos rfl] at H; exact H
                    clear H
                    have H := H1
                    clear H1
                    have H' := Aside0.mk H
                    clear H
                    have hnb68 := NB353_343.out
                    have hnc68 := NB343_353.out
                    have hnb69 := NB353_358.out
                    have hnc69 := NB358_353.out
                    have hcz70_0 : w29.cell? ⟨gb353, 0, none⟩ = some (.int .i64 t349) := (blk_cell BK353.out 0).trans rfl
                    have hcz70_1 : w29.cell? ⟨gb353, 1, none⟩ = some (.int .i64 t350) := (blk_cell BK353.out 1).trans rfl
                    have hcz70_2 : w29.cell? ⟨gb353, 2, none⟩ = some (.bool t351) := (blk_cell BK353.out 2).trans rfl
                    have hfz70_0 := blk_frozen BK353.out 0
                    have hfz70_1 := blk_frozen BK353.out 1
                    have hfz70_2 := blk_frozen BK353.out 2
                    have hnb71 := NB358_343.out
                    have hnc71 := NB343_358.out
                    have hcz72_0 : w29.cell? ⟨gb358, 0, none⟩ = some (.int .i64 t354) := (blk_cell BK358.out 0).trans rfl
                    have hcz72_1 : w29.cell? ⟨gb358, 1, none⟩ = some (.int .i64 t355) := (blk_cell BK358.out 1).trans rfl
                    have hcz72_2 : w29.cell? ⟨gb358, 2, none⟩ = some (.bool t356) := (blk_cell BK358.out 2).trans rfl
                    have hfz72_0 := blk_frozen BK358.out 0
                    have hfz72_1 := blk_frozen BK358.out 1
                    have hfz72_2 := blk_frozen BK358.out 2
                    go_wp2
                    go_meet
                    case rel => exact ⟨_, ((t359 != t361)), (by first | rfl | (simp; done) | (simp [*]; done)), H', ⟨by first | omega | exact Nat.le_refl _⟩, ⟨by (with_reducible repeat (first | apply Kd.R_alloc | apply Kd.R_drewN | apply Kd.R_drew)); exact HO347.out⟩, ⟨by (with_reducible repeat (first | refine blk_drewN ?_ _ | refine blk_drew ?_ | refine blk_alloc ?_ _)); exact BK343.out⟩, ⟨by (with_reducible repeat (first | refine blk_drewN ?_ _ | refine blk_drew ?_ | refine blk_alloc ?_ _)); exact BK353.out⟩, ⟨by (with_reducible repeat (first | refine blk_drewN ?_ _ | refine blk_drew ?_ | refine blk_alloc ?_ _)); exact BK358.out⟩, ⟨by repeat (first | (with_reducible first | exact HB.out | apply below_alloc | apply pw_below_drewN | apply below_drew1 | refine below_set ?_ GE343.out | refine below_set ?_ GE353.out | refine below_set ?_ GE358.out) | exact HB.out)⟩⟩
                  · replace c67 := Bool.eq_false_iff.mpr c67
                    subst c67
                    have H1 : (spencelaw17_CodecDrops.j0 k t345 t348 false a0_0 a0_1 a0_2) = some r := by rw [if_neg (show ¬ (false = true) by decide)] at H; exact H
                    clear H
                    have H := H1
                    clear H1
                    have H' := Aside0.mk H
                    clear H
                    have hnb73 := NB353_343.out
                    have hnc73 := NB343_353.out
                    have hnb74 := NB353_358.out
                    have hnc74 := NB358_353.out
                    have hcz75_0 : w29.cell? ⟨gb353, 0, none⟩ = some (.int .i64 t349) := (blk_cell BK353.out 0).trans rfl
                    have hcz75_1 : w29.cell? ⟨gb353, 1, none⟩ = some (.int .i64 t350) := (blk_cell BK353.out 1).trans rfl
                    have hcz75_2 : w29.cell? ⟨gb353, 2, none⟩ = some (.bool t351) := (blk_cell BK353.out 2).trans rfl
                    have hfz75_0 := blk_frozen BK353.out 0
                    have hfz75_1 := blk_frozen BK353.out 1
                    have hfz75_2 := blk_frozen BK353.out 2
                    have hnb76 := NB358_343.out
                    have hnc76 := NB343_358.out
                    have hcz77_0 : w29.cell? ⟨gb358, 0, none⟩ = some (.int .i64 t354) := (blk_cell BK358.out 0).trans rfl
                    have hcz77_1 : w29.cell? ⟨gb358, 1, none⟩ = some (.int .i64 t355) := (blk_cell BK358.out 1).trans rfl
                    have hcz77_2 : w29.cell? ⟨gb358, 2, none⟩ = some (.bool t356) := (blk_cell BK358.out 2).trans rfl
                    have hfz77_0 := blk_frozen BK358.out 0
                    have hfz77_1 := blk_frozen BK358.out 1
                    have hfz77_2 := blk_frozen BK358.out 2
                    go_wp2
                    go_meet
                    case rel => exact ⟨_, (false), (by first | rfl | (simp; done) | (simp [*]; done)), H', ⟨by first | omega | exact Nat.le_refl _⟩, ⟨by (with_reducible repeat (first | apply Kd.R_alloc | apply Kd.R_drewN | apply Kd.R_drew)); exact HO347.out⟩, ⟨by (with_reducible repeat (first | refine blk_drewN ?_ _ | refine blk_drew ?_ | refine blk_alloc ?_ _)); exact BK343.out⟩, ⟨by (with_reducible repeat (first | refine blk_drewN ?_ _ | refine blk_drew ?_ | refine blk_alloc ?_ _)); exact BK353.out⟩, ⟨by (with_reducible repeat (first | refine blk_drewN ?_ _ | refine blk_drew ?_ | refine blk_alloc ?_ _)); exact BK358.out⟩, ⟨by repeat (first | (with_reducible first | exact HB.out | apply below_alloc | apply pw_below_drewN | apply below_drew1 | refine below_set ?_ GE343.out | refine below_set ?_ GE353.out | refine below_set ?_ GE358.out) | exact HB.out)⟩⟩
              · rw [if_neg c60] at H
                have c60b0 : (t352 == 3) = false := beq_eq_false_iff_ne.mpr c60
                have c60b1 : (t352 != 3) = true := bne_iff_ne.mpr c60
                have H' := Aside0.mk H
                clear H
                have hnb78 := NB353_343.out
                have hnc78 := NB343_353.out
                have hnb79 := NB353_358.out
                have hnc79 := NB358_353.out
                have hcz80_0 : w29.cell? ⟨gb353, 0, none⟩ = some (.int .i64 t349) := (blk_cell BK353.out 0).trans rfl
                have hcz80_1 : w29.cell? ⟨gb353, 1, none⟩ = some (.int .i64 t350) := (blk_cell BK353.out 1).trans rfl
                have hcz80_2 : w29.cell? ⟨gb353, 2, none⟩ = some (.bool t351) := (blk_cell BK353.out 2).trans rfl
                have hfz80_0 := blk_frozen BK353.out 0
                have hfz80_1 := blk_frozen BK353.out 1
                have hfz80_2 := blk_frozen BK353.out 2
                have hnb81 := NB358_343.out
                have hnc81 := NB343_358.out
                have hcz82_0 : w29.cell? ⟨gb358, 0, none⟩ = some (.int .i64 t354) := (blk_cell BK358.out 0).trans rfl
                have hcz82_1 : w29.cell? ⟨gb358, 1, none⟩ = some (.int .i64 t355) := (blk_cell BK358.out 1).trans rfl
                have hcz82_2 : w29.cell? ⟨gb358, 2, none⟩ = some (.bool t356) := (blk_cell BK358.out 2).trans rfl
                have hfz82_0 := blk_frozen BK358.out 0
                have hfz82_1 := blk_frozen BK358.out 1
                have hfz82_2 := blk_frozen BK358.out 2
                go_wp2
                go_meet
                case rel => exact ⟨_, (true), (by first | rfl | (simp; done) | (simp [*]; done)), H', ⟨by first | omega | exact Nat.le_refl _⟩, ⟨by (with_reducible repeat (first | apply Kd.R_alloc | apply Kd.R_drewN | apply Kd.R_drew)); exact HO347.out⟩, ⟨by (with_reducible repeat (first | refine blk_drewN ?_ _ | refine blk_drew ?_ | refine blk_alloc ?_ _)); exact BK343.out⟩, ⟨by (with_reducible repeat (first | refine blk_drewN ?_ _ | refine blk_drew ?_ | refine blk_alloc ?_ _)); exact BK353.out⟩, ⟨by (with_reducible repeat (first | refine blk_drewN ?_ _ | refine blk_drew ?_ | refine blk_alloc ?_ _)); exact BK358.out⟩, ⟨by repeat (first | (with_reducible first | exact HB.out | apply below_alloc | apply pw_below_drewN | apply below_drew1 | refine below_set ?_ GE343.out | refine below_set ?_ GE353.out | refine below_set ?_ GE358.out) | exact HB.out)⟩⟩
      case rest =>
        clear HC14
        try clear c1
        try clear c2
        try clear p2
        try clear c3
        try clear c4
        try clear c5
        try clear c6
        try clear c6b0
        try clear c6b1
        try clear c7
        try clear c8
        try clear c14
        try clear c21
        try clear c25
        try clear c26
        try clear c30
        try clear c30b0
        try clear c31
        try clear c32
        try clear c34
        try clear c36
        try clear c36b0
        try clear c36b1
        try clear c36b2
        try clear c37
        try clear c38
        try clear c40
        try clear c42
        try clear c43
        try clear c43b0
        try clear c43b1
        try clear c43b2
        try clear c44
        try clear c45
        try clear c47
        try clear c49
        try clear c50
        try clear c51
        try clear c53
        try clear c55
        try clear c56
        try clear c58
        try clear c60
        try clear c60b0
        try clear c60b1
        try clear c61
        try clear c61b0
        try clear c61b1
        try clear c61b2
        try clear c62
        try clear c63
        try clear c64
        try clear c65
        try clear c66
        try clear c67
        try clear c68
        try clear c69
        try clear c71
        try clear c73
        try clear c74
        try clear c76
        try clear c78
        try clear c79
        try clear c81
        try clear hcz17_0
        try clear hcz17_1
        try clear hcz17_2
        try clear hcz22_0
        try clear hcz22_1
        try clear hcz22_2
        try clear hcz27_0
        try clear hcz27_1
        try clear hcz27_2
        try clear hcz33_0
        try clear hcz33_1
        try clear hcz33_2
        try clear hcz35_0
        try clear hcz35_1
        try clear hcz35_2
        try clear hcz39_0
        try clear hcz39_1
        try clear hcz39_2
        try clear hcz41_0
        try clear hcz41_1
        try clear hcz41_2
        try clear hcz46_0
        try clear hcz46_1
        try clear hcz46_2
        try clear hcz48_0
        try clear hcz48_1
        try clear hcz48_2
        try clear hcz52_0
        try clear hcz52_1
        try clear hcz52_2
        try clear hcz54_0
        try clear hcz54_1
        try clear hcz54_2
        try clear hcz57_0
        try clear hcz57_1
        try clear hcz57_2
        try clear hcz59_0
        try clear hcz59_1
        try clear hcz59_2
        try clear hcz64_0
        try clear hcz64_1
        try clear hcz64_2
        try clear hcz66_0
        try clear hcz66_1
        try clear hcz66_2
        try clear hcz70_0
        try clear hcz70_1
        try clear hcz70_2
        try clear hcz72_0
        try clear hcz72_1
        try clear hcz72_2
        try clear hcz75_0
        try clear hcz75_1
        try clear hcz75_2
        try clear hcz77_0
        try clear hcz77_1
        try clear hcz77_2
        try clear hcz80_0
        try clear hcz80_1
        try clear hcz80_2
        try clear hcz82_0
        try clear hcz82_1
        try clear hcz82_2
        try clear hfz17_0
        try clear hfz17_1
        try clear hfz17_2
        try clear hfz22_0
        try clear hfz22_1
        try clear hfz22_2
        try clear hfz27_0
        try clear hfz27_1
        try clear hfz27_2
        try clear hfz33_0
        try clear hfz33_1
        try clear hfz33_2
        try clear hfz35_0
        try clear hfz35_1
        try clear hfz35_2
        try clear hfz39_0
        try clear hfz39_1
        try clear hfz39_2
        try clear hfz41_0
        try clear hfz41_1
        try clear hfz41_2
        try clear hfz46_0
        try clear hfz46_1
        try clear hfz46_2
        try clear hfz48_0
        try clear hfz48_1
        try clear hfz48_2
        try clear hfz52_0
        try clear hfz52_1
        try clear hfz52_2
        try clear hfz54_0
        try clear hfz54_1
        try clear hfz54_2
        try clear hfz57_0
        try clear hfz57_1
        try clear hfz57_2
        try clear hfz59_0
        try clear hfz59_1
        try clear hfz59_2
        try clear hfz64_0
        try clear hfz64_1
        try clear hfz64_2
        try clear hfz66_0
        try clear hfz66_1
        try clear hfz66_2
        try clear hfz70_0
        try clear hfz70_1
        try clear hfz70_2
        try clear hfz72_0
        try clear hfz72_1
        try clear hfz72_2
        try clear hfz75_0
        try clear hfz75_1
        try clear hfz75_2
        try clear hfz77_0
        try clear hfz77_1
        try clear hfz77_2
        try clear hfz80_0
        try clear hfz80_1
        try clear hfz80_2
        try clear hfz82_0
        try clear hfz82_1
        try clear hfz82_2
        obtain ⟨kq, x85_13, rfl, HA, HJ13, HO_7, BK343, BK353, BK358, HB⟩ := hcut
        cases kq with
        | zero => exact absurd HA.out (by simp [spencelaw17_CodecDrops.j0])
        | succ kj13 =>
          have H := HA.out
          clear HA
          simp only [spencelaw17_CodecDrops.j0] at H
          by_cases c83 : x85_13 = true
          · subst c83
            have H1 : (some false) = some r := by rw [if_pos rfl] at H; exact H
            clear H
            have H := H1
            clear H1
            obtain rfl := Option.some.inj H
            go_wp2
            all_goals
              go_ret
              exact ⟨by first | rfl | (simp [errW_none, errW_some] <;> rfl) | (simp [*, errW_none, errW_some] <;> rfl), by repeat (first | (with_reducible first | exact HB.out | apply below_alloc | apply pw_below_drewN | apply below_drew1 | refine below_set ?_ GE343.out | refine below_set ?_ GE353.out | refine below_set ?_ GE358.out) | exact HB.out)⟩
          · replace c83 := Bool.eq_false_iff.mpr c83
            subst c83
            have H1 : ((spenceref17_RightDrop.f a0_0 a0_1 a0_2).bind fun t364 => (if t364 = true then ((codec_GetDrop.f 5 t345).bind fun bt365 => (if t348 = 0 then ((spenceref17_Drop.f kj13 a0_0 a0_1 a0_2).bind fun t370 => ((spenceref01_Bytes.f kj13 t345 t370).bind fun t373 => (if t373 = true then (if bt365.2.2.2 = 0 then (some (bt365.1 == a0_0 && (bt365.2.1 == a0_1 && (bt365.2.2.1)))) else (some false)) else (some false)))) else (some false))) else (if t348 = 1 then (some ((t345.length : Int) == 0)) else (some false)))) = some r := by rw [if_neg (show ¬ (false = true) by decide)] at H; exact H
            clear H
            have H := H1
            clear H1
            replace H := Option.bind_eq_some_iff.mp H
            obtain ⟨t364, A840, H⟩ := H
            replace H : (if t364 = true then ((codec_GetDrop.f 5 t345).bind fun bt365 => (if t348 = 0 then ((spenceref17_Drop.f kj13 a0_0 a0_1 a0_2).bind fun t370 => ((spenceref01_Bytes.f kj13 t345 t370).bind fun t373 => (if t373 = true then (if bt365.2.2.2 = 0 then (some (bt365.1 == a0_0 && (bt365.2.1 == a0_1 && (bt365.2.2.1)))) else (some false)) else (some false)))) else (some false))) else (if t348 = 1 then (some ((t345.length : Int) == 0)) else (some false))) = some r := H
            have A84 := Aside0.mk A840
            clear A840
            by_cases c85 : t364 = true
            · subst c85
              have H1 : ((codec_GetDrop.f 5 t345).bind fun bt365 => (if t348 = 0 then ((spenceref17_Drop.f kj13 a0_0 a0_1 a0_2).bind fun t370 => ((spenceref01_Bytes.f kj13 t345 t370).bind fun t373 => (if t373 = true then (if bt365.2.2.2 = 0 then (some (bt365.1 == a0_0 && (bt365.2.1 == a0_1 && (bt365.2.2.1)))) else (some false)) else (some false)))) else (some false))) = some r := by rw [if_pos rfl] at H; exact H
              clear H
              have H := H1
              clear H1
              replace H := Option.bind_eq_some_iff.mp H
              obtain ⟨⟨t365, t366, t367, t368⟩, A860, H⟩ := H
              replace H : (if t348 = 0 then ((spenceref17_Drop.f kj13 a0_0 a0_1 a0_2).bind fun t370 => ((spenceref01_Bytes.f kj13 t345 t370).bind fun t373 => (if t373 = true then (if t368 = 0 then (some (t365 == a0_0 && (t366 == a0_1 && (t367)))) else (some false)) else (some false)))) else (some false)) = some r := H
              have A86 := Aside0.mk A860
              clear A860
              by_cases c87 : t348 = 0
              · rw [if_pos c87] at H
                have c87b0 : (t348 == 0) = true := beq_iff_eq.mpr c87
                have c87b1 : (t348 != 0) = false := bne_eq_false_iff_eq.mpr c87
                clear c87
                replace H := Option.bind_eq_some_iff.mp H
                obtain ⟨t370, A880, H⟩ := H
                replace H : ((spenceref01_Bytes.f kj13 t345 t370).bind fun t373 => (if t373 = true then (if t368 = 0 then (some (t365 == a0_0 && (t366 == a0_1 && (t367)))) else (some false)) else (some false))) = some r := H
                have A88 := Aside0.mk A880
                clear A880
                replace H := Option.bind_eq_some_iff.mp H
                obtain ⟨t373, A890, H⟩ := H
                replace H : (if t373 = true then (if t368 = 0 then (some (t365 == a0_0 && (t366 == a0_1 && (t367)))) else (some false)) else (some false)) = some r := H
                have A89 := Aside0.mk A890
                clear A890
                by_cases c90 : t373 = true
                · subst c90
                  have H1 : (if t368 = 0 then (some (t365 == a0_0 && (t366 == a0_1 && (t367)))) else (some false)) = some r := by rw [if_pos rfl] at H; exact H
                  clear H
                  have H := H1
                  clear H1
                  by_cases c91 : t368 = 0
                  · rw [if_pos c91] at H
                    have c91b0 : (t368 == 0) = true := beq_iff_eq.mpr c91
                    have c91b1 : (t368 != 0) = false := bne_eq_false_iff_eq.mpr c91
                    clear c91
                    obtain rfl := Option.some.inj H
                    have hnb92 := NB343_353.out
                    have hnc92 := NB353_343.out
                    have hnb93 := NB343_358.out
                    have hnc93 := NB358_343.out
                    have hcz94_0 : wc.cell? ⟨gb343, 0, none⟩ = some (.int .i64 a0_0) := (blk_cell BK343.out 0).trans rfl
                    have hcz94_1 : wc.cell? ⟨gb343, 1, none⟩ = some (.int .i64 a0_1) := (blk_cell BK343.out 1).trans rfl
                    have hcz94_2 : wc.cell? ⟨gb343, 2, none⟩ = some (.bool a0_2) := (blk_cell BK343.out 2).trans rfl
                    have hfz94_0 := blk_frozen BK343.out 0
                    have hfz94_1 := blk_frozen BK343.out 1
                    have hfz94_2 := blk_frozen BK343.out 2
                    go_wp2_with (first | ((with_reducible refine gate_callee (f := 69) rfl ?_); refine goesL_ (some 87) rfl rfl Try.func69 (by kernel_rfl) rfl #[.agg #[.int .i64 a0_0, .int .i64 a0_1, .bool a0_2]] rfl (by (try simp only [List.map_toArray, List.map_cons, List.map_nil]); first | done | rfl | (simp only [List.length_drop, List.length_take]; rfl)) ?_; (with_reducible refine (spenceref17_RightDrop.calls a0_0 a0_1 a0_2 true _ A84.out).mono ?_); rintro e w95 ⟨rfl, hb⟩; refine ⟨_, rfl, ?_⟩; have n0_ := Aside0.mk (Kd.R_below (by (with_reducible repeat (first | apply Kd.R_alloc | apply Kd.R_drewN | apply Kd.R_drew)); exact HO_7.out) hb); have n1_ := Aside0.mk (blk_below (g := gb343) (o := .cells #[.int .i64 a0_0, .int .i64 a0_1, .bool a0_2] 98 (0, 0)) (by (with_reducible repeat (first | refine blk_drewN ?_ _ | refine blk_drew ?_ | refine blk_alloc ?_ _)); exact BK343.out) hb); have n2_ := Aside0.mk (blk_below (g := gb353) (o := .cells #[.int .i64 t349, .int .i64 t350, .bool t351] 98 (0, 0)) (by (with_reducible repeat (first | refine blk_drewN ?_ _ | refine blk_drew ?_ | refine blk_alloc ?_ _)); exact BK353.out) hb); have n3_ := Aside0.mk (blk_below (g := gb358) (o := .cells #[.int .i64 t354, .int .i64 t355, .bool t356] 98 (0, 0)) (by (with_reducible repeat (first | refine blk_drewN ?_ _ | refine blk_drew ?_ | refine blk_alloc ?_ _)); exact BK358.out) hb); have n4_ := Aside0.mk (below_step (by repeat (first | (with_reducible first | exact HB.out | apply below_alloc | apply pw_below_drewN | apply below_drew1 | refine below_set ?_ GE343.out | refine below_set ?_ GE353.out | refine below_set ?_ GE358.out) | exact HB.out)) hb); clear HO_7; clear BK343; clear BK353; clear BK358; clear HB; have HO_7 := n0_; have BK343 := n1_; have BK353 := n2_; have BK358 := n3_; have HB := n4_; clear n0_ n1_ n2_ n3_ n4_; (try clear hb); (try clear hb2); (try clear hk); (try clear hi); obtain ⟨Ao96, co96, eo96⟩ := Kd.R_slice HO_7.out; subst eo96) | ((with_reducible refine gate_callee (f := 65) rfl ?_); refine goesL_ (some 98) rfl rfl Try.func65 (by kernel_rfl) rfl #[.int .u8 5, .slice Ao96 t345.length co96] rfl (by (try simp only [List.map_toArray, List.map_cons, List.map_nil]); first | done | rfl | (simp only [List.length_drop, List.length_take]; rfl)) ?_; (with_reducible refine (codec_GetDrop.calls 5 _ _ t345 t365 t366 t367 t368 _ ?side1 ?side2 A86.out).mono ?_); (case side1 => repeat (first | exact (Kd.R_reads' HO_7.out).2.2 | (with_reducible refine Kd.C_alloc ?_ _) | (with_reducible refine Kd.C_drewN ?_ _) | (with_reducible refine Kd.C_drew ?_))); (case side2 => exact (Kd.R_reads' HO_7.out).2.1); rintro e w97 ⟨rfl, hb⟩; refine ⟨_, rfl, ?_⟩; have n0_ := Aside0.mk (Kd.R_below (by (with_reducible repeat (first | apply Kd.R_alloc | apply Kd.R_drewN | apply Kd.R_drew)); exact HO_7.out) hb); have n1_ := Aside0.mk (blk_below (g := gb343) (o := .cells #[.int .i64 a0_0, .int .i64 a0_1, .bool a0_2] 98 (0, 0)) (by (with_reducible repeat (first | refine blk_drewN ?_ _ | refine blk_drew ?_ | refine blk_alloc ?_ _)); exact BK343.out) hb); have n2_ := Aside0.mk (blk_below (g := gb353) (o := .cells #[.int .i64 t349, .int .i64 t350, .bool t351] 98 (0, 0)) (by (with_reducible repeat (first | refine blk_drewN ?_ _ | refine blk_drew ?_ | refine blk_alloc ?_ _)); exact BK353.out) hb); have n3_ := Aside0.mk (blk_below (g := gb358) (o := .cells #[.int .i64 t354, .int .i64 t355, .bool t356] 98 (0, 0)) (by (with_reducible repeat (first | refine blk_drewN ?_ _ | refine blk_drew ?_ | refine blk_alloc ?_ _)); exact BK358.out) hb); have n4_ := Aside0.mk (below_step (by repeat (first | (with_reducible first | exact HB.out | apply below_alloc | apply pw_below_drewN | apply below_drew1 | refine below_set ?_ GE343.out | refine below_set ?_ GE353.out | refine below_set ?_ GE358.out) | exact HB.out)) hb); clear HO_7; clear BK343; clear BK353; clear BK358; clear HB; have HO_7 := n0_; have BK343 := n1_; have BK353 := n2_; have BK358 := n3_; have HB := n4_; clear n0_ n1_ n2_ n3_ n4_; (try clear hb); (try clear hb2); (try clear hk); (try clear hi)) | ((with_reducible refine gate_dst (N := 18) rfl ?_); (try (refine gate_guard (by rfl) ?_; dsimp only)); refine box_event ?hg (N := 18) ?hd (cs := #[.int .i64 0, .int .i64 0, .bool false]) (t := 98) ?hr ?_; (case hd => rfl); (case hg => rfl); (case hr => first | (go_simp; done) | (go_simp; rfl)); intro gb369 hg w98 hbox hb; have n0_ := Aside0.mk (Kd.R_below (by (with_reducible repeat (first | apply Kd.R_alloc | apply Kd.R_drewN | apply Kd.R_drew)); exact HO_7.out) hb); have n1_ := Aside0.mk (blk_below (g := gb343) (o := .cells #[.int .i64 a0_0, .int .i64 a0_1, .bool a0_2] 98 (0, 0)) (by (with_reducible repeat (first | refine blk_drewN ?_ _ | refine blk_drew ?_ | refine blk_alloc ?_ _)); exact BK343.out) hb); have n2_ := Aside0.mk (blk_below (g := gb353) (o := .cells #[.int .i64 t349, .int .i64 t350, .bool t351] 98 (0, 0)) (by (with_reducible repeat (first | refine blk_drewN ?_ _ | refine blk_drew ?_ | refine blk_alloc ?_ _)); exact BK353.out) hb); have n3_ := Aside0.mk (blk_below (g := gb358) (o := .cells #[.int .i64 t354, .int .i64 t355, .bool t356] 98 (0, 0)) (by (with_reducible repeat (first | refine blk_drewN ?_ _ | refine blk_drew ?_ | refine blk_alloc ?_ _)); exact BK358.out) hb); have n4_ := Aside0.mk (below_step (by repeat (first | (with_reducible first | exact HB.out | apply below_alloc | apply pw_below_drewN | apply below_drew1 | refine below_set ?_ GE343.out | refine below_set ?_ GE353.out | refine below_set ?_ GE358.out) | exact HB.out)) hb); have n5_ := Aside0.mk (hbox); have n6_ := Aside0.mk ((by rw [hg]; exact (below_size (by repeat (first | (with_reducible first | exact HB.out | apply below_alloc | apply pw_below_drewN | apply below_drew1 | refine below_set ?_ GE343.out | refine below_set ?_ GE353.out | refine below_set ?_ GE358.out) | exact HB.out))) : w.heap.size ≤ gb369)); have n7_ := Aside0.mk ((by rw [hg]; exact (below_size (by repeat (first | (with_reducible first | exact HB.out | apply below_alloc | apply pw_below_drewN | apply below_drew1 | refine below_set ?_ GE343.out | refine below_set ?_ GE353.out | refine below_set ?_ GE358.out) | exact HB.out))) : w.heap.size ≤ gb369)); have n8_ := Aside0.mk ((by rw [hg]; exact Nat.ne_of_lt (blk_lt (g := gb343) (o := .cells #[.int .i64 a0_0, .int .i64 a0_1, .bool a0_2] 98 (0, 0)) (by (with_reducible repeat (first | refine blk_drewN ?_ _ | refine blk_drew ?_ | refine blk_alloc ?_ _)); exact BK343.out)) : gb343 ≠ gb369)); have n9_ := Aside0.mk ((by rw [hg]; exact Nat.ne_of_gt (blk_lt (g := gb343) (o := .cells #[.int .i64 a0_0, .int .i64 a0_1, .bool a0_2] 98 (0, 0)) (by (with_reducible repeat (first | refine blk_drewN ?_ _ | refine blk_drew ?_ | refine blk_alloc ?_ _)); exact BK343.out)) : gb369 ≠ gb343)); have n10_ := Aside0.mk ((by rw [hg]; exact Nat.ne_of_lt (blk_lt (g := gb353) (o := .cells #[.int .i64 t349, .int .i64 t350, .bool t351] 98 (0, 0)) (by (with_reducible repeat (first | refine blk_drewN ?_ _ | refine blk_drew ?_ | refine blk_alloc ?_ _)); exact BK353.out)) : gb353 ≠ gb369)); have n11_ := Aside0.mk ((by rw [hg]; exact Nat.ne_of_gt (blk_lt (g := gb353) (o := .cells #[.int .i64 t349, .int .i64 t350, .bool t351] 98 (0, 0)) (by (with_reducible repeat (first | refine blk_drewN ?_ _ | refine blk_drew ?_ | refine blk_alloc ?_ _)); exact BK353.out)) : gb369 ≠ gb353)); have n12_ := Aside0.mk ((by rw [hg]; exact Nat.ne_of_lt (blk_lt (g := gb358) (o := .cells #[.int .i64 t354, .int .i64 t355, .bool t356] 98 (0, 0)) (by (with_reducible repeat (first | refine blk_drewN ?_ _ | refine blk_drew ?_ | refine blk_alloc ?_ _)); exact BK358.out)) : gb358 ≠ gb369)); have n13_ := Aside0.mk ((by rw [hg]; exact Nat.ne_of_gt (blk_lt (g := gb358) (o := .cells #[.int .i64 t354, .int .i64 t355, .bool t356] 98 (0, 0)) (by (with_reducible repeat (first | refine blk_drewN ?_ _ | refine blk_drew ?_ | refine blk_alloc ?_ _)); exact BK358.out)) : gb369 ≠ gb358)); clear HO_7; clear BK343; clear BK353; clear BK358; clear HB; have HO_7 := n0_; have BK343 := n1_; have BK353 := n2_; have BK358 := n3_; have HB := n4_; have BK369 := n5_; have GW369 := n6_; have GE369 := n7_; have NB343_369 := n8_; have NB369_343 := n9_; have NB353_369 := n10_; have NB369_353 := n11_; have NB358_369 := n12_; have NB369_358 := n13_; clear n0_ n1_ n2_ n3_ n4_ n5_ n6_ n7_ n8_ n9_ n10_ n11_ n12_ n13_; clear hb hbox hg; have hnb99 := NB369_343.out; have hnc99 := NB343_369.out; have hnb100 := NB369_353.out; have hnc100 := NB353_369.out; have hnb101 := NB369_358.out; have hnc101 := NB358_369.out; have hcz102_0 : w98.cell? ⟨gb369, 0, none⟩ = some (.int .i64 0) := (blk_cell BK369.out 0).trans rfl; have hcz102_1 : w98.cell? ⟨gb369, 1, none⟩ = some (.int .i64 0) := (blk_cell BK369.out 1).trans rfl; have hcz102_2 : w98.cell? ⟨gb369, 2, none⟩ = some (.bool false) := (blk_cell BK369.out 2).trans rfl; have hfz102_0 := blk_frozen BK369.out 0; have hfz102_1 := blk_frozen BK369.out 1; have hfz102_2 := blk_frozen BK369.out 2; have hcz103_0 : w98.cell? ⟨gb343, 0, none⟩ = some (.int .i64 a0_0) := (blk_cell BK343.out 0).trans rfl; have hcz103_1 : w98.cell? ⟨gb343, 1, none⟩ = some (.int .i64 a0_1) := (blk_cell BK343.out 1).trans rfl; have hcz103_2 : w98.cell? ⟨gb343, 2, none⟩ = some (.bool a0_2) := (blk_cell BK343.out 2).trans rfl; have hfz103_0 := blk_frozen BK343.out 0; have hfz103_1 := blk_frozen BK343.out 1; have hfz103_2 := blk_frozen BK343.out 2) | (go_at_call 70; (with_reducible refine (spenceref17_Drop.calls kj13 a0_0 a0_1 a0_2 t370 _ A88.out).mono ?_); rintro e w104 ⟨v371, rfl, ho0, hb⟩; have n0_ := Aside0.mk (Kd.R_elder' (by (with_reducible repeat (first | apply Kd.R_alloc | apply Kd.R_drewN | apply Kd.R_drew)); exact (Kd.R_mono (Kd.R_far (p := ⟨gb369, 2, none⟩) (Kd.R_far (p := ⟨gb369, 1, none⟩) (Kd.R_far (p := ⟨gb369, 0, none⟩) (Kd.R_types HO_7.out BK369.out (by decide)) (fun _ hk => hk.2) (.int .i64 t365)) (fun _ hk => hk.2) (.int .i64 t366)) (fun _ hk => hk.2) (.bool t367)) (fun _ h_ => h_.1))) (Kd.R_base ho0) hb); have n1_ := Aside0.mk (Kd.R_lower (Kd.R_new' ho0 (Kd.R_lt (by (with_reducible repeat (first | apply Kd.R_alloc | apply Kd.R_drewN | apply Kd.R_drew)); exact (Kd.R_mono (Kd.R_far (p := ⟨gb369, 2, none⟩) (Kd.R_far (p := ⟨gb369, 1, none⟩) (Kd.R_far (p := ⟨gb369, 0, none⟩) (Kd.R_types HO_7.out BK369.out (by decide)) (fun _ hk => hk.2) (.int .i64 t365)) (fun _ hk => hk.2) (.int .i64 t366)) (fun _ hk => hk.2) (.bool t367)) (fun _ h_ => h_.1))))) (below_size (by repeat (first | (with_reducible first | exact HB.out | apply below_alloc | apply pw_below_drewN | apply below_drew1 | refine below_set ?_ GE343.out | refine below_set ?_ GE353.out | refine below_set ?_ GE358.out | refine below_set ?_ GE369.out) | exact HB.out)))); have n2_ := Aside0.mk (blk_below (g := gb343) (o := .cells #[.int .i64 a0_0, .int .i64 a0_1, .bool a0_2] 98 (0, 0)) (by (with_reducible repeat (first | refine blk_drewN ?_ _ | refine blk_drew ?_ | refine blk_alloc ?_ _)); refine blk_far ?_ NB343_369.out _; (with_reducible repeat (first | refine blk_drewN ?_ _ | refine blk_drew ?_ | refine blk_alloc ?_ _)); refine blk_far ?_ NB343_369.out _; (with_reducible repeat (first | refine blk_drewN ?_ _ | refine blk_drew ?_ | refine blk_alloc ?_ _)); refine blk_far ?_ NB343_369.out _; (with_reducible repeat (first | refine blk_drewN ?_ _ | refine blk_drew ?_ | refine blk_alloc ?_ _)); exact BK343.out) hb); have n3_ := Aside0.mk (blk_below (g := gb353) (o := .cells #[.int .i64 t349, .int .i64 t350, .bool t351] 98 (0, 0)) (by (with_reducible repeat (first | refine blk_drewN ?_ _ | refine blk_drew ?_ | refine blk_alloc ?_ _)); refine blk_far ?_ NB353_369.out _; (with_reducible repeat (first | refine blk_drewN ?_ _ | refine blk_drew ?_ | refine blk_alloc ?_ _)); refine blk_far ?_ NB353_369.out _; (with_reducible repeat (first | refine blk_drewN ?_ _ | refine blk_drew ?_ | refine blk_alloc ?_ _)); refine blk_far ?_ NB353_369.out _; (with_reducible repeat (first | refine blk_drewN ?_ _ | refine blk_drew ?_ | refine blk_alloc ?_ _)); exact BK353.out) hb); have n4_ := Aside0.mk (blk_below (g := gb358) (o := .cells #[.int .i64 t354, .int .i64 t355, .bool t356] 98 (0, 0)) (by (with_reducible repeat (first | refine blk_drewN ?_ _ | refine blk_drew ?_ | refine blk_alloc ?_ _)); refine blk_far ?_ NB358_369.out _; (with_reducible repeat (first | refine blk_drewN ?_ _ | refine blk_drew ?_ | refine blk_alloc ?_ _)); refine blk_far ?_ NB358_369.out _; (with_reducible repeat (first | refine blk_drewN ?_ _ | refine blk_drew ?_ | refine blk_alloc ?_ _)); refine blk_far ?_ NB358_369.out _; (with_reducible repeat (first | refine blk_drewN ?_ _ | refine blk_drew ?_ | refine blk_alloc ?_ _)); exact BK358.out) hb); have n5_ := Aside0.mk (blk_below (g := gb369) (o := .cells #[.int .i64 t365, .int .i64 t366, .bool t367] 98 (0, 0)) (by (with_reducible repeat (first | refine blk_drewN ?_ _ | refine blk_drew ?_ | refine blk_alloc ?_ _)); refine blk_put (cs := #[.int .i64 t365, .int .i64 t366, .bool false]) ?_ 2 _ rfl; (with_reducible repeat (first | refine blk_drewN ?_ _ | refine blk_drew ?_ | refine blk_alloc ?_ _)); refine blk_put (cs := #[.int .i64 t365, .int .i64 0, .bool false]) ?_ 1 _ rfl; (with_reducible repeat (first | refine blk_drewN ?_ _ | refine blk_drew ?_ | refine blk_alloc ?_ _)); refine blk_put (cs := #[.int .i64 0, .int .i64 0, .bool false]) ?_ 0 _ rfl; (with_reducible repeat (first | refine blk_drewN ?_ _ | refine blk_drew ?_ | refine blk_alloc ?_ _)); exact BK369.out) hb); have n6_ := Aside0.mk (below_step (by repeat (first | (with_reducible first | exact HB.out | apply below_alloc | apply pw_below_drewN | apply below_drew1 | refine below_set ?_ GE343.out | refine below_set ?_ GE353.out | refine below_set ?_ GE358.out | refine below_set ?_ GE369.out) | exact HB.out)) hb); clear HO_7; clear BK343; clear BK353; clear BK358; clear BK369; clear HB; have HO_7 := n0_; have HO372 := n1_; have BK343 := n2_; have BK353 := n3_; have BK358 := n4_; have BK369 := n5_; have HB := n6_; clear n0_ n1_ n2_ n3_ n4_ n5_ n6_; (try clear hb); (try clear hb2); (try clear hk); (try clear hi); (try clear ho0); obtain ⟨Ao105, co105, eo105⟩ := Kd.R_slice HO372.out; subst eo105) | (go_at_call 46; (with_reducible refine (spenceref01_Bytes.calls kj13 _ _ t345 _ _ t370 true _ ?side1 ?side2 ?side3 ?side4 A89.out).mono ?_); (case side1 => repeat (first | exact (Kd.R_reads' HO_7.out).2.2 | (with_reducible refine Kd.C_alloc ?_ _) | (with_reducible refine Kd.C_drewN ?_ _) | (with_reducible refine Kd.C_drew ?_))); (case side2 => exact (Kd.R_reads' HO_7.out).2.1); (case side3 => repeat (first | exact (Kd.R_reads' HO372.out).2.2 | (with_reducible refine Kd.C_alloc ?_ _) | (with_reducible refine Kd.C_drewN ?_ _) | (with_reducible refine Kd.C_drew ?_))); (case side4 => exact (Kd.R_reads' HO372.out).2.1); rintro e w' ⟨rfl, ⟨nd, rfl⟩⟩; have hcz106_0 : w104.cell? ⟨gb369, 0, none⟩ = some (.int .i64 t365) := (blk_cell BK369.out 0).trans rfl; have hcz106_1 : w104.cell? ⟨gb369, 1, none⟩ = some (.int .i64 t366) := (blk_cell BK369.out 1).trans rfl; have hcz106_2 : w104.cell? ⟨gb369, 2, none⟩ = some (.bool t367) := (blk_cell BK369.out 2).trans rfl; have hfz106_0 := blk_frozen BK369.out 0; have hfz106_1 := blk_frozen BK369.out 1; have hfz106_2 := blk_frozen BK369.out 2; have hcz107_0 : w104.cell? ⟨gb343, 0, none⟩ = some (.int .i64 a0_0) := (blk_cell BK343.out 0).trans rfl; have hcz107_1 : w104.cell? ⟨gb343, 1, none⟩ = some (.int .i64 a0_1) := (blk_cell BK343.out 1).trans rfl; have hcz107_2 : w104.cell? ⟨gb343, 2, none⟩ = some (.bool a0_2) := (blk_cell BK343.out 2).trans rfl; have hfz107_0 := blk_frozen BK343.out 0; have hfz107_1 := blk_frozen BK343.out 1; have hfz107_2 := blk_frozen BK343.out 2))
                    all_goals
                      go_ret
                      exact ⟨by first | rfl | (simp [errW_none, errW_some] <;> rfl) | (simp [*, errW_none, errW_some] <;> rfl), by repeat (first | (with_reducible first | exact HB.out | apply below_alloc | apply pw_below_drewN | apply below_drew1 | refine below_set ?_ GE343.out | refine below_set ?_ GE353.out | refine below_set ?_ GE358.out | refine below_set ?_ GE369.out) | exact HB.out)⟩
                  · rw [if_neg c91] at H
                    have c91b0 : (t368 == 0) = false := beq_eq_false_iff_ne.mpr c91
                    have c91b1 : (t368 != 0) = true := bne_iff_ne.mpr c91
                    obtain rfl := Option.some.inj H
                    have hnb108 := NB343_353.out
                    have hnc108 := NB353_343.out
                    have hnb109 := NB343_358.out
                    have hnc109 := NB358_343.out
                    have hcz110_0 : wc.cell? ⟨gb343, 0, none⟩ = some (.int .i64 a0_0) := (blk_cell BK343.out 0).trans rfl
                    have hcz110_1 : wc.cell? ⟨gb343, 1, none⟩ = some (.int .i64 a0_1) := (blk_cell BK343.out 1).trans rfl
                    have hcz110_2 : wc.cell? ⟨gb343, 2, none⟩ = some (.bool a0_2) := (blk_cell BK343.out 2).trans rfl
                    have hfz110_0 := blk_frozen BK343.out 0
                    have hfz110_1 := blk_frozen BK343.out 1
                    have hfz110_2 := blk_frozen BK343.out 2
                    go_wp2_with (first | ((with_reducible refine gate_callee (f := 69) rfl ?_); refine goesL_ (some 87) rfl rfl Try.func69 (by kernel_rfl) rfl #[.agg #[.int .i64 a0_0, .int .i64 a0_1, .bool a0_2]] rfl (by (try simp only [List.map_toArray, List.map_cons, List.map_nil]); first | done | rfl | (simp only [List.length_drop, List.length_take]; rfl)) ?_; (with_reducible refine (spenceref17_RightDrop.calls a0_0 a0_1 a0_2 true _ A84.out).mono ?_); rintro e w111 ⟨rfl, hb⟩; refine ⟨_, rfl, ?_⟩; have n0_ := Aside0.mk (Kd.R_below (by (with_reducible repeat (first | apply Kd.R_alloc | apply Kd.R_drewN | apply Kd.R_drew)); exact HO_7.out) hb); have n1_ := Aside0.mk (blk_below (g := gb343) (o := .cells #[.int .i64 a0_0, .int .i64 a0_1, .bool a0_2] 98 (0, 0)) (by (with_reducible repeat (first | refine blk_drewN ?_ _ | refine blk_drew ?_ | refine blk_alloc ?_ _)); exact BK343.out) hb); have n2_ := Aside0.mk (blk_below (g := gb353) (o := .cells #[.int .i64 t349, .int .i64 t350, .bool t351] 98 (0, 0)) (by (with_reducible repeat (first | refine blk_drewN ?_ _ | refine blk_drew ?_ | refine blk_alloc ?_ _)); exact BK353.out) hb); have n3_ := Aside0.mk (blk_below (g := gb358) (o := .cells #[.int .i64 t354, .int .i64 t355, .bool t356] 98 (0, 0)) (by (with_reducible repeat (first | refine blk_drewN ?_ _ | refine blk_drew ?_ | refine blk_alloc ?_ _)); exact BK358.out) hb); have n4_ := Aside0.mk (below_step (by repeat (first | (with_reducible first | exact HB.out | apply below_alloc | apply pw_below_drewN | apply below_drew1 | refine below_set ?_ GE343.out | refine below_set ?_ GE353.out | refine below_set ?_ GE358.out) | exact HB.out)) hb); clear HO_7; clear BK343; clear BK353; clear BK358; clear HB; have HO_7 := n0_; have BK343 := n1_; have BK353 := n2_; have BK358 := n3_; have HB := n4_; clear n0_ n1_ n2_ n3_ n4_; (try clear hb); (try clear hb2); (try clear hk); (try clear hi); obtain ⟨Ao112, co112, eo112⟩ := Kd.R_slice HO_7.out; subst eo112) | ((with_reducible refine gate_callee (f := 65) rfl ?_); refine goesL_ (some 98) rfl rfl Try.func65 (by kernel_rfl) rfl #[.int .u8 5, .slice Ao112 t345.length co112] rfl (by (try simp only [List.map_toArray, List.map_cons, List.map_nil]); first | done | rfl | (simp only [List.length_drop, List.length_take]; rfl)) ?_; (with_reducible refine (codec_GetDrop.calls 5 _ _ t345 t365 t366 t367 t368 _ ?side1 ?side2 A86.out).mono ?_); (case side1 => repeat (first | exact (Kd.R_reads' HO_7.out).2.2 | (with_reducible refine Kd.C_alloc ?_ _) | (with_reducible refine Kd.C_drewN ?_ _) | (with_reducible refine Kd.C_drew ?_))); (case side2 => exact (Kd.R_reads' HO_7.out).2.1); rintro e w113 ⟨rfl, hb⟩; refine ⟨_, rfl, ?_⟩; have n0_ := Aside0.mk (Kd.R_below (by (with_reducible repeat (first | apply Kd.R_alloc | apply Kd.R_drewN | apply Kd.R_drew)); exact HO_7.out) hb); have n1_ := Aside0.mk (blk_below (g := gb343) (o := .cells #[.int .i64 a0_0, .int .i64 a0_1, .bool a0_2] 98 (0, 0)) (by (with_reducible repeat (first | refine blk_drewN ?_ _ | refine blk_drew ?_ | refine blk_alloc ?_ _)); exact BK343.out) hb); have n2_ := Aside0.mk (blk_below (g := gb353) (o := .cells #[.int .i64 t349, .int .i64 t350, .bool t351] 98 (0, 0)) (by (with_reducible repeat (first | refine blk_drewN ?_ _ | refine blk_drew ?_ | refine blk_alloc ?_ _)); exact BK353.out) hb); have n3_ := Aside0.mk (blk_below (g := gb358) (o := .cells #[.int .i64 t354, .int .i64 t355, .bool t356] 98 (0, 0)) (by (with_reducible repeat (first | refine blk_drewN ?_ _ | refine blk_drew ?_ | refine blk_alloc ?_ _)); exact BK358.out) hb); have n4_ := Aside0.mk (below_step (by repeat (first | (with_reducible first | exact HB.out | apply below_alloc | apply pw_below_drewN | apply below_drew1 | refine below_set ?_ GE343.out | refine below_set ?_ GE353.out | refine below_set ?_ GE358.out) | exact HB.out)) hb); clear HO_7; clear BK343; clear BK353; clear BK358; clear HB; have HO_7 := n0_; have BK343 := n1_; have BK353 := n2_; have BK358 := n3_; have HB := n4_; clear n0_ n1_ n2_ n3_ n4_; (try clear hb); (try clear hb2); (try clear hk); (try clear hi)) | ((with_reducible refine gate_dst (N := 18) rfl ?_); (try (refine gate_guard (by rfl) ?_; dsimp only)); refine box_event ?hg (N := 18) ?hd (cs := #[.int .i64 0, .int .i64 0, .bool false]) (t := 98) ?hr ?_; (case hd => rfl); (case hg => rfl); (case hr => first | (go_simp; done) | (go_simp; rfl)); intro gb369 hg w114 hbox hb; have n0_ := Aside0.mk (Kd.R_below (by (with_reducible repeat (first | apply Kd.R_alloc | apply Kd.R_drewN | apply Kd.R_drew)); exact HO_7.out) hb); have n1_ := Aside0.mk (blk_below (g := gb343) (o := .cells #[.int .i64 a0_0, .int .i64 a0_1, .bool a0_2] 98 (0, 0)) (by (with_reducible repeat (first | refine blk_drewN ?_ _ | refine blk_drew ?_ | refine blk_alloc ?_ _)); exact BK343.out) hb); have n2_ := Aside0.mk (blk_below (g := gb353) (o := .cells #[.int .i64 t349, .int .i64 t350, .bool t351] 98 (0, 0)) (by (with_reducible repeat (first | refine blk_drewN ?_ _ | refine blk_drew ?_ | refine blk_alloc ?_ _)); exact BK353.out) hb); have n3_ := Aside0.mk (blk_below (g := gb358) (o := .cells #[.int .i64 t354, .int .i64 t355, .bool t356] 98 (0, 0)) (by (with_reducible repeat (first | refine blk_drewN ?_ _ | refine blk_drew ?_ | refine blk_alloc ?_ _)); exact BK358.out) hb); have n4_ := Aside0.mk (below_step (by repeat (first | (with_reducible first | exact HB.out | apply below_alloc | apply pw_below_drewN | apply below_drew1 | refine below_set ?_ GE343.out | refine below_set ?_ GE353.out | refine below_set ?_ GE358.out) | exact HB.out)) hb); have n5_ := Aside0.mk (hbox); have n6_ := Aside0.mk ((by rw [hg]; exact (below_size (by repeat (first | (with_reducible first | exact HB.out | apply below_alloc | apply pw_below_drewN | apply below_drew1 | refine below_set ?_ GE343.out | refine below_set ?_ GE353.out | refine below_set ?_ GE358.out) | exact HB.out))) : w.heap.size ≤ gb369)); have n7_ := Aside0.mk ((by rw [hg]; exact (below_size (by repeat (first | (with_reducible first | exact HB.out | apply below_alloc | apply pw_below_drewN | apply below_drew1 | refine below_set ?_ GE343.out | refine below_set ?_ GE353.out | refine below_set ?_ GE358.out) | exact HB.out))) : w.heap.size ≤ gb369)); have n8_ := Aside0.mk ((by rw [hg]; exact Nat.ne_of_lt (blk_lt (g := gb343) (o := .cells #[.int .i64 a0_0, .int .i64 a0_1, .bool a0_2] 98 (0, 0)) (by (with_reducible repeat (first | refine blk_drewN ?_ _ | refine blk_drew ?_ | refine blk_alloc ?_ _)); exact BK343.out)) : gb343 ≠ gb369)); have n9_ := Aside0.mk ((by rw [hg]; exact Nat.ne_of_gt (blk_lt (g := gb343) (o := .cells #[.int .i64 a0_0, .int .i64 a0_1, .bool a0_2] 98 (0, 0)) (by (with_reducible repeat (first | refine blk_drewN ?_ _ | refine blk_drew ?_ | refine blk_alloc ?_ _)); exact BK343.out)) : gb369 ≠ gb343)); have n10_ := Aside0.mk ((by rw [hg]; exact Nat.ne_of_lt (blk_lt (g := gb353) (o := .cells #[.int .i64 t349, .int .i64 t350, .bool t351] 98 (0, 0)) (by (with_reducible repeat (first | refine blk_drewN ?_ _ | refine blk_drew ?_ | refine blk_alloc ?_ _)); exact BK353.out)) : gb353 ≠ gb369)); have n11_ := Aside0.mk ((by rw [hg]; exact Nat.ne_of_gt (blk_lt (g := gb353) (o := .cells #[.int .i64 t349, .int .i64 t350, .bool t351] 98 (0, 0)) (by (with_reducible repeat (first | refine blk_drewN ?_ _ | refine blk_drew ?_ | refine blk_alloc ?_ _)); exact BK353.out)) : gb369 ≠ gb353)); have n12_ := Aside0.mk ((by rw [hg]; exact Nat.ne_of_lt (blk_lt (g := gb358) (o := .cells #[.int .i64 t354, .int .i64 t355, .bool t356] 98 (0, 0)) (by (with_reducible repeat (first | refine blk_drewN ?_ _ | refine blk_drew ?_ | refine blk_alloc ?_ _)); exact BK358.out)) : gb358 ≠ gb369)); have n13_ := Aside0.mk ((by rw [hg]; exact Nat.ne_of_gt (blk_lt (g := gb358) (o := .cells #[.int .i64 t354, .int .i64 t355, .bool t356] 98 (0, 0)) (by (with_reducible repeat (first | refine blk_drewN ?_ _ | refine blk_drew ?_ | refine blk_alloc ?_ _)); exact BK358.out)) : gb369 ≠ gb358)); clear HO_7; clear BK343; clear BK353; clear BK358; clear HB; have HO_7 := n0_; have BK343 := n1_; have BK353 := n2_; have BK358 := n3_; have HB := n4_; have BK369 := n5_; have GW369 := n6_; have GE369 := n7_; have NB343_369 := n8_; have NB369_343 := n9_; have NB353_369 := n10_; have NB369_353 := n11_; have NB358_369 := n12_; have NB369_358 := n13_; clear n0_ n1_ n2_ n3_ n4_ n5_ n6_ n7_ n8_ n9_ n10_ n11_ n12_ n13_; clear hb hbox hg; have hnb115 := NB369_343.out; have hnc115 := NB343_369.out; have hnb116 := NB369_353.out; have hnc116 := NB353_369.out; have hnb117 := NB369_358.out; have hnc117 := NB358_369.out; have hcz118_0 : w114.cell? ⟨gb369, 0, none⟩ = some (.int .i64 0) := (blk_cell BK369.out 0).trans rfl; have hcz118_1 : w114.cell? ⟨gb369, 1, none⟩ = some (.int .i64 0) := (blk_cell BK369.out 1).trans rfl; have hcz118_2 : w114.cell? ⟨gb369, 2, none⟩ = some (.bool false) := (blk_cell BK369.out 2).trans rfl; have hfz118_0 := blk_frozen BK369.out 0; have hfz118_1 := blk_frozen BK369.out 1; have hfz118_2 := blk_frozen BK369.out 2; have hcz119_0 : w114.cell? ⟨gb343, 0, none⟩ = some (.int .i64 a0_0) := (blk_cell BK343.out 0).trans rfl; have hcz119_1 : w114.cell? ⟨gb343, 1, none⟩ = some (.int .i64 a0_1) := (blk_cell BK343.out 1).trans rfl; have hcz119_2 : w114.cell? ⟨gb343, 2, none⟩ = some (.bool a0_2) := (blk_cell BK343.out 2).trans rfl; have hfz119_0 := blk_frozen BK343.out 0; have hfz119_1 := blk_frozen BK343.out 1; have hfz119_2 := blk_frozen BK343.out 2) | (go_at_call 70; (with_reducible refine (spenceref17_Drop.calls kj13 a0_0 a0_1 a0_2 t370 _ A88.out).mono ?_); rintro e w120 ⟨v371, rfl, ho0, hb⟩; have n0_ := Aside0.mk (Kd.R_elder' (by (with_reducible repeat (first | apply Kd.R_alloc | apply Kd.R_drewN | apply Kd.R_drew)); exact (Kd.R_mono (Kd.R_far (p := ⟨gb369, 2, none⟩) (Kd.R_far (p := ⟨gb369, 1, none⟩) (Kd.R_far (p := ⟨gb369, 0, none⟩) (Kd.R_types HO_7.out BK369.out (by decide)) (fun _ hk => hk.2) (.int .i64 t365)) (fun _ hk => hk.2) (.int .i64 t366)) (fun _ hk => hk.2) (.bool t367)) (fun _ h_ => h_.1))) (Kd.R_base ho0) hb); have n1_ := Aside0.mk (Kd.R_lower (Kd.R_new' ho0 (Kd.R_lt (by (with_reducible repeat (first | apply Kd.R_alloc | apply Kd.R_drewN | apply Kd.R_drew)); exact (Kd.R_mono (Kd.R_far (p := ⟨gb369, 2, none⟩) (Kd.R_far (p := ⟨gb369, 1, none⟩) (Kd.R_far (p := ⟨gb369, 0, none⟩) (Kd.R_types HO_7.out BK369.out (by decide)) (fun _ hk => hk.2) (.int .i64 t365)) (fun _ hk => hk.2) (.int .i64 t366)) (fun _ hk => hk.2) (.bool t367)) (fun _ h_ => h_.1))))) (below_size (by repeat (first | (with_reducible first | exact HB.out | apply below_alloc | apply pw_below_drewN | apply below_drew1 | refine below_set ?_ GE343.out | refine below_set ?_ GE353.out | refine below_set ?_ GE358.out | refine below_set ?_ GE369.out) | exact HB.out)))); have n2_ := Aside0.mk (blk_below (g := gb343) (o := .cells #[.int .i64 a0_0, .int .i64 a0_1, .bool a0_2] 98 (0, 0)) (by (with_reducible repeat (first | refine blk_drewN ?_ _ | refine blk_drew ?_ | refine blk_alloc ?_ _)); refine blk_far ?_ NB343_369.out _; (with_reducible repeat (first | refine blk_drewN ?_ _ | refine blk_drew ?_ | refine blk_alloc ?_ _)); refine blk_far ?_ NB343_369.out _; (with_reducible repeat (first | refine blk_drewN ?_ _ | refine blk_drew ?_ | refine blk_alloc ?_ _)); refine blk_far ?_ NB343_369.out _; (with_reducible repeat (first | refine blk_drewN ?_ _ | refine blk_drew ?_ | refine blk_alloc ?_ _)); exact BK343.out) hb); have n3_ := Aside0.mk (blk_below (g := gb353) (o := .cells #[.int .i64 t349, .int .i64 t350, .bool t351] 98 (0, 0)) (by (with_reducible repeat (first | refine blk_drewN ?_ _ | refine blk_drew ?_ | refine blk_alloc ?_ _)); refine blk_far ?_ NB353_369.out _; (with_reducible repeat (first | refine blk_drewN ?_ _ | refine blk_drew ?_ | refine blk_alloc ?_ _)); refine blk_far ?_ NB353_369.out _; (with_reducible repeat (first | refine blk_drewN ?_ _ | refine blk_drew ?_ | refine blk_alloc ?_ _)); refine blk_far ?_ NB353_369.out _; (with_reducible repeat (first | refine blk_drewN ?_ _ | refine blk_drew ?_ | refine blk_alloc ?_ _)); exact BK353.out) hb); have n4_ := Aside0.mk (blk_below (g := gb358) (o := .cells #[.int .i64 t354, .int .i64 t355, .bool t356] 98 (0, 0)) (by (with_reducible repeat (first | refine blk_drewN ?_ _ | refine blk_drew ?_ | refine blk_alloc ?_ _)); refine blk_far ?_ NB358_369.out _; (with_reducible repeat (first | refine blk_drewN ?_ _ | refine blk_drew ?_ | refine blk_alloc ?_ _)); refine blk_far ?_ NB358_369.out _; (with_reducible repeat (first | refine blk_drewN ?_ _ | refine blk_drew ?_ | refine blk_alloc ?_ _)); refine blk_far ?_ NB358_369.out _; (with_reducible repeat (first | refine blk_drewN ?_ _ | refine blk_drew ?_ | refine blk_alloc ?_ _)); exact BK358.out) hb); have n5_ := Aside0.mk (blk_below (g := gb369) (o := .cells #[.int .i64 t365, .int .i64 t366, .bool t367] 98 (0, 0)) (by (with_reducible repeat (first | refine blk_drewN ?_ _ | refine blk_drew ?_ | refine blk_alloc ?_ _)); refine blk_put (cs := #[.int .i64 t365, .int .i64 t366, .bool false]) ?_ 2 _ rfl; (with_reducible repeat (first | refine blk_drewN ?_ _ | refine blk_drew ?_ | refine blk_alloc ?_ _)); refine blk_put (cs := #[.int .i64 t365, .int .i64 0, .bool false]) ?_ 1 _ rfl; (with_reducible repeat (first | refine blk_drewN ?_ _ | refine blk_drew ?_ | refine blk_alloc ?_ _)); refine blk_put (cs := #[.int .i64 0, .int .i64 0, .bool false]) ?_ 0 _ rfl; (with_reducible repeat (first | refine blk_drewN ?_ _ | refine blk_drew ?_ | refine blk_alloc ?_ _)); exact BK369.out) hb); have n6_ := Aside0.mk (below_step (by repeat (first | (with_reducible first | exact HB.out | apply below_alloc | apply pw_below_drewN | apply below_drew1 | refine below_set ?_ GE343.out | refine below_set ?_ GE353.out | refine below_set ?_ GE358.out | refine below_set ?_ GE369.out) | exact HB.out)) hb); clear HO_7; clear BK343; clear BK353; clear BK358; clear BK369; clear HB; have HO_7 := n0_; have HO372 := n1_; have BK343 := n2_; have BK353 := n3_; have BK358 := n4_; have BK369 := n5_; have HB := n6_; clear n0_ n1_ n2_ n3_ n4_ n5_ n6_; (try clear hb); (try clear hb2); (try clear hk); (try clear hi); (try clear ho0); obtain ⟨Ao121, co121, eo121⟩ := Kd.R_slice HO372.out; subst eo121) | (go_at_call 46; (with_reducible refine (spenceref01_Bytes.calls kj13 _ _ t345 _ _ t370 true _ ?side1 ?side2 ?side3 ?side4 A89.out).mono ?_); (case side1 => repeat (first | exact (Kd.R_reads' HO_7.out).2.2 | (with_reducible refine Kd.C_alloc ?_ _) | (with_reducible refine Kd.C_drewN ?_ _) | (with_reducible refine Kd.C_drew ?_))); (case side2 => exact (Kd.R_reads' HO_7.out).2.1); (case side3 => repeat (first | exact (Kd.R_reads' HO372.out).2.2 | (with_reducible refine Kd.C_alloc ?_ _) | (with_reducible refine Kd.C_drewN ?_ _) | (with_reducible refine Kd.C_drew ?_))); (case side4 => exact (Kd.R_reads' HO372.out).2.1); rintro e w' ⟨rfl, ⟨nd, rfl⟩⟩))
                    all_goals
                      go_ret
                      exact ⟨by first | rfl | (simp [errW_none, errW_some] <;> rfl) | (simp [*, errW_none, errW_some] <;> rfl), by repeat (first | (with_reducible first | exact HB.out | apply below_alloc | apply pw_below_drewN | apply below_drew1 | refine below_set ?_ GE343.out | refine below_set ?_ GE353.out | refine below_set ?_ GE358.out | refine below_set ?_ GE369.out) | exact HB.out)⟩
                · replace c90 := Bool.eq_false_iff.mpr c90
                  subst c90
                  have H1 : (some false) = some r := by rw [if_neg (show ¬ (false = true) by decide)] at H; exact H
                  clear H
                  have H := H1
                  clear H1
                  obtain rfl := Option.some.inj H
                  have hnb122 := NB343_353.out
                  have hnc122 := NB353_343.out
                  have hnb123 := NB343_358.out
                  have hnc123 := NB358_343.out
                  have hcz124_0 : wc.cell? ⟨gb343, 0, none⟩ = some (.int .i64 a0_0) := (blk_cell BK343.out 0).trans rfl
                  have hcz124_1 : wc.cell? ⟨gb343, 1, none⟩ = some (.int .i64 a0_1) := (blk_cell BK343.out 1).trans rfl
                  have hcz124_2 : wc.cell? ⟨gb343, 2, none⟩ = some (.bool a0_2) := (blk_cell BK343.out 2).trans rfl
                  have hfz124_0 := blk_frozen BK343.out 0
                  have hfz124_1 := blk_frozen BK343.out 1
                  have hfz124_2 := blk_frozen BK343.out 2
                  go_wp2_with (first | ((with_reducible refine gate_callee (f := 69) rfl ?_); refine goesL_ (some 87) rfl rfl Try.func69 (by kernel_rfl) rfl #[.agg #[.int .i64 a0_0, .int .i64 a0_1, .bool a0_2]] rfl (by (try simp only [List.map_toArray, List.map_cons, List.map_nil]); first | done | rfl | (simp only [List.length_drop, List.length_take]; rfl)) ?_; (with_reducible refine (spenceref17_RightDrop.calls a0_0 a0_1 a0_2 true _ A84.out).mono ?_); rintro e w125 ⟨rfl, hb⟩; refine ⟨_, rfl, ?_⟩; have n0_ := Aside0.mk (Kd.R_below (by (with_reducible repeat (first | apply Kd.R_alloc | apply Kd.R_drewN | apply Kd.R_drew)); exact HO_7.out) hb); have n1_ := Aside0.mk (blk_below (g := gb343) (o := .cells #[.int .i64 a0_0, .int .i64 a0_1, .bool a0_2] 98 (0, 0)) (by (with_reducible repeat (first | refine blk_drewN ?_ _ | refine blk_drew ?_ | refine blk_alloc ?_ _)); exact BK343.out) hb); have n2_ := Aside0.mk (blk_below (g := gb353) (o := .cells #[.int .i64 t349, .int .i64 t350, .bool t351] 98 (0, 0)) (by (with_reducible repeat (first | refine blk_drewN ?_ _ | refine blk_drew ?_ | refine blk_alloc ?_ _)); exact BK353.out) hb); have n3_ := Aside0.mk (blk_below (g := gb358) (o := .cells #[.int .i64 t354, .int .i64 t355, .bool t356] 98 (0, 0)) (by (with_reducible repeat (first | refine blk_drewN ?_ _ | refine blk_drew ?_ | refine blk_alloc ?_ _)); exact BK358.out) hb); have n4_ := Aside0.mk (below_step (by repeat (first | (with_reducible first | exact HB.out | apply below_alloc | apply pw_below_drewN | apply below_drew1 | refine below_set ?_ GE343.out | refine below_set ?_ GE353.out | refine below_set ?_ GE358.out) | exact HB.out)) hb); clear HO_7; clear BK343; clear BK353; clear BK358; clear HB; have HO_7 := n0_; have BK343 := n1_; have BK353 := n2_; have BK358 := n3_; have HB := n4_; clear n0_ n1_ n2_ n3_ n4_; (try clear hb); (try clear hb2); (try clear hk); (try clear hi); obtain ⟨Ao126, co126, eo126⟩ := Kd.R_slice HO_7.out; subst eo126) | ((with_reducible refine gate_callee (f := 65) rfl ?_); refine goesL_ (some 98) rfl rfl Try.func65 (by kernel_rfl) rfl #[.int .u8 5, .slice Ao126 t345.length co126] rfl (by (try simp only [List.map_toArray, List.map_cons, List.map_nil]); first | done | rfl | (simp only [List.length_drop, List.length_take]; rfl)) ?_; (with_reducible refine (codec_GetDrop.calls 5 _ _ t345 t365 t366 t367 t368 _ ?side1 ?side2 A86.out).mono ?_); (case side1 => repeat (first | exact (Kd.R_reads' HO_7.out).2.2 | (with_reducible refine Kd.C_alloc ?_ _) | (with_reducible refine Kd.C_drewN ?_ _) | (with_reducible refine Kd.C_drew ?_))); (case side2 => exact (Kd.R_reads' HO_7.out).2.1); rintro e w127 ⟨rfl, hb⟩; refine ⟨_, rfl, ?_⟩; have n0_ := Aside0.mk (Kd.R_below (by (with_reducible repeat (first | apply Kd.R_alloc | apply Kd.R_drewN | apply Kd.R_drew)); exact HO_7.out) hb); have n1_ := Aside0.mk (blk_below (g := gb343) (o := .cells #[.int .i64 a0_0, .int .i64 a0_1, .bool a0_2] 98 (0, 0)) (by (with_reducible repeat (first | refine blk_drewN ?_ _ | refine blk_drew ?_ | refine blk_alloc ?_ _)); exact BK343.out) hb); have n2_ := Aside0.mk (blk_below (g := gb353) (o := .cells #[.int .i64 t349, .int .i64 t350, .bool t351] 98 (0, 0)) (by (with_reducible repeat (first | refine blk_drewN ?_ _ | refine blk_drew ?_ | refine blk_alloc ?_ _)); exact BK353.out) hb); have n3_ := Aside0.mk (blk_below (g := gb358) (o := .cells #[.int .i64 t354, .int .i64 t355, .bool t356] 98 (0, 0)) (by (with_reducible repeat (first | refine blk_drewN ?_ _ | refine blk_drew ?_ | refine blk_alloc ?_ _)); exact BK358.out) hb); have n4_ := Aside0.mk (below_step (by repeat (first | (with_reducible first | exact HB.out | apply below_alloc | apply pw_below_drewN | apply below_drew1 | refine below_set ?_ GE343.out | refine below_set ?_ GE353.out | refine below_set ?_ GE358.out) | exact HB.out)) hb); clear HO_7; clear BK343; clear BK353; clear BK358; clear HB; have HO_7 := n0_; have BK343 := n1_; have BK353 := n2_; have BK358 := n3_; have HB := n4_; clear n0_ n1_ n2_ n3_ n4_; (try clear hb); (try clear hb2); (try clear hk); (try clear hi)) | ((with_reducible refine gate_dst (N := 18) rfl ?_); (try (refine gate_guard (by rfl) ?_; dsimp only)); refine box_event ?hg (N := 18) ?hd (cs := #[.int .i64 0, .int .i64 0, .bool false]) (t := 98) ?hr ?_; (case hd => rfl); (case hg => rfl); (case hr => first | (go_simp; done) | (go_simp; rfl)); intro gb369 hg w128 hbox hb; have n0_ := Aside0.mk (Kd.R_below (by (with_reducible repeat (first | apply Kd.R_alloc | apply Kd.R_drewN | apply Kd.R_drew)); exact HO_7.out) hb); have n1_ := Aside0.mk (blk_below (g := gb343) (o := .cells #[.int .i64 a0_0, .int .i64 a0_1, .bool a0_2] 98 (0, 0)) (by (with_reducible repeat (first | refine blk_drewN ?_ _ | refine blk_drew ?_ | refine blk_alloc ?_ _)); exact BK343.out) hb); have n2_ := Aside0.mk (blk_below (g := gb353) (o := .cells #[.int .i64 t349, .int .i64 t350, .bool t351] 98 (0, 0)) (by (with_reducible repeat (first | refine blk_drewN ?_ _ | refine blk_drew ?_ | refine blk_alloc ?_ _)); exact BK353.out) hb); have n3_ := Aside0.mk (blk_below (g := gb358) (o := .cells #[.int .i64 t354, .int .i64 t355, .bool t356] 98 (0, 0)) (by (with_reducible repeat (first | refine blk_drewN ?_ _ | refine blk_drew ?_ | refine blk_alloc ?_ _)); exact BK358.out) hb); have n4_ := Aside0.mk (below_step (by repeat (first | (with_reducible first | exact HB.out | apply below_alloc | apply pw_below_drewN | apply below_drew1 | refine below_set ?_ GE343.out | refine below_set ?_ GE353.out | refine below_set ?_ GE358.out) | exact HB.out)) hb); have n5_ := Aside0.mk (hbox); have n6_ := Aside0.mk ((by rw [hg]; exact (below_size (by repeat (first | (with_reducible first | exact HB.out | apply below_alloc | apply pw_below_drewN | apply below_drew1 | refine below_set ?_ GE343.out | refine below_set ?_ GE353.out | refine below_set ?_ GE358.out) | exact HB.out))) : w.heap.size ≤ gb369)); have n7_ := Aside0.mk ((by rw [hg]; exact (below_size (by repeat (first | (with_reducible first | exact HB.out | apply below_alloc | apply pw_below_drewN | apply below_drew1 | refine below_set ?_ GE343.out | refine below_set ?_ GE353.out | refine below_set ?_ GE358.out) | exact HB.out))) : w.heap.size ≤ gb369)); have n8_ := Aside0.mk ((by rw [hg]; exact Nat.ne_of_lt (blk_lt (g := gb343) (o := .cells #[.int .i64 a0_0, .int .i64 a0_1, .bool a0_2] 98 (0, 0)) (by (with_reducible repeat (first | refine blk_drewN ?_ _ | refine blk_drew ?_ | refine blk_alloc ?_ _)); exact BK343.out)) : gb343 ≠ gb369)); have n9_ := Aside0.mk ((by rw [hg]; exact Nat.ne_of_gt (blk_lt (g := gb343) (o := .cells #[.int .i64 a0_0, .int .i64 a0_1, .bool a0_2] 98 (0, 0)) (by (with_reducible repeat (first | refine blk_drewN ?_ _ | refine blk_drew ?_ | refine blk_alloc ?_ _)); exact BK343.out)) : gb369 ≠ gb343)); have n10_ := Aside0.mk ((by rw [hg]; exact Nat.ne_of_lt (blk_lt (g := gb353) (o := .cells #[.int .i64 t349, .int .i64 t350, .bool t351] 98 (0, 0)) (by (with_reducible repeat (first | refine blk_drewN ?_ _ | refine blk_drew ?_ | refine blk_alloc ?_ _)); exact BK353.out)) : gb353 ≠ gb369)); have n11_ := Aside0.mk ((by rw [hg]; exact Nat.ne_of_gt (blk_lt (g := gb353) (o := .cells #[.int .i64 t349, .int .i64 t350, .bool t351] 98 (0, 0)) (by (with_reducible repeat (first | refine blk_drewN ?_ _ | refine blk_drew ?_ | refine blk_alloc ?_ _)); exact BK353.out)) : gb369 ≠ gb353)); have n12_ := Aside0.mk ((by rw [hg]; exact Nat.ne_of_lt (blk_lt (g := gb358) (o := .cells #[.int .i64 t354, .int .i64 t355, .bool t356] 98 (0, 0)) (by (with_reducible repeat (first | refine blk_drewN ?_ _ | refine blk_drew ?_ | refine blk_alloc ?_ _)); exact BK358.out)) : gb358 ≠ gb369)); have n13_ := Aside0.mk ((by rw [hg]; exact Nat.ne_of_gt (blk_lt (g := gb358) (o := .cells #[.int .i64 t354, .int .i64 t355, .bool t356] 98 (0, 0)) (by (with_reducible repeat (first | refine blk_drewN ?_ _ | refine blk_drew ?_ | refine blk_alloc ?_ _)); exact BK358.out)) : gb369 ≠ gb358)); clear HO_7; clear BK343; clear BK353; clear BK358; clear HB; have HO_7 := n0_; have BK343 := n1_; have BK353 := n2_; have BK358 := n3_; have HB := n4_; have BK369 := n5_; have GW369 := n6_; have GE369 := n7_; have NB343_369 := n8_; have NB369_343 := n9_; have NB353_369 := n10_; have NB369_353 := n11_; have NB358_369 := n12_; have NB369_358 := n13_; clear n0_ n1_ n2_ n3_ n4_ n5_ n6_ n7_ n8_ n9_ n10_ n11_ n12_ n13_; clear hb hbox hg; have hnb129 := NB369_343.out; have hnc129 := NB343_369.out; have hnb130 := NB369_353.out; have hnc130 := NB353_369.out; have hnb131 := NB369_358.out; have hnc131 := NB358_369.out; have hcz132_0 : w128.cell? ⟨gb369, 0, none⟩ = some (.int .i64 0) := (blk_cell BK369.out 0).trans rfl; have hcz132_1 : w128.cell? ⟨gb369, 1, none⟩ = some (.int .i64 0) := (blk_cell BK369.out 1).trans rfl; have hcz132_2 : w128.cell? ⟨gb369, 2, none⟩ = some (.bool false) := (blk_cell BK369.out 2).trans rfl; have hfz132_0 := blk_frozen BK369.out 0; have hfz132_1 := blk_frozen BK369.out 1; have hfz132_2 := blk_frozen BK369.out 2; have hcz133_0 : w128.cell? ⟨gb343, 0, none⟩ = some (.int .i64 a0_0) := (blk_cell BK343.out 0).trans rfl; have hcz133_1 : w128.cell? ⟨gb343, 1, none⟩ = some (.int .i64 a0_1) := (blk_cell BK343.out 1).trans rfl; have hcz133_2 : w128.cell? ⟨gb343, 2, none⟩ = some (.bool a0_2) := (blk_cell BK343.out 2).trans rfl; have hfz133_0 := blk_frozen BK343.out 0; have hfz133_1 := blk_frozen BK343.out 1; have hfz133_2 := blk_frozen BK343.out 2) | (go_at_call 70; (with_reducible refine (spenceref17_Drop.calls kj13 a0_0 a0_1 a0_2 t370 _ A88.out).mono ?_); rintro e w134 ⟨v371, rfl, ho0, hb⟩; have n0_ := Aside0.mk (Kd.R_elder' (by (with_reducible repeat (first | apply Kd.R_alloc | apply Kd.R_drewN | apply Kd.R_drew)); exact (Kd.R_mono (Kd.R_far (p := ⟨gb369, 2, none⟩) (Kd.R_far (p := ⟨gb369, 1, none⟩) (Kd.R_far (p := ⟨gb369, 0, none⟩) (Kd.R_types HO_7.out BK369.out (by decide)) (fun _ hk => hk.2) (.int .i64 t365)) (fun _ hk => hk.2) (.int .i64 t366)) (fun _ hk => hk.2) (.bool t367)) (fun _ h_ => h_.1))) (Kd.R_base ho0) hb); have n1_ := Aside0.mk (Kd.R_lower (Kd.R_new' ho0 (Kd.R_lt (by (with_reducible repeat (first | apply Kd.R_alloc | apply Kd.R_drewN | apply Kd.R_drew)); exact (Kd.R_mono (Kd.R_far (p := ⟨gb369, 2, none⟩) (Kd.R_far (p := ⟨gb369, 1, none⟩) (Kd.R_far (p := ⟨gb369, 0, none⟩) (Kd.R_types HO_7.out BK369.out (by decide)) (fun _ hk => hk.2) (.int .i64 t365)) (fun _ hk => hk.2) (.int .i64 t366)) (fun _ hk => hk.2) (.bool t367)) (fun _ h_ => h_.1))))) (below_size (by repeat (first | (with_reducible first | exact HB.out | apply below_alloc | apply pw_below_drewN | apply below_drew1 | refine below_set ?_ GE343.out | refine below_set ?_ GE353.out | refine below_set ?_ GE358.out | refine below_set ?_ GE369.out) | exact HB.out)))); have n2_ := Aside0.mk (blk_below (g := gb343) (o := .cells #[.int .i64 a0_0, .int .i64 a0_1, .bool a0_2] 98 (0, 0)) (by (with_reducible repeat (first | refine blk_drewN ?_ _ | refine blk_drew ?_ | refine blk_alloc ?_ _)); refine blk_far ?_ NB343_369.out _; (with_reducible repeat (first | refine blk_drewN ?_ _ | refine blk_drew ?_ | refine blk_alloc ?_ _)); refine blk_far ?_ NB343_369.out _; (with_reducible repeat (first | refine blk_drewN ?_ _ | refine blk_drew ?_ | refine blk_alloc ?_ _)); refine blk_far ?_ NB343_369.out _; (with_reducible repeat (first | refine blk_drewN ?_ _ | refine blk_drew ?_ | refine blk_alloc ?_ _)); exact BK343.out) hb); have n3_ := Aside0.mk (blk_below (g := gb353) (o := .cells #[.int .i64 t349, .int .i64 t350, .bool t351] 98 (0, 0)) (by (with_reducible repeat (first | refine blk_drewN ?_ _ | refine blk_drew ?_ | refine blk_alloc ?_ _)); refine blk_far ?_ NB353_369.out _; (with_reducible repeat (first | refine blk_drewN ?_ _ | refine blk_drew ?_ | refine blk_alloc ?_ _)); refine blk_far ?_ NB353_369.out _; (with_reducible repeat (first | refine blk_drewN ?_ _ | refine blk_drew ?_ | refine blk_alloc ?_ _)); refine blk_far ?_ NB353_369.out _; (with_reducible repeat (first | refine blk_drewN ?_ _ | refine blk_drew ?_ | refine blk_alloc ?_ _)); exact BK353.out) hb); have n4_ := Aside0.mk (blk_below (g := gb358) (o := .cells #[.int .i64 t354, .int .i64 t355, .bool t356] 98 (0, 0)) (by (with_reducible repeat (first | refine blk_drewN ?_ _ | refine blk_drew ?_ | refine blk_alloc ?_ _)); refine blk_far ?_ NB358_369.out _; (with_reducible repeat (first | refine blk_drewN ?_ _ | refine blk_drew ?_ | refine blk_alloc ?_ _)); refine blk_far ?_ NB358_369.out _; (with_reducible repeat (first | refine blk_drewN ?_ _ | refine blk_drew ?_ | refine blk_alloc ?_ _)); refine blk_far ?_ NB358_369.out _; (with_reducible repeat (first | refine blk_drewN ?_ _ | refine blk_drew ?_ | refine blk_alloc ?_ _)); exact BK358.out) hb); have n5_ := Aside0.mk (blk_below (g := gb369) (o := .cells #[.int .i64 t365, .int .i64 t366, .bool t367] 98 (0, 0)) (by (with_reducible repeat (first | refine blk_drewN ?_ _ | refine blk_drew ?_ | refine blk_alloc ?_ _)); refine blk_put (cs := #[.int .i64 t365, .int .i64 t366, .bool false]) ?_ 2 _ rfl; (with_reducible repeat (first | refine blk_drewN ?_ _ | refine blk_drew ?_ | refine blk_alloc ?_ _)); refine blk_put (cs := #[.int .i64 t365, .int .i64 0, .bool false]) ?_ 1 _ rfl; (with_reducible repeat (first | refine blk_drewN ?_ _ | refine blk_drew ?_ | refine blk_alloc ?_ _)); refine blk_put (cs := #[.int .i64 0, .int .i64 0, .bool false]) ?_ 0 _ rfl; (with_reducible repeat (first | refine blk_drewN ?_ _ | refine blk_drew ?_ | refine blk_alloc ?_ _)); exact BK369.out) hb); have n6_ := Aside0.mk (below_step (by repeat (first | (with_reducible first | exact HB.out | apply below_alloc | apply pw_below_drewN | apply below_drew1 | refine below_set ?_ GE343.out | refine below_set ?_ GE353.out | refine below_set ?_ GE358.out | refine below_set ?_ GE369.out) | exact HB.out)) hb); clear HO_7; clear BK343; clear BK353; clear BK358; clear BK369; clear HB; have HO_7 := n0_; have HO372 := n1_; have BK343 := n2_; have BK353 := n3_; have BK358 := n4_; have BK369 := n5_; have HB := n6_; clear n0_ n1_ n2_ n3_ n4_ n5_ n6_; (try clear hb); (try clear hb2); (try clear hk); (try clear hi); (try clear ho0); obtain ⟨Ao135, co135, eo135⟩ := Kd.R_slice HO372.out; subst eo135) | (go_at_call 46; (with_reducible refine (spenceref01_Bytes.calls kj13 _ _ t345 _ _ t370 false _ ?side1 ?side2 ?side3 ?side4 A89.out).mono ?_); (case side1 => repeat (first | exact (Kd.R_reads' HO_7.out).2.2 | (with_reducible refine Kd.C_alloc ?_ _) | (with_reducible refine Kd.C_drewN ?_ _) | (with_reducible refine Kd.C_drew ?_))); (case side2 => exact (Kd.R_reads' HO_7.out).2.1); (case side3 => repeat (first | exact (Kd.R_reads' HO372.out).2.2 | (with_reducible refine Kd.C_alloc ?_ _) | (with_reducible refine Kd.C_drewN ?_ _) | (with_reducible refine Kd.C_drew ?_))); (case side4 => exact (Kd.R_reads' HO372.out).2.1); rintro e w' ⟨rfl, ⟨nd, rfl⟩⟩))
                  all_goals
                    go_ret
                    exact ⟨by first | rfl | (simp [errW_none, errW_some] <;> rfl) | (simp [*, errW_none, errW_some] <;> rfl), by repeat (first | (with_reducible first | exact HB.out | apply below_alloc | apply pw_below_drewN | apply below_drew1 | refine below_set ?_ GE343.out | refine below_set ?_ GE353.out | refine below_set ?_ GE358.out | refine below_set ?_ GE369.out) | exact HB.out)⟩
              · rw [if_neg c87] at H
                have c87b0 : (t348 == 0) = false := beq_eq_false_iff_ne.mpr c87
                have c87b1 : (t348 != 0) = true := bne_iff_ne.mpr c87
                obtain rfl := Option.some.inj H
                have hnb136 := NB343_353.out
                have hnc136 := NB353_343.out
                have hnb137 := NB343_358.out
                have hnc137 := NB358_343.out
                have hcz138_0 : wc.cell? ⟨gb343, 0, none⟩ = some (.int .i64 a0_0) := (blk_cell BK343.out 0).trans rfl
                have hcz138_1 : wc.cell? ⟨gb343, 1, none⟩ = some (.int .i64 a0_1) := (blk_cell BK343.out 1).trans rfl
                have hcz138_2 : wc.cell? ⟨gb343, 2, none⟩ = some (.bool a0_2) := (blk_cell BK343.out 2).trans rfl
                have hfz138_0 := blk_frozen BK343.out 0
                have hfz138_1 := blk_frozen BK343.out 1
                have hfz138_2 := blk_frozen BK343.out 2
                go_wp2_with (first | ((with_reducible refine gate_callee (f := 69) rfl ?_); refine goesL_ (some 87) rfl rfl Try.func69 (by kernel_rfl) rfl #[.agg #[.int .i64 a0_0, .int .i64 a0_1, .bool a0_2]] rfl (by (try simp only [List.map_toArray, List.map_cons, List.map_nil]); first | done | rfl | (simp only [List.length_drop, List.length_take]; rfl)) ?_; (with_reducible refine (spenceref17_RightDrop.calls a0_0 a0_1 a0_2 true _ A84.out).mono ?_); rintro e w139 ⟨rfl, hb⟩; refine ⟨_, rfl, ?_⟩; have n0_ := Aside0.mk (Kd.R_below (by (with_reducible repeat (first | apply Kd.R_alloc | apply Kd.R_drewN | apply Kd.R_drew)); exact HO_7.out) hb); have n1_ := Aside0.mk (blk_below (g := gb343) (o := .cells #[.int .i64 a0_0, .int .i64 a0_1, .bool a0_2] 98 (0, 0)) (by (with_reducible repeat (first | refine blk_drewN ?_ _ | refine blk_drew ?_ | refine blk_alloc ?_ _)); exact BK343.out) hb); have n2_ := Aside0.mk (blk_below (g := gb353) (o := .cells #[.int .i64 t349, .int .i64 t350, .bool t351] 98 (0, 0)) (by (with_reducible repeat (first | refine blk_drewN ?_ _ | refine blk_drew ?_ | refine blk_alloc ?_ _)); exact BK353.out) hb); have n3_ := Aside0.mk (blk_below (g := gb358) (o := .cells #[.int .i64 t354, .int .i64 t355, .bool t356] 98 (0, 0)) (by (with_reducible repeat (first | refine blk_drewN ?_ _ | refine blk_drew ?_ | refine blk_alloc ?_ _)); exact BK358.out) hb); have n4_ := Aside0.mk (below_step (by repeat (first | (with_reducible first | exact HB.out | apply below_alloc | apply pw_below_drewN | apply below_drew1 | refine below_set ?_ GE343.out | refine below_set ?_ GE353.out | refine below_set ?_ GE358.out) | exact HB.out)) hb); clear HO_7; clear BK343; clear BK353; clear BK358; clear HB; have HO_7 := n0_; have BK343 := n1_; have BK353 := n2_; have BK358 := n3_; have HB := n4_; clear n0_ n1_ n2_ n3_ n4_; (try clear hb); (try clear hb2); (try clear hk); (try clear hi); obtain ⟨Ao140, co140, eo140⟩ := Kd.R_slice HO_7.out; subst eo140) | ((with_reducible refine gate_callee (f := 65) rfl ?_); refine goesL_ (some 98) rfl rfl Try.func65 (by kernel_rfl) rfl #[.int .u8 5, .slice Ao140 t345.length co140] rfl (by (try simp only [List.map_toArray, List.map_cons, List.map_nil]); first | done | rfl | (simp only [List.length_drop, List.length_take]; rfl)) ?_; (with_reducible refine (codec_GetDrop.calls 5 _ _ t345 t365 t366 t367 t368 _ ?side1 ?side2 A86.out).mono ?_); (case side1 => repeat (first | exact (Kd.R_reads' HO_7.out).2.2 | (with_reducible refine Kd.C_alloc ?_ _) | (with_reducible refine Kd.C_drewN ?_ _) | (with_reducible refine Kd.C_drew ?_))); (case side2 => exact (Kd.R_reads' HO_7.out).2.1); rintro e w141 ⟨rfl, hb⟩; refine ⟨_, rfl, ?_⟩; have n0_ := Aside0.mk (Kd.R_below (by (with_reducible repeat (first | apply Kd.R_alloc | apply Kd.R_drewN | apply Kd.R_drew)); exact HO_7.out) hb); have n1_ := Aside0.mk (blk_below (g := gb343) (o := .cells #[.int .i64 a0_0, .int .i64 a0_1, .bool a0_2] 98 (0, 0)) (by (with_reducible repeat (first | refine blk_drewN ?_ _ | refine blk_drew ?_ | refine blk_alloc ?_ _)); exact BK343.out) hb); have n2_ := Aside0.mk (blk_below (g := gb353) (o := .cells #[.int .i64 t349, .int .i64 t350, .bool t351] 98 (0, 0)) (by (with_reducible repeat (first | refine blk_drewN ?_ _ | refine blk_drew ?_ | refine blk_alloc ?_ _)); exact BK353.out) hb); have n3_ := Aside0.mk (blk_below (g := gb358) (o := .cells #[.int .i64 t354, .int .i64 t355, .bool t356] 98 (0, 0)) (by (with_reducible repeat (first | refine blk_drewN ?_ _ | refine blk_drew ?_ | refine blk_alloc ?_ _)); exact BK358.out) hb); have n4_ := Aside0.mk (below_step (by repeat (first | (with_reducible first | exact HB.out | apply below_alloc | apply pw_below_drewN | apply below_drew1 | refine below_set ?_ GE343.out | refine below_set ?_ GE353.out | refine below_set ?_ GE358.out) | exact HB.out)) hb); clear HO_7; clear BK343; clear BK353; clear BK358; clear HB; have HO_7 := n0_; have BK343 := n1_; have BK353 := n2_; have BK358 := n3_; have HB := n4_; clear n0_ n1_ n2_ n3_ n4_; (try clear hb); (try clear hb2); (try clear hk); (try clear hi)) | ((with_reducible refine gate_dst (N := 18) rfl ?_); (try (refine gate_guard (by rfl) ?_; dsimp only)); refine box_event ?hg (N := 18) ?hd (cs := #[.int .i64 0, .int .i64 0, .bool false]) (t := 98) ?hr ?_; (case hd => rfl); (case hg => rfl); (case hr => first | (go_simp; done) | (go_simp; rfl)); intro gb369 hg w142 hbox hb; have n0_ := Aside0.mk (Kd.R_below (by (with_reducible repeat (first | apply Kd.R_alloc | apply Kd.R_drewN | apply Kd.R_drew)); exact HO_7.out) hb); have n1_ := Aside0.mk (blk_below (g := gb343) (o := .cells #[.int .i64 a0_0, .int .i64 a0_1, .bool a0_2] 98 (0, 0)) (by (with_reducible repeat (first | refine blk_drewN ?_ _ | refine blk_drew ?_ | refine blk_alloc ?_ _)); exact BK343.out) hb); have n2_ := Aside0.mk (blk_below (g := gb353) (o := .cells #[.int .i64 t349, .int .i64 t350, .bool t351] 98 (0, 0)) (by (with_reducible repeat (first | refine blk_drewN ?_ _ | refine blk_drew ?_ | refine blk_alloc ?_ _)); exact BK353.out) hb); have n3_ := Aside0.mk (blk_below (g := gb358) (o := .cells #[.int .i64 t354, .int .i64 t355, .bool t356] 98 (0, 0)) (by (with_reducible repeat (first | refine blk_drewN ?_ _ | refine blk_drew ?_ | refine blk_alloc ?_ _)); exact BK358.out) hb); have n4_ := Aside0.mk (below_step (by repeat (first | (with_reducible first | exact HB.out | apply below_alloc | apply pw_below_drewN | apply below_drew1 | refine below_set ?_ GE343.out | refine below_set ?_ GE353.out | refine below_set ?_ GE358.out) | exact HB.out)) hb); have n5_ := Aside0.mk (hbox); have n6_ := Aside0.mk ((by rw [hg]; exact (below_size (by repeat (first | (with_reducible first | exact HB.out | apply below_alloc | apply pw_below_drewN | apply below_drew1 | refine below_set ?_ GE343.out | refine below_set ?_ GE353.out | refine below_set ?_ GE358.out) | exact HB.out))) : w.heap.size ≤ gb369)); have n7_ := Aside0.mk ((by rw [hg]; exact (below_size (by repeat (first | (with_reducible first | exact HB.out | apply below_alloc | apply pw_below_drewN | apply below_drew1 | refine below_set ?_ GE343.out | refine below_set ?_ GE353.out | refine below_set ?_ GE358.out) | exact HB.out))) : w.heap.size ≤ gb369)); have n8_ := Aside0.mk ((by rw [hg]; exact Nat.ne_of_lt (blk_lt (g := gb343) (o := .cells #[.int .i64 a0_0, .int .i64 a0_1, .bool a0_2] 98 (0, 0)) (by (with_reducible repeat (first | refine blk_drewN ?_ _ | refine blk_drew ?_ | refine blk_alloc ?_ _)); exact BK343.out)) : gb343 ≠ gb369)); have n9_ := Aside0.mk ((by rw [hg]; exact Nat.ne_of_gt (blk_lt (g := gb343) (o := .cells #[.int .i64 a0_0, .int .i64 a0_1, .bool a0_2] 98 (0, 0)) (by (with_reducible repeat (first | refine blk_drewN ?_ _ | refine blk_drew ?_ | refine blk_alloc ?_ _)); exact BK343.out)) : gb369 ≠ gb343)); have n10_ := Aside0.mk ((by rw [hg]; exact Nat.ne_of_lt (blk_lt (g := gb353) (o := .cells #[.int .i64 t349, .int .i64 t350, .bool t351] 98 (0, 0)) (by (with_reducible repeat (first | refine blk_drewN ?_ _ | refine blk_drew ?_ | refine blk_alloc ?_ _)); exact BK353.out)) : gb353 ≠ gb369)); have n11_ := Aside0.mk ((by rw [hg]; exact Nat.ne_of_gt (blk_lt (g := gb353) (o := .cells #[.int .i64 t349, .int .i64 t350, .bool t351] 98 (0, 0)) (by (with_reducible repeat (first | refine blk_drewN ?_ _ | refine blk_drew ?_ | refine blk_alloc ?_ _)); exact BK353.out)) : gb369 ≠ gb353)); have n12_ := Aside0.mk ((by rw [hg]; exact Nat.ne_of_lt (blk_lt (g := gb358) (o := .cells #[.int .i64 t354, .int .i64 t355, .bool t356] 98 (0, 0)) (by (with_reducible repeat (first | refine blk_drewN ?_ _ | refine blk_drew ?_ | refine blk_alloc ?_ _)); exact BK358.out)) : gb358 ≠ gb369)); have n13_ := Aside0.mk ((by rw [hg]; exact Nat.ne_of_gt (blk_lt (g := gb358) (o := .cells #[.int .i64 t354, .int .i64 t355, .bool t356] 98 (0, 0)) (by (with_reducible repeat (first | refine blk_drewN ?_ _ | refine blk_drew ?_ | refine blk_alloc ?_ _)); exact BK358.out)) : gb369 ≠ gb358)); clear HO_7; clear BK343; clear BK353; clear BK358; clear HB; have HO_7 := n0_; have BK343 := n1_; have BK353 := n2_; have BK358 := n3_; have HB := n4_; have BK369 := n5_; have GW369 := n6_; have GE369 := n7_; have NB343_369 := n8_; have NB369_343 := n9_; have NB353_369 := n10_; have NB369_353 := n11_; have NB358_369 := n12_; have NB369_358 := n13_; clear n0_ n1_ n2_ n3_ n4_ n5_ n6_ n7_ n8_ n9_ n10_ n11_ n12_ n13_; clear hb hbox hg; have hnb143 := NB369_343.out; have hnc143 := NB343_369.out; have hnb144 := NB369_353.out; have hnc144 := NB353_369.out; have hnb145 := NB369_358.out; have hnc145 := NB358_369.out; have hcz146_0 : w142.cell? ⟨gb369, 0, none⟩ = some (.int .i64 0) := (blk_cell BK369.out 0).trans rfl; have hcz146_1 : w142.cell? ⟨gb369, 1, none⟩ = some (.int .i64 0) := (blk_cell BK369.out 1).trans rfl; have hcz146_2 : w142.cell? ⟨gb369, 2, none⟩ = some (.bool false) := (blk_cell BK369.out 2).trans rfl; have hfz146_0 := blk_frozen BK369.out 0; have hfz146_1 := blk_frozen BK369.out 1; have hfz146_2 := blk_frozen BK369.out 2))
                all_goals
                  go_ret
                  exact ⟨by first | rfl | (simp [errW_none, errW_some] <;> rfl) | (simp [*, errW_none, errW_some] <;> rfl), by repeat (first | (with_reducible first | exact HB.out | apply below_alloc | apply pw_below_drewN | apply below_drew1 | refine below_set ?_ GE343.out | refine below_set ?_ GE353.out | refine below_set ?_ GE358.out | refine below_set ?_ GE369.out) | exact HB.out)⟩
            · replace c85 := Bool.eq_false_iff.mpr c85
              subst c85
              have H1 : (if t348 = 1 then (some ((t345.length : Int) == 0)) else (some false)) = some r := by rw [if_neg (show ¬ (false = true) by decide)] at H; exact H
              clear H
              have H := H1
              clear H1
              by_cases c147 : t348 = 1
              · rw [if_pos c147] at H
                have c147b0 : (t348 == 1) = true := beq_iff_eq.mpr c147
                have c147b1 : (t348 != 1) = false := bne_eq_false_iff_eq.mpr c147
                clear c147
                obtain rfl := Option.some.inj H
                have hnb148 := NB343_353.out
                have hnc148 := NB353_343.out
                have hnb149 := NB343_358.out
                have hnc149 := NB358_343.out
                have hcz150_0 : wc.cell? ⟨gb343, 0, none⟩ = some (.int .i64 a0_0) := (blk_cell BK343.out 0).trans rfl
                have hcz150_1 : wc.cell? ⟨gb343, 1, none⟩ = some (.int .i64 a0_1) := (blk_cell BK343.out 1).trans rfl
                have hcz150_2 : wc.cell? ⟨gb343, 2, none⟩ = some (.bool a0_2) := (blk_cell BK343.out 2).trans rfl
                have hfz150_0 := blk_frozen BK343.out 0
                have hfz150_1 := blk_frozen BK343.out 1
                have hfz150_2 := blk_frozen BK343.out 2
                go_wp2_with (first | ((with_reducible refine gate_callee (f := 69) rfl ?_); refine goesL_ (some 87) rfl rfl Try.func69 (by kernel_rfl) rfl #[.agg #[.int .i64 a0_0, .int .i64 a0_1, .bool a0_2]] rfl (by (try simp only [List.map_toArray, List.map_cons, List.map_nil]); first | done | rfl | (simp only [List.length_drop, List.length_take]; rfl)) ?_; (with_reducible refine (spenceref17_RightDrop.calls a0_0 a0_1 a0_2 false _ A84.out).mono ?_); rintro e w151 ⟨rfl, hb⟩; refine ⟨_, rfl, ?_⟩; have n0_ := Aside0.mk (Kd.R_below (by (with_reducible repeat (first | apply Kd.R_alloc | apply Kd.R_drewN | apply Kd.R_drew)); exact HO_7.out) hb); have n1_ := Aside0.mk (blk_below (g := gb343) (o := .cells #[.int .i64 a0_0, .int .i64 a0_1, .bool a0_2] 98 (0, 0)) (by (with_reducible repeat (first | refine blk_drewN ?_ _ | refine blk_drew ?_ | refine blk_alloc ?_ _)); exact BK343.out) hb); have n2_ := Aside0.mk (blk_below (g := gb353) (o := .cells #[.int .i64 t349, .int .i64 t350, .bool t351] 98 (0, 0)) (by (with_reducible repeat (first | refine blk_drewN ?_ _ | refine blk_drew ?_ | refine blk_alloc ?_ _)); exact BK353.out) hb); have n3_ := Aside0.mk (blk_below (g := gb358) (o := .cells #[.int .i64 t354, .int .i64 t355, .bool t356] 98 (0, 0)) (by (with_reducible repeat (first | refine blk_drewN ?_ _ | refine blk_drew ?_ | refine blk_alloc ?_ _)); exact BK358.out) hb); have n4_ := Aside0.mk (below_step (by repeat (first | (with_reducible first | exact HB.out | apply below_alloc | apply pw_below_drewN | apply below_drew1 | refine below_set ?_ GE343.out | refine below_set ?_ GE353.out | refine below_set ?_ GE358.out) | exact HB.out)) hb); clear HO_7; clear BK343; clear BK353; clear BK358; clear HB; have HO_7 := n0_; have BK343 := n1_; have BK353 := n2_; have BK358 := n3_; have HB := n4_; clear n0_ n1_ n2_ n3_ n4_; (try clear hb); (try clear hb2); (try clear hk); (try clear hi); obtain ⟨Ao152, co152, eo152⟩ := Kd.R_slice HO_7.out; subst eo152))
                all_goals
                  go_ret
                  exact ⟨by first | rfl | (simp [errW_none, errW_some] <;> rfl) | (simp [*, errW_none, errW_some] <;> rfl), by repeat (first | (with_reducible first | exact HB.out | apply below_alloc | apply pw_below_drewN | apply below_drew1 | refine below_set ?_ GE343.out | refine below_set ?_ GE353.out | refine below_set ?_ GE358.out) | exact HB.out)⟩
              · rw [if_neg c147] at H
                have c147b0 : (t348 == 1) = false := beq_eq_false_iff_ne.mpr c147
                have c147b1 : (t348 != 1) = true := bne_iff_ne.mpr c147
                obtain rfl := Option.some.inj H
                have hnb153 := NB343_353.out
                have hnc153 := NB353_343.out
                have hnb154 := NB343_358.out
                have hnc154 := NB358_343.out
                have hcz155_0 : wc.cell? ⟨gb343, 0, none⟩ = some (.int .i64 a0_0) := (blk_cell BK343.out 0).trans rfl
                have hcz155_1 : wc.cell? ⟨gb343, 1, none⟩ = some (.int .i64 a0_1) := (blk_cell BK343.out 1).trans rfl
                have hcz155_2 : wc.cell? ⟨gb343, 2, none⟩ = some (.bool a0_2) := (blk_cell BK343.out 2).trans rfl
                have hfz155_0 := blk_frozen BK343.out 0
                have hfz155_1 := blk_frozen BK343.out 1
                have hfz155_2 := blk_frozen BK343.out 2
                go_wp2_with (first | ((with_reducible refine gate_callee (f := 69) rfl ?_); refine goesL_ (some 87) rfl rfl Try.func69 (by kernel_rfl) rfl #[.agg #[.int .i64 a0_0, .int .i64 a0_1, .bool a0_2]] rfl (by (try simp only [List.map_toArray, List.map_cons, List.map_nil]); first | done | rfl | (simp only [List.length_drop, List.length_take]; rfl)) ?_; (with_reducible refine (spenceref17_RightDrop.calls a0_0 a0_1 a0_2 false _ A84.out).mono ?_); rintro e w156 ⟨rfl, hb⟩; refine ⟨_, rfl, ?_⟩; have n0_ := Aside0.mk (Kd.R_below (by (with_reducible repeat (first | apply Kd.R_alloc | apply Kd.R_drewN | apply Kd.R_drew)); exact HO_7.out) hb); have n1_ := Aside0.mk (blk_below (g := gb343) (o := .cells #[.int .i64 a0_0, .int .i64 a0_1, .bool a0_2] 98 (0, 0)) (by (with_reducible repeat (first | refine blk_drewN ?_ _ | refine blk_drew ?_ | refine blk_alloc ?_ _)); exact BK343.out) hb); have n2_ := Aside0.mk (blk_below (g := gb353) (o := .cells #[.int .i64 t349, .int .i64 t350, .bool t351] 98 (0, 0)) (by (with_reducible repeat (first | refine blk_drewN ?_ _ | refine blk_drew ?_ | refine blk_alloc ?_ _)); exact BK353.out) hb); have n3_ := Aside0.mk (blk_below (g := gb358) (o := .cells #[.int .i64 t354, .int .i64 t355, .bool t356] 98 (0, 0)) (by (with_reducible repeat (first | refine blk_drewN ?_ _ | refine blk_drew ?_ | refine blk_alloc ?_ _)); exact BK358.out) hb); have n4_ := Aside0.mk (below_step (by repeat (first | (with_reducible first | exact HB.out | apply below_alloc | apply pw_below_drewN | apply below_drew1 | refine below_set ?_ GE343.out | refine below_set ?_ GE353.out | refine below_set ?_ GE358.out) | exact HB.out)) hb); clear HO_7; clear BK343; clear BK353; clear BK358; clear HB; have HO_7 := n0_; have BK343 := n1_; have BK353 := n2_; have BK358 := n3_; have HB := n4_; clear n0_ n1_ n2_ n3_ n4_; (try clear hb); (try clear hb2); (try clear hk); (try clear hi)))
                all_goals
                  go_ret
                  exact ⟨by first | rfl | (simp [errW_none, errW_some] <;> rfl) | (simp [*, errW_none, errW_some] <;> rfl), by repeat (first | (with_reducible first | exact HB.out | apply below_alloc | apply pw_below_drewN | apply below_drew1 | refine below_set ?_ GE343.out | refine below_set ?_ GE353.out | refine below_set ?_ GE358.out) | exact HB.out)⟩
  · replace c5 := Bool.eq_false_iff.mpr c5
    subst c5
    have H1 : (some false) = some r := by rw [if_neg (show ¬ (false = true) by decide)] at H; exact H
    clear H
    have H := H1
    clear H1
    obtain rfl := Option.some.inj H
    go_enter Try.func14, Try.ntmps14
    go_wp2_with (first | ((with_reducible refine gate_dst (N := 3) rfl ?_); (try (refine gate_guard (by rfl) ?_; dsimp only)); refine box_event ?hg (N := 3) ?hd (cs := #[.int .i64 a0_0, .int .i64 a0_1, .bool a0_2]) (t := 98) ?hr ?_; (case hd => rfl); (case hg => rfl); (case hr => first | (go_simp; done) | (go_simp; rfl)); intro gb343 hg w157 hbox hb; have n0_ := Aside0.mk (below_step (by repeat (first | (with_reducible first | exact HB.out | apply below_alloc | apply pw_below_drewN | apply below_drew1) | exact HB.out)) hb); have n1_ := Aside0.mk (hbox); have n2_ := Aside0.mk ((by rw [hg]; exact (below_size (by repeat (first | (with_reducible first | exact HB.out | apply below_alloc | apply pw_below_drewN | apply below_drew1) | exact HB.out))) : w.heap.size ≤ gb343)); have n3_ := Aside0.mk ((by rw [hg]; exact (below_size (by repeat (first | (with_reducible first | exact HB.out | apply below_alloc | apply pw_below_drewN | apply below_drew1) | exact HB.out))) : w.heap.size ≤ gb343)); clear HB; have HB := n0_; have BK343 := n1_; have GW343 := n2_; have GE343 := n3_; clear n0_ n1_ n2_ n3_; clear hb hbox hg) | ((with_reducible refine gate_callee (f := 40) rfl ?_); refine goesL_ (some 20) rfl rfl Try.func40 (by kernel_rfl) rfl #[] rfl (by (try simp only [List.map_toArray, List.map_cons, List.map_nil]); first | done | rfl | (simp only [List.length_drop, List.length_take]; rfl)) ?_; (with_reducible refine (spencelaw17_awake.calls k  false _ A4.out).mono ?_); rintro e w158 ⟨rfl, hb⟩; refine ⟨_, rfl, ?_⟩; have n0_ := Aside0.mk (blk_below (g := gb343) (o := .cells #[.int .i64 a0_0, .int .i64 a0_1, .bool a0_2] 98 (0, 0)) (by (with_reducible repeat (first | refine blk_drewN ?_ _ | refine blk_drew ?_ | refine blk_alloc ?_ _)); exact BK343.out) hb); have n1_ := Aside0.mk (below_step (by repeat (first | (with_reducible first | exact HB.out | apply below_alloc | apply pw_below_drewN | apply below_drew1 | refine below_set ?_ GE343.out) | exact HB.out)) hb); clear BK343; clear HB; have BK343 := n0_; have HB := n1_; clear n0_ n1_; (try clear hb); (try clear hb2); (try clear hk); (try clear hi)))
    all_goals
      go_ret
      exact ⟨by first | rfl | (simp [errW_none, errW_some] <;> rfl) | (simp [*, errW_none, errW_some] <;> rfl), by repeat (first | (with_reducible first | exact HB.out | apply below_alloc | apply pw_below_drewN | apply below_drew1 | refine below_set ?_ GE343.out) | exact HB.out)⟩

end Go.Proofs.Ytkbialmlddhclaa.QCodec

