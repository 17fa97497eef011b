/- The statement SegmentCrash is proved: whatever the input, the law returns true, and each argument reads as before. No condition. -/
import Derived.Test.YtmbiebdcnadhkaaRows
import Derived.Test.YtmbiebdcnadhkaaPkSegmentCrashE
import Derived.WalkKit
import Derived.ProofKit
import Derived.OpenShut
import Derived.ShutString
import Derived.ChangeOld
import Derived.Below
import Derived.SizedLaws
import Derived.Lib.SmallJoins
import Derived.Test.YtmbiebdcnadhkaaWSized
namespace Go.Proofs.Ytmbiebdcnadhkaa.segmentCrash
open Go.ChangeShapes Go.WideShapes Go.ChangeAt Go.RowKit Go.Joins Go.Proofs.Ytmbiebdcnadhkaa.Opens Go.Proofs.YtmbiebdcnadhkaaW.PrintWords
open Go.ChangeMaps (open_string shut_string)
set_option linter.unusedVariables false
theorem own : ownKnob Try.prog.godebug = none := by kernel_rfl
theorem laidOut : laidOutB Try.prog = true := by kernel_rfl
set_option maxRecDepth 100000 in
theorem lifted (os : Os) (started : os.Started) (H : Type) (enc : TypeId × Value → H) :
    ReturnsInHanded {} Try.checked os 3 .any (Rows.segmentCrashSpec.pre6 enc Try.prog Try.f3 Rows.segmentCrashRow.domain false) (Rows.segmentCrashSpec.post enc Try.prog Try.f3 false true false false) := by
  refine returnsInHanded_of_change_sized (C := Try.checked) own started (by kernel_rfl) Try.func3
    (ChangeSpec.witness6 (enc := enc) (C := Try.checked) false ⟨#[], #[.agg #[.int .i64 0, .int .i64 0, .int .i64 0], .slice none 0 0, .int .i64 0, .agg #[.int .u64 0, .int .i64 0, .int .i64 0]], []⟩ 8 (by kernel_rfl) (by kernel_rfl) (by kernel_rfl) (by kernel_rfl)) ?_
  intro W base args ds gs before hval0 hW hcnd hsz0 _
  have hsz : (DataW.weightsEach Try.prog (Try.f3.params.toList ++ Rows.segmentCrashSpec.plain.varTypes Try.prog) (ds ++ gs)).all (· ≤ reachBytes) = true := hsz0
  have hval : ∀ (j : Nat) t v, Try.f3.params[j]? = some t → args[j]? = some v → Value.okWide Try.prog W .any base t v := hval0
  have hW' := hW
  obtain ⟨p, q, hA0, hV, rfl, hfz, hnd⟩ := hW
  have hA : DataW.TrodAll enc Try.prog W 0 (fun _ => true) true Try.f3.params.toList args.toList ds p := hA0
  rw [Try.params3] at hA hval hsz
  obtain ⟨v0, vs0, d0, ds0, p0, q0, hargs, rfl, rfl, h0, r0⟩ := trodAll_cons hA
  obtain ⟨v1, vs1, d1, ds1, p1, q1, rfl, rfl, rfl, h1, r1⟩ := trodAll_cons r0
  obtain ⟨v2, vs2, d2, ds2, p2, q2, rfl, rfl, rfl, h2, r2⟩ := trodAll_cons r1
  obtain ⟨v3, vs3, d3, ds3, p3, q3, rfl, rfl, rfl, h3, r3⟩ := trodAll_cons r2
  obtain ⟨rfl, rfl, rfl⟩ := trodAll_nil r3
  obtain rfl : args = #[v0, v1, v2, v3] := by cases args; simp_all
  obtain ⟨rfl, rfl⟩ := trodVars_none hV
  have k0 := h0
  have lt0 : ∀ x ∈ p0, x.block < W.heap.size := by obtain ⟨m, hm⟩ := k0; exact DataW.trod_lt m _ _ _ hm
  obtain ⟨e0_0, e0_1, e0_2, y0_0, y0_1, y0_2, m0, rfl, _, _, t0_0, t0_1, t0_2⟩ := open_agg3 Try.underlying23 (by kernel_rfl) (by kernel_rfl) (hval 0 23 v0 rfl rfl) h0
  obtain ⟨a0_0, z0_0, _, w0_0⟩ := DataW.trod_int Try.underlying3 t0_0
  obtain rfl : e0_0 = _ := List.head_eq_of_cons_eq z0_0
  obtain ⟨a0_1, z0_1, _, w0_1⟩ := DataW.trod_int Try.underlying3 t0_1
  obtain rfl : e0_1 = _ := List.head_eq_of_cons_eq z0_1
  obtain ⟨a0_2, z0_2, _, w0_2⟩ := DataW.trod_int Try.underlying3 t0_2
  obtain rfl : e0_2 = _ := List.head_eq_of_cons_eq z0_2
  have k1 := h1
  have lt1 : ∀ x ∈ p1, x.block < W.heap.size := by obtain ⟨m, hm⟩ := k1; exact DataW.trod_lt m _ _ _ hm
  obtain ⟨A1, len1, c1, rfl⟩ := okWide_slice Try.underlying24 (hval 1 24 v1 rfl rfl)
  obtain ⟨l1, rfl, hr1, hc1, hm1⟩ := Go.Proofs.Ytmbiebdcnadhkaa.Fl.row_recs Try.underlying24 Try.underlying38 (by kernel_rfl) rfl rfl rfl rfl rfl (by kernel_rfl) (by kernel_rfl) (by kernel_rfl) (by kernel_rfl) (by kernel_rfl) Try.underlying3 Try.underlying3 Try.underlying25 Try.underlying5 Try.underlying36 Try.underlying5 (by kernel_rfl) h1
  have k2 := h2
  have lt2 : ∀ x ∈ p2, x.block < W.heap.size := by obtain ⟨m, hm⟩ := k2; exact DataW.trod_lt m _ _ _ hm
  obtain ⟨a2, rfl, _, _, w2⟩ := open_int Try.underlying3 (hval 2 3 v2 rfl rfl) h2
  have k3 := h3
  have lt3 : ∀ x ∈ p3, x.block < W.heap.size := by obtain ⟨m, hm⟩ := k3; exact DataW.trod_lt m _ _ _ hm
  obtain ⟨e3_0, e3_1, e3_2, y3_0, y3_1, y3_2, m3, rfl, _, _, t3_0, t3_1, t3_2⟩ := open_agg3 Try.underlying27 (by kernel_rfl) (by kernel_rfl) (hval 3 27 v3 rfl rfl) h3
  obtain ⟨a3_0, z3_0, _, w3_0⟩ := DataW.trod_int Try.underlying25 t3_0
  obtain rfl : e3_0 = _ := List.head_eq_of_cons_eq z3_0
  obtain ⟨a3_1, z3_1, _, w3_1⟩ := DataW.trod_int Try.underlying3 t3_1
  obtain rfl : e3_1 = _ := List.head_eq_of_cons_eq z3_1
  obtain ⟨a3_2, z3_2, _, w3_2⟩ := DataW.trod_int Try.underlying3 t3_2
  obtain rfl : e3_2 = _ := List.head_eq_of_cons_eq z3_2
  clear hA0 hval0 hsz0 hsz
  refine (Go.Proofs.Ytmbiebdcnadhkaa.Fl.segment_crash_walk a0_0 a0_1 a0_2 A1 c1 l1 a2 a3_0 a3_1 a3_2 W w0_0 w0_1 w0_2 hr1 hc1 hm1 w2 w3_0 w3_1 w3_2).mono fun e W' ⟨he, bel⟩ => ?_
  subst he
  exact ⟨_, rfl, _, _, _, [], _, [], hW', trodAll_mk1 (shut_bool Try.underlying4 _), (trodAll_cons_mk (Below.trod laidOut (by kernel_rfl) (of_decide_eq_true (by kernel_rfl)) k0 bel lt0) (trodAll_cons_mk (Below.trod laidOut (by kernel_rfl) (of_decide_eq_true (by kernel_rfl)) k1 bel lt1) (trodAll_cons_mk (Below.trod laidOut (by kernel_rfl) (of_decide_eq_true (by kernel_rfl)) k2 bel lt2) (trodAll_cons_mk (Below.trod laidOut (by kernel_rfl) (of_decide_eq_true (by kernel_rfl)) k3 bel lt3) trodAll_mk0)))), rfl, bel.frame _, fun h => by cases h⟩
theorem over : Rows.segmentCrashRow.holds Try.pinned (OpenSpec.ofChange Rows.segmentCrashSpec) :=
  OpenClaim.holds_of_wide 3 Try.f3 rfl rfl rfl rfl rfl rfl rfl ⟨rfl, rfl, rfl, rfl, rfl⟩ rfl rfl rfl rfl rfl (by kernel_rfl) Try.func3 (by kernel_rfl)
    (of_decide_eq_true (by kernel_rfl)) (by unfold Func.isWrapper; first | (rw [if_pos (by decide +kernel)]; kernel_rfl) | (rw [if_neg (by decide +kernel)]; exact ⟨rfl, rfl⟩))
    (fun os started H enc _ => lifted os started H enc)
theorem proved : Rows.SegmentCrashSaid := over
#print axioms proved
end Go.Proofs.Ytmbiebdcnadhkaa.segmentCrash
namespace Go.Proofs.Ytmbiebdcnadhkaa
/-- The row, under a short name, for the claim. -/
theorem segmentCrash_holds : Rows.SegmentCrashSaid := segmentCrash.proved
end Go.Proofs.Ytmbiebdcnadhkaa
