/- The statement FreshOldest is proved: whatever the input, the law returns true, and each argument reads as before. No condition. -/
import Derived.Test.YtkbialmlddhclaaRows
import Derived.Test.YtkbialmlddhclaaOldPure
import Derived.Test.YtkbialmlddhclaaOldRow
import Derived.WalkKit
import Derived.ProofKit
import Derived.OpenShut
import Derived.ShutString
import Derived.ChangeOld
import Derived.Below
import Derived.SizedLaws
import Derived.Lib.SmallJoins
import Derived.Test.YtkbialmlddhclaaWSized
import Derived.Test.YtkbialmlddhclaaOpens
namespace Go.Proofs.Ytkbialmlddhclaa.freshOldest
open Go.ChangeShapes Go.WideShapes Go.ChangeAt Go.RowKit Go.Joins Go.Proofs.Ytkbialmlddhclaa.Opens Go.Proofs.YtkbialmlddhclaaW.PrintWords
open Go.ChangeMaps (open_string shut_string)
set_option linter.unusedVariables false
theorem own : ownKnob Try.prog.godebug = none := by kernel_rfl
theorem laidOut : laidOutB Try.prog = true := by kernel_rfl
set_option maxRecDepth 100000 in
theorem lifted (os : Os) (started : os.Started) (H : Type) (enc : TypeId × Value → H) :
    ReturnsInHanded {} Try.checked os 12 .any (Rows.freshOldestSpec.pre6 enc Try.prog Try.f12 Rows.freshOldestRow.domain false) (Rows.freshOldestSpec.post enc Try.prog Try.f12 false true false false) := by
  refine returnsInHanded_of_change_sized (C := Try.checked) own started (by kernel_rfl) Try.func12
    (ChangeSpec.witness6 (enc := enc) (C := Try.checked) false ⟨#[], #[.slice none 0 0, .agg #[.int .i64 0, .int .i64 0, .string ByteArray.empty, .int .i64 0, .int .i64 0], .agg #[.int .i64 0, .int .i64 0, .string ByteArray.empty, .int .i64 0, .int .i64 0]], []⟩ 8 (by kernel_rfl) (by kernel_rfl) (by kernel_rfl) (by kernel_rfl)) ?_
  intro W base args ds gs before hval0 hW hcnd hsz0 _
  have hsz : (DataW.weightsEach Try.prog (Try.f12.params.toList ++ Rows.freshOldestSpec.plain.varTypes Try.prog) (ds ++ gs)).all (· ≤ reachBytes) = true := hsz0
  have hval : ∀ (j : Nat) t v, Try.f12.params[j]? = some t → args[j]? = some v → Value.okWide Try.prog W .any base t v := hval0
  have hW' := hW
  obtain ⟨p, q, hA0, hV, rfl, hfz, hnd⟩ := hW
  have hA : DataW.TrodAll enc Try.prog W 0 (fun _ => true) true Try.f12.params.toList args.toList ds p := hA0
  rw [Try.params12] at hA hval hsz
  obtain ⟨v0, vs0, d0, ds0, p0, q0, hargs, rfl, rfl, h0, r0⟩ := trodAll_cons hA
  obtain ⟨v1, vs1, d1, ds1, p1, q1, rfl, rfl, rfl, h1, r1⟩ := trodAll_cons r0
  obtain ⟨v2, vs2, d2, ds2, p2, q2, rfl, rfl, rfl, h2, r2⟩ := trodAll_cons r1
  obtain ⟨rfl, rfl, rfl⟩ := trodAll_nil r2
  obtain rfl : args = #[v0, v1, v2] := by cases args; simp_all
  obtain ⟨rfl, rfl⟩ := trodVars_none hV
  have k0 := h0
  have lt0 : ∀ x ∈ p0, x.block < W.heap.size := by obtain ⟨m, hm⟩ := k0; exact DataW.trod_lt m _ _ _ hm
  obtain ⟨A0, len0, c0, rfl⟩ := okWide_slice Try.underlying85 (hval 0 85 v0 rfl rfl)
  obtain ⟨l0, rfl, hr0, hc0⟩ := Go.Proofs.Ytkbialmlddhclaa.Opens.row_binds Try.underlying85 Try.underlying40 (by kernel_rfl) (by kernel_rfl) Try.underlying3 Try.underlying3 Try.underlying9 Try.underlying3 Try.underlying3 h0
  have k1 := h1
  have lt1 : ∀ x ∈ p1, x.block < W.heap.size := by obtain ⟨m, hm⟩ := k1; exact DataW.trod_lt m _ _ _ hm
  obtain ⟨e1_0, e1_1, e1_2, e1_3, e1_4, y1_0, y1_1, y1_2, y1_3, y1_4, m1, rfl, _, _, t1_0, t1_1, t1_2, t1_3, t1_4⟩ := open_agg5 Try.underlying40 (by kernel_rfl) (by kernel_rfl) (hval 1 40 v1 rfl rfl) h1
  obtain ⟨a1_0, z1_0, _, w1_0⟩ := DataW.trod_int Try.underlying3 t1_0
  obtain rfl : e1_0 = _ := List.head_eq_of_cons_eq z1_0
  obtain ⟨a1_1, z1_1, _, w1_1⟩ := DataW.trod_int Try.underlying3 t1_1
  obtain rfl : e1_1 = _ := List.head_eq_of_cons_eq z1_1
  obtain ⟨a1_2, z1_2, _, w1_2⟩ := DataW.trod_string Try.underlying9 t1_2
  obtain rfl : e1_2 = _ := List.head_eq_of_cons_eq z1_2
  obtain ⟨a1_3, z1_3, _, w1_3⟩ := DataW.trod_int Try.underlying3 t1_3
  obtain rfl : e1_3 = _ := List.head_eq_of_cons_eq z1_3
  obtain ⟨a1_4, z1_4, _, w1_4⟩ := DataW.trod_int Try.underlying3 t1_4
  obtain rfl : e1_4 = _ := List.head_eq_of_cons_eq z1_4
  have k2 := h2
  have lt2 : ∀ x ∈ p2, x.block < W.heap.size := by obtain ⟨m, hm⟩ := k2; exact DataW.trod_lt m _ _ _ hm
  obtain ⟨e2_0, e2_1, e2_2, e2_3, e2_4, y2_0, y2_1, y2_2, y2_3, y2_4, m2, rfl, _, _, t2_0, t2_1, t2_2, t2_3, t2_4⟩ := open_agg5 Try.underlying40 (by kernel_rfl) (by kernel_rfl) (hval 2 40 v2 rfl rfl) h2
  obtain ⟨a2_0, z2_0, _, w2_0⟩ := DataW.trod_int Try.underlying3 t2_0
  obtain rfl : e2_0 = _ := List.head_eq_of_cons_eq z2_0
  obtain ⟨a2_1, z2_1, _, w2_1⟩ := DataW.trod_int Try.underlying3 t2_1
  obtain rfl : e2_1 = _ := List.head_eq_of_cons_eq z2_1
  obtain ⟨a2_2, z2_2, _, w2_2⟩ := DataW.trod_string Try.underlying9 t2_2
  obtain rfl : e2_2 = _ := List.head_eq_of_cons_eq z2_2
  obtain ⟨a2_3, z2_3, _, w2_3⟩ := DataW.trod_int Try.underlying3 t2_3
  obtain rfl : e2_3 = _ := List.head_eq_of_cons_eq z2_3
  obtain ⟨a2_4, z2_4, _, w2_4⟩ := DataW.trod_int Try.underlying3 t2_4
  obtain rfl : e2_4 = _ := List.head_eq_of_cons_eq z2_4
  clear hA0 hval0 hsz0 hsz
  refine (Go.Proofs.Ytkbialmlddhclaa.QOld.spencelaw36_FreshOldest.calls 200 A0 c0 l0 a1_0 a1_1 a1_2 a1_3 a1_4 a2_0 a2_1 a2_2 a2_3 a2_4 true W hr0 hc0 (Go.Proofs.Ytkbialmlddhclaa.OldPure.oldest_pure l0 a1_0 a1_1 a1_2 a1_3 a1_4 a2_0 a2_1 a2_2 a2_3 a2_4)).mono fun e W' ⟨he, bel⟩ => ?_
  subst he
  exact ⟨_, rfl, _, _, _, [], _, [], hW', trodAll_mk1 (shut_bool Try.underlying4 _), (trodAll_cons_mk (Below.trod laidOut (by kernel_rfl) (of_decide_eq_true (by kernel_rfl)) k0 bel lt0) (trodAll_cons_mk (Below.trod laidOut (by kernel_rfl) (of_decide_eq_true (by kernel_rfl)) k1 bel lt1) (trodAll_cons_mk (Below.trod laidOut (by kernel_rfl) (of_decide_eq_true (by kernel_rfl)) k2 bel lt2) trodAll_mk0))), rfl, bel.frame _, fun h => by cases h⟩
theorem over : Rows.freshOldestRow.holds Try.pinned (OpenSpec.ofChange Rows.freshOldestSpec) :=
  OpenClaim.holds_of_wide 12 Try.f12 rfl rfl rfl rfl rfl rfl rfl ⟨rfl, rfl, rfl, rfl, rfl⟩ rfl rfl rfl rfl rfl (by kernel_rfl) Try.func12 (by kernel_rfl)
    (of_decide_eq_true (by kernel_rfl)) (by unfold Func.isWrapper; first | (rw [if_pos (by decide +kernel)]; kernel_rfl) | (rw [if_neg (by decide +kernel)]; exact ⟨rfl, rfl⟩))
    (fun os started H enc _ => lifted os started H enc)
theorem proved : Rows.FreshOldestSaid := over
#print axioms proved
end Go.Proofs.Ytkbialmlddhclaa.freshOldest
namespace Go.Proofs.Ytkbialmlddhclaa
/-- The row, under a short name, for the claim. -/
theorem freshOldest_holds : Rows.FreshOldestSaid := freshOldest.proved
end Go.Proofs.Ytkbialmlddhclaa
