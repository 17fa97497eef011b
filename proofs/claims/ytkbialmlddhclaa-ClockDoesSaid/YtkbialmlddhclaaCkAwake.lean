/- Chapter 24's example: walked. -/
import Derived.Test.YtkbialmlddhclaaCkPure
import Derived.Test.YtkbialmlddhclaaCkNew
namespace Go.Proofs.Ytkbialmlddhclaa.Ck
open Go.RowKit Go.Proofs.YtkbialmlddhclaaW.PrintWords Go.Proofs.YtkbialmlddhclaaW.PrintMore
set_option linter.unusedSimpArgs false
set_option linter.unusedVariables false
/-- The driver's victim, whoever is there. -/
def vicW (r : RG) : Int := if r.row = [] then 0 else (victR r).1
def vicN (r : RG) : RG := if r.row = [] then r else (victR r).2
def VicPost (w : World) (r : RG) (e : Ending) (w' : World) : Prop := ∃ V', e = .returned (.tuple #[.int .i64 (vicW r), V', .bool (!r.row.isEmpty)]) ∧ RingIs w' V' (vicN r) ∧ Below w.heap.size w w'
theorem Victim_any {w : World} {V : Value} {r : RG} (h : RingIs w V r) (hm : r.row.length ≤ 1000) (hr : RGok r) : Calls Try.prog 35 #[V] w (VicPost w r) := by
  unfold VicPost vicW vicN
  by_cases h0 : r.row = []
  · rw [if_pos h0, if_pos h0, h0]
    exact (Victim_none h h0)
  · rw [if_neg h0, if_neg h0]
    have hl : 0 < r.row.length := by
      cases hh : r.row with
      | nil => exact absurd hh h0
      | cons a l => simp
    have he : (!r.row.isEmpty) = true := by
      cases hh : r.row with
      | nil => exact absurd hh h0
      | cons a l => rfl
    rw [he]
    exact Victim_some h hl hm hr.rng
theorem RingIs.ring {w : World} {V : Value} {r : RG} (h : RingIs w V r) : ∃ v, V = ringV v r.ms ∧ RowV w v r.row ∧ r.ms.length = 16 := h
def awR : RG := touchR (addR (addR newR 1) 2) 1
set_option maxHeartbeats 4000000 in
set_option maxRecDepth 100000 in
theorem Awake_any (w : World) : Calls Try.prog 30 #[] w fun e w' => e = .returned (.bool true) ∧ Below w.heap.size w w' := by
  have hok : RGok awR := touchR_ok (addR_ok (addR_ok newR_ok 1) 2) 1
  have hwho : vicW awR = 2 := by decide
  have hne : (!awR.row.isEmpty) = true := by decide
  have hlen : awR.row.length ≤ 1000 := by decide
  have hrng : ∀ x ∈ (addR (addR newR 1) 2).row, 0 ≤ x ∧ x < 16 := (addR_ok (addR_ok newR_ok 1) 2).rng
  have hvi : ∀ (X : World) (V : Value), RingIs X V awR → Calls Try.prog 35 #[V] X fun e w' => ∃ v', e = .returned (.tuple #[.int .i64 2, ringV v' (vicN awR).ms, .bool true]) ∧ RowV w' v' (vicN awR).row ∧ (vicN awR).ms.length = 16 ∧ Below X.heap.size X w' := fun X V h => by
    have := Victim_any h hlen hok
    unfold VicPost at this
    rw [hwho, hne] at this
    exact this.mono fun e w' ⟨V', h1, ⟨v', h2, h3, h4⟩, h5⟩ => ⟨v', by rw [h1, h2], h3, h4, h5⟩
  have HVI := Lib.hid hvi
  have HRNG := Lib.hid hrng
  clear hok hwho hne hlen hvi hrng
  go_enter Try.func30, Try.ntmps30
  go_wp2_with (first
    | (go_at_call 31; (with_reducible refine (New_any _).mono ?_); rintro e w1 ⟨V1, rfl, hr, hb⟩; have HR1 := Aside0.mk hr; have HB1 := Aside0.mk hb; clear hr hb)
    | (go_at_call 32; first | ((with_reducible refine (Add_any HR2.out 2 (by decide)).mono ?_); rintro e w3 ⟨V3, rfl, hr, hb⟩; have HR3 := Aside0.mk hr; have HB3 := Aside0.mk (HB2.out.trans (hb.mono HB2.out.size)); clear hr hb) | ((with_reducible refine (Add_any HR1.out 1 (by decide)).mono ?_); rintro e w2 ⟨V2, rfl, hr, hb⟩; have HR2 := Aside0.mk hr; have HB2 := Aside0.mk (HB1.out.trans (hb.mono HB1.out.size)); clear hr hb))
    | (go_at_call 33; (with_reducible refine (Touch_any HR3.out 1 (by decide) HRNG.out).mono ?_); rintro e w4 ⟨V4, rfl, hr, hb⟩; have HR4 := Aside0.mk hr; have HB4 := Aside0.mk (HB3.out.trans (hb.mono HB3.out.size)); clear hr hb)
    | (go_at_call 35; (with_reducible refine (HVI.out _ _ HR4.out).mono ?_); rintro e w5 ⟨v5, rfl, hr, h16, hb⟩; have H1 := Lib.hid hr.one; have H16 := Lib.hid h16; have HB5 := Aside0.mk (HB4.out.trans (hb.mono HB4.out.size)); clear hr hb h16)
    | ((with_reducible refine gate_store (t := TR) (p := 2) rfl ?_); refine wl_store rfl rfl rfl rfl H1.out (blk_new _ _) rfl H16.out ?_; intro Y hY hu; have HU := Aside0.mk hu; clear hY hu))
  go_ret
  refine ⟨rfl, ?_⟩
  exact (below_alloc HB5.out _).trans (HU.out.below (Nat.le_trans HB5.out.size (below_alloc (Below.refl _ w5) _).size) (fun k hk => by rw [hk]; exact HB5.out.size))
end Go.Proofs.Ytkbialmlddhclaa.Ck
