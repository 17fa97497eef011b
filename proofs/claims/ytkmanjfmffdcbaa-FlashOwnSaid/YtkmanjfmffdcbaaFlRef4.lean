/- The document's device: Shape, Write, walked. No condition. -/
import Derived.Test.YtkmanjfmffdcbaaFlRef3
namespace Go.Proofs.Ytkmanjfmffdcbaa.Fl
open Go.RowKit Go.Proofs.YtkmanjfmffdcbaaW.PrintWords Go.Proofs.YtkmanjfmffdcbaaW.PrintMore Go.Maps
set_option linter.unusedSimpArgs false
set_option linter.unusedVariables false
theorem shapeB_iff (s : Int × Int × Int) : shapeB s = true ↔ (1 ≤ s.1 ∧ s.1 ≤ 16 ∧ 1 ≤ s.2.1 ∧ s.2.1 ≤ 64 ∧ 16 ≤ s.2.2 ∧ s.2.2 ≤ 256) := by
  simp [shapeB, fitsB]
  omega
set_option maxHeartbeats 2000000 in
set_option maxRecDepth 100000 in
theorem RShape_any (s : Int × Int × Int) (w : World) : Calls Try.prog 26 #[.agg #[.int .i64 s.1, .int .i64 s.2.1, .int .i64 s.2.2]] w fun e w' => e = .returned (.bool (shapeB s)) ∧ Below w.heap.size w w' := by
  obtain ⟨r, hr⟩ : ∃ r, r = shapeB s := ⟨_, rfl⟩
  have hi := shapeB_iff s
  rw [← hr] at hi ⊢
  have HI := Lib.hid hi
  clear hi hr
  obtain ⟨s1, s2, s3⟩ := s
  simp only at HI ⊢
  by_cases h0 : 1 ≤ s1
  · skip
    by_cases h1 : s1 ≤ 16
    · skip
      by_cases h2 : 1 ≤ s2
      · skip
        by_cases h3 : s2 ≤ 64
        · skip
          by_cases h4 : 16 ≤ s3
          · skip
            by_cases h5 : s3 ≤ 256
            · go_enter Try.func26, Try.ntmps26
              go_wp2
              go_ret
              exact ⟨by rw [HI.out.2 ⟨h0, h1, h2, h3, h4, h5⟩]; first | rfl | (simp [h5]; done), below_alloc (Below.refl _ _) _⟩
            · have hr : r = false := by cases hq : r with | false => rfl | true => exact absurd (HI.out.1 hq).2.2.2.2.2 h5
              have HR := Lib.hid hr
              have e1 : decide (s3 ≤ 256) = false := by simpa using h5
              clear hr
              go_enter Try.func26, Try.ntmps26
              go_wp2
              go_ret
              exact ⟨by rw [HR.out]; first | rfl | (simp [h5]; done), below_alloc (Below.refl _ _) _⟩
          · have hr : r = false := by cases hq : r with | false => rfl | true => exact absurd (HI.out.1 hq).2.2.2.2.1 h4
            have HR := Lib.hid hr
            have e1 : decide (16 ≤ s3) = false := by simpa using h4
            clear hr
            go_enter Try.func26, Try.ntmps26
            go_wp2
            go_ret
            exact ⟨by rw [HR.out]; first | rfl | (simp [h4]; done), below_alloc (Below.refl _ _) _⟩
        · have hr : r = false := by cases hq : r with | false => rfl | true => exact absurd (HI.out.1 hq).2.2.2.1 h3
          have HR := Lib.hid hr
          have e1 : decide (s2 ≤ 64) = false := by simpa using h3
          clear hr
          go_enter Try.func26, Try.ntmps26
          go_wp2
          go_ret
          exact ⟨by rw [HR.out]; first | rfl | (simp [h3]; done), below_alloc (Below.refl _ _) _⟩
      · have hr : r = false := by cases hq : r with | false => rfl | true => exact absurd (HI.out.1 hq).2.2.1 h2
        have HR := Lib.hid hr
        have e1 : decide (1 ≤ s2) = false := by simpa using h2
        clear hr
        go_enter Try.func26, Try.ntmps26
        go_wp2
        go_ret
        exact ⟨by rw [HR.out]; first | rfl | (simp [h2]; done), below_alloc (Below.refl _ _) _⟩
    · have hr : r = false := by cases hq : r with | false => rfl | true => exact absurd (HI.out.1 hq).2.1 h1
      have HR := Lib.hid hr
      have e1 : decide (s1 ≤ 16) = false := by simpa using h1
      clear hr
      go_enter Try.func26, Try.ntmps26
      go_wp2
      go_ret
      exact ⟨by rw [HR.out]; first | rfl | (simp [h1]; done), below_alloc (Below.refl _ _) _⟩
  · have hr : r = false := by cases hq : r with | false => rfl | true => exact absurd (HI.out.1 hq).1 h0
    have HR := Lib.hid hr
    have e1 : decide (1 ≤ s1) = false := by simpa using h0
    clear hr
    go_enter Try.func26, Try.ntmps26
    go_wp2
    go_ret
    exact ⟨by rw [HR.out]; first | rfl | (simp [h0]; done), below_alloc (Below.refl _ _) _⟩
section
variable {N0 x : Nat} {s : Int × Int × Int} {ps : List Pg} {ok : Nat → Prop} {w : World}
def rwE (s : Int × Int × Int) (ps : List Pg) (a b : Int) (l : List Int) : Int := if hasB s a b = false then 6 else if s.2.2 < (l.length : Int) then 10 else if 0 ≤ findI a b ps then 7 else 0
def rwP (s : Int × Int × Int) (ps : List Pg) (a b : Int) (l : List Int) : List Pg := if rwE s ps a b l = 0 then ps ++ [((a, b), full s.2.2.toNat l, true)] else ps
theorem rwE_cases (s : Int × Int × Int) (ps : List Pg) (a b : Int) (l : List Int) : (hasB s a b = false ∧ rwE s ps a b l = 6) ∨ (hasB s a b = true ∧ s.2.2 < (l.length : Int) ∧ rwE s ps a b l = 10) ∨ (hasB s a b = true ∧ (l.length : Int) ≤ s.2.2 ∧ 0 ≤ findI a b ps ∧ rwE s ps a b l = 7) ∨ (hasB s a b = true ∧ (l.length : Int) ≤ s.2.2 ∧ findI a b ps < 0 ∧ rwE s ps a b l = 0) := by
  cases h1 : hasB s a b with
  | false => exact .inl ⟨rfl, by simp [rwE, h1]⟩
  | true =>
    by_cases h2 : s.2.2 < (l.length : Int)
    · exact .inr (.inl ⟨rfl, h2, by simp [rwE, h1, h2]⟩)
    · by_cases h3 : 0 ≤ findI a b ps
      · exact .inr (.inr (.inl ⟨rfl, by omega, h3, by simp [rwE, h1, h2, h3]⟩))
      · exact .inr (.inr (.inr ⟨rfl, by omega, by omega, by simp [rwE, h1, h2, h3]⟩))
theorem rw_mid {w1 w2 : World} {A0 A2 : Option Addr} {n0 c0 c2 : Nat} {L : List Int} (hb1 : Below w.heap.size w w1) (hb2 : Below w1.drew.heap.size w1.drew w2) (hR : kPage.R TP w1 N0 ok (.slice A0 n0 c0) ps) (hr2 : kB.R TB w2 w1.drew.heap.size (fun k => w1.drew.heap.size ≤ k) (.slice A2 L.length c2) L) (hN : N0 ≤ w.heap.size) (a b : Int) :
    ∃ okp : Nat → Prop, kPage.M w2 N0 okp ((a, b), L, true) [.int .i64 a, .int .i64 b, .slice A2 L.length c2, .bool true] ∧ ∀ k, okp k → (ok k ∨ w.heap.size ≤ k) ∧ some k ≠ (Value.slice A0 n0 c0).ownBlock := by
  have hs := hb1.size
  exact page_app (Kd.R_mono (Kd.R_below hR (undrew hb2)) (fun _ h => .inl h)) (((Row.ofR hr2).lower (Nat.le_trans hN hs)).mono (fun k hk => .inr (Nat.le_trans hs hk))) a b true
theorem rw_keep {w1 w2 w3 : World} {A0 : Option Addr} {n0 c0 : Nat} {o : Array Value} (hR : kPage.R TP w1 N0 ok (.slice A0 n0 c0) ps) (hx : w1.heap[x]? = some (.cells o TX (0, 0))) (hb2 : Below w1.heap.size w1 w2) (hg : w2.grownBy w3 (Value.slice A0 n0 c0).ownBlock) : w3.heap[x]? = some (.cells o TX (0, 0)) := by
  have h2 : w2.heap[x]? = some (.cells o TX (0, 0)) := (hb2.block x (blt hx)).trans hx
  refine (hg.block x (blt h2) (fun e => ?_)).trans h2
  obtain ⟨cs', hc'⟩ := own_typed (Kd.R_own hR).choose_spec x e.symm
  exact typ_ne hx hc' (by decide) rfl
set_option maxHeartbeats 2000000 in
set_option maxRecDepth 100000 in
theorem RWrite_any (hX : RefIs N0 x s ps ok w) (hs : ShapeOk s) (hl : ps.length < 1000000) (a b : Int) (A : Option Addr) (c : Nat) (l : List Int) (hb : kB.C w A l.length l) :
    Calls Try.prog 35 #[.pointer (some ⟨x, 0, none⟩), .int .i64 a, .int .i64 b, .slice A l.length c] w fun e w' => e = .returned (.int .i64 (rwE s ps a b l)) ∧ RefIs N0 x s (rwP s ps a b l) (fun k => ok k ∨ w.heap.size ≤ k) w' ∧ Upd (Mut ok w) w w' := by
  have hfind := RFind_any hX hl a b
  obtain ⟨A0, c0, hx, hrow, hR⟩ := ref_open hX
  have HX := Lib.hid hx
  have HXX := Aside0.mk hX
  have HS := Lib.hid hs
  have HRR := Aside0.mk hR
  have HF := Aside0.mk hfind
  have HB := Aside0.mk hb
  have k2 : w.cell? ⟨x, 2, none⟩ = some (.int .i64 s.2.2) := bcell hx 2
  have hsame : ∀ w', Below w.heap.size w w' → rwE s ps a b l ≠ 0 → RefIs N0 x s (rwP s ps a b l) (fun k => ok k ∨ w.heap.size ≤ k) w' ∧ Upd (Mut ok w) w w' := fun w' h1 h2 => ⟨by rw [rwP, if_neg h2]; exact (hX.below h1).mono (fun _ h => .inl h), Upd.ofBelow h1 _⟩
  have HSM := Lib.hid hsame
  clear hfind hx hrow hR hs hb hX hsame
  rcases rwE_cases s ps a b l with ⟨h1, h2⟩ | ⟨h1, h2, h3⟩ | ⟨h1, h2, h3, h4⟩ | ⟨h1, h2, h3, h4⟩
  · have HW := Lib.hid h2
    have HH := Lib.hid h1
    clear h1 h2
    go_enter Try.func35, Try.ntmps35
    go_wp2_with (go_at_call 65; (with_reducible refine (RHas_any HXX.out a b).mono ?_); rw [HH.out]; rintro e w' ⟨rfl, rfl⟩)
    go_ret
    exact ⟨by rw [HW.out]; rfl, HSM.out _ (Below.refl _ _) (by rw [HW.out]; decide)⟩
  · have HW := Lib.hid h3
    have HH := Lib.hid h1
    clear h1 h3
    go_enter Try.func35, Try.ntmps35
    go_wp2_with (go_at_call 65; (with_reducible refine (RHas_any HXX.out a b).mono ?_); rw [HH.out]; rintro e w' ⟨rfl, rfl⟩)
    go_ret
    exact ⟨by rw [HW.out]; rfl, HSM.out _ (Below.refl _ _) (by rw [HW.out]; decide)⟩
  · have HW := Lib.hid h4
    have HH := Lib.hid h1
    obtain ⟨r, hr⟩ : ∃ r, r = findI a b ps := ⟨_, rfl⟩
    rw [← hr] at HF h3
    clear h1 h4 hr
    go_enter Try.func35, Try.ntmps35
    go_wp2_with (first | (go_at_call 65; (with_reducible refine (RHas_any HXX.out a b).mono ?_); rw [HH.out]; rintro e w' ⟨rfl, rfl⟩) | (go_at_call 48; (with_reducible refine HF.out.mono ?_); rintro e w1 ⟨rfl, hb1⟩; have HB1 := Aside0.mk hb1; clear hb1))
    go_ret
    exact ⟨by rw [HW.out]; rfl, HSM.out _ HB1.out (by rw [HW.out]; decide)⟩
  · have HW := Lib.hid h4
    have HH := Lib.hid h1
    obtain ⟨r, hr⟩ : ∃ r, r = findI a b ps := ⟨_, rfl⟩
    rw [← hr] at HF h3
    have h5 : decide (0 ≤ r) = false := by simp; omega
    clear h1 h4 hr
    go_enter Try.func35, Try.ntmps35
    go_wp2_with (first | (go_at_call 65; (with_reducible refine (RHas_any HXX.out a b).mono ?_); rw [HH.out]; rintro e w' ⟨rfl, rfl⟩) | (go_at_call 48; (with_reducible refine HF.out.mono ?_); rintro e w1 ⟨rfl, hb1⟩; have HB1 := Aside0.mk hb1; clear hb1))
    have hx1 : w1.heap[x]? = some (.cells #[.int .i64 s.1, .int .i64 s.2.1, .int .i64 s.2.2, .slice A0 ps.length c0] TX (0, 0)) := (HB1.out.block x (blt HX.out)).trans HX.out
    have hxd : RefIs N0 x s ps ok w1.drew := (HXX.out.below HB1.out).below ((Below.refl _ w1).drew)
    have hbd : kB.C w1.drew A l.length l := Kd.C_below (Kd.C_below HB.out HB1.out) ((Below.refl _ w1).drew)
    have hrd : kPage.R TP w1 N0 ok (.slice A0 ps.length c0) ps := Kd.R_below HRR.out HB1.out
    obtain ⟨n0, hn0⟩ : ∃ n0, n0 = ps.length := ⟨_, rfl⟩
    rw [← hn0] at hx1 hrd hl
    have HX1 := Lib.hid hx1
    have HXD := Aside0.mk hxd
    have HBD := Aside0.mk hbd
    have HRD := Aside0.mk hrd
    have HN0 := Lib.hid hn0
    have k1 : w1.cell? ⟨x, 3, none⟩ = some (.slice A0 n0 c0) := bcell hx1 3
    have hc1 := HS.out.c1
    have hc0 := HS.out.c0
    have hl2 : l.length < 1000000 := by omega
    have hNw : N0 ≤ w.heap.size := Nat.le_of_lt (Nat.lt_of_le_of_lt HXX.out.base (blt HX.out))
    have HNW := Lib.hid hNw
    have HL2 := Lib.hid hl2
    clear hx1 hxd hbd hrd hn0 hc1 hc0 hl2 hNw k2
    go_region_law (first
      | (refine Go.Proofs.YtkmanjfmffdcbaaW.PrintLast.goes_ (N := some 37) Try.func44 (by kernel_rfl) rfl #[.pointer (some ⟨x, 0, none⟩), .slice A l.length c] (by rfl) rfl rfl (by simp [Act.eval, Act.put]) ?_; refine (RFull_any HXD.out HS.out A c l HBD.out HL2.out).mono ?_; rintro e w2 ⟨v2, rfl, hr2, hb2⟩; refine ⟨_, rfl, ?_⟩; obtain ⟨A2, c2, rfl⟩ := Kd.R_slice hr2; obtain ⟨okp, hM, hokp⟩ := rw_mid HB1.out hb2 HRD.out hr2 HNW.out a b; have k3 : w2.cell? ⟨x, 3, none⟩ = some (.slice A0 n0 c0) := bcell (((undrew hb2).block x (blt HX1.out)).trans HX1.out) 3; have k5 : (w2.alloc (.cells #[.int .i64 a, .int .i64 b, .slice A2 (fullT s.2.2.toNat l).length c2, .bool true] TP)).cell? ⟨x, 3, none⟩ = some (.slice A0 n0 c0) := (World.cell?_alloc_lt w2 _ _ (blt_of_cell k3)).trans k3; have HB2 := Aside0.mk (undrew hb2); have HM := Aside0.mk hM; have HOK := Lib.hid hokp; clear hr2 hb2 hM hokp)
      | (refine Kd.R_append_step kPage (w0 := w1) (W := w2) N0 (by rfl) (.tmp 31) (.tmp 39) 66 TP (.agg #[.int .i64 0, .int .i64 0, .slice none 0 0, .bool false]) 48 (by rfl) Try.underlying66 info_page rfl (by decide) (by decide) (.slice A0 n0 c0) ps ((a, b), fullT s.2.2.toNat l, true) [.int .i64 a, .int .i64 b, .slice A2 (fullT s.2.2.toNat l).length c2, .bool true] (fun k => ok k ∨ w.heap.size ≤ k) okp (by rfl) (by rfl) HM.out HOK.out (fun k hk => .inr (Nat.le_trans (Nat.le_trans HB1.out.size HB2.out.size) hk)) (Kd.R_mono (Kd.R_below HRD.out HB2.out) (fun _ h => .inl h)) (HB2.out.mono (Nat.le_trans HNW.out HB1.out.size)) (Nat.le_trans HNW.out (Nat.le_trans HB1.out.size HB2.out.size)) (by have := HN0.out; omega) ?_; intro v3 w3 hr3 hb3 hg3 hat3; obtain ⟨A3, c3, rfl⟩ := Kd.R_slice hr3; have hx3 := rw_keep HRD.out HX1.out HB2.out hg3; have k4 : w3.cell? ⟨x, 3, none⟩ = some (.slice A0 n0 c0) := bcell hx3 3; have f4 : w3.frozen? ⟨x, 3, none⟩ = false := bfrozen hx3 3; have HX3 := Lib.hid hx3; have HR3 := Aside0.mk hr3; have HG3 := Aside0.mk hg3; clear hr3 hb3 hg3 hat3 hx3))
    all_goals
      go_wp2
      go_ret
      have hfu : fullT s.2.2.toNat l = full s.2.2.toNat l := fullT_full (by omega)
      have hps : rwP s ps a b l = ps ++ [((a, b), fullT s.2.2.toNat l, true)] := by rw [rwP, if_pos HW.out, hfu]
      have hown : ∀ k, (Value.slice A0 n0 c0).ownBlock = some k → Mut ok w k := fun k hk => by
        have hr := HRR.out
        rw [← HN0.out] at hr
        obtain ⟨cs', hc'⟩ := own_typed (Kd.R_own hr).choose_spec k hk
        exact mut_of (hr.1 k hk) hc' (by decide)
      refine ⟨by rw [HW.out]; rfl, ?_, ?_⟩
      · rw [hps]
        have hr := HR3.out
        rw [List.length_append, List.length_singleton] at hr
        exact ref_end HXX.out.base (.inl HXX.out.okx) HX3.out hr
      · exact (((Upd.ofBelow HB1.out _).trans (Upd.ofBelow HB2.out (Mut ok w)) (fun _ h _ => h)).trans (Upd.grown HG3.out hown) (fun _ h _ => h)).trans (Upd.setCell w3 (p := ⟨x, 3, none⟩) (mut_of HXX.out.okx HX.out (by decide)) _) (fun _ h _ => h)
end
end Go.Proofs.Ytkmanjfmffdcbaa.Fl
