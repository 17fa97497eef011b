import Derived.Test.YtmbiebdcnadhkaaPkSegmentCrashD
import Derived.ProofKit
import Derived.Lib.SmallJoins
import Derived.Test.YtmbiebdcnadhkaaWMore
import Derived.Test.YtmbiebdcnadhkaaPkSegmentCrashB
import Derived.Deep.Slices
namespace Go.Proofs.Ytmbiebdcnadhkaa.Fl
open Go.RowKit Go.Proofs.YtmbiebdcnadhkaaW.PrintWords Go.Proofs.YtmbiebdcnadhkaaW.PrintMore Go.Maps
set_option linter.unusedSimpArgs false
set_option linter.unusedVariables false
theorem calm_of {D E E1 E2 : PD} {ps1 ps2 : List Pg} (h1 : Sim E1 D.s ps1) (h2 : Sim E2 D.s ps2) (u1 : ∀ c d, usedB E1 c d = usedB D c d) (u2 : ∀ c d, usedB E2 c d = usedB E c d) (e1 : ∀ c d, entD E1 c d = entD D c d) (e2 : ∀ c d, entD E2 c d = entD E c d) (hs : ShapeOk D.s) (h : ∀ a b : Nat, (a : Int) < D.s.1 → (b : Int) < D.s.2.1 → NoClash D.s ps1 ps2 (a : Int) (b : Int)) : Calm D E := fun b hb hu1 hu2 h3 h4 => by
  have hn := h 0 b (by have := hs.a0; omega) hb
  unfold NoClash at hn
  have v1 := h1.used 0 (b : Int)
  have v2 := h2.used 0 (b : Int)
  rw [u1, hu1] at v1
  rw [u2, hu2] at v2
  rw [← e1] at h3 ⊢
  rw [← e2] at h4 ⊢
  rw [h1.ent] at h3 ⊢
  rw [h2.ent] at h4 ⊢
  exact hn (of_decide_eq_true v1.symm) (of_decide_eq_true v2.symm) h3 h4
theorem ent_shape {w : World} {base : Nat} {ok : Nat → Prop} {A : Option Addr} {n c : Nat} {l : List En} (h : kEnt.R TE w base ok (.slice A n c) l) : (A = none ∧ n = 0 ∧ c = 0) ∨ ∃ g, A = some ⟨g, 0, none⟩ := by
  obtain ⟨_, inner, ho, _⟩ := h
  rcases ho.2 with ⟨hv, _⟩ | ⟨g, cap', cur, hv, _⟩
  · injection hv with h1 h2 h3
    exact .inl ⟨h1, h2, h3⟩
  · injection hv with ha _ _
    exact .inr ⟨g, ha⟩
theorem same_ref (l : List Int) : decide (l = l) = true := decide_eq_true rfl
set_option maxHeartbeats 8000000 in
set_option maxRecDepth 100000 in
theorem SegmentCrash_any {w : World} {B : Option Addr} {e : Nat} (s : Int × Int × Int) {rs : List RecT} (sy : Int) (P : PlanT) (hP : PlanOk P) (hq : RRow w B rs) (h1 : rs.length ≤ 9223372036854775807) (hk : ∀ r ∈ rs, RecTOk r) :
    Calls Try.prog 3 #[.agg #[.int .i64 s.1, .int .i64 s.2.1, .int .i64 s.2.2], .slice B rs.length e, .int .i64 sy, .agg #[.int .u64 P.keep, .int .i64 P.torn, .int .i64 P.cut]] w fun e w' => e = .returned (.bool true) ∧ Below w.heap.size w w' := by
  obtain ⟨m, hm⟩ : ∃ m, m = rs.length := ⟨_, rfl⟩
  obtain ⟨W, hW⟩ : ∃ W, W = (w.alloc (.cells #[.int .i64 s.1, .int .i64 s.2.1, .int .i64 s.2.2] 23)).alloc (.cells #[.int .u64 P.keep, .int .i64 P.torn, .int .i64 P.cut] 27) := ⟨_, rfl⟩
  have q0 : W.heap[w.heap.size]? = some (.cells #[.int .i64 s.1, .int .i64 s.2.1, .int .i64 s.2.2] 23 (0, 0)) := by
    rw [hW]; exact (Below.heap_alloc _ _ _ (by simp)).trans (blk_new w _)
  have q1 : W.heap[w.heap.size + 1]? = some (.cells #[.int .u64 P.keep, .int .i64 P.torn, .int .i64 P.cut] 27 (0, 0)) := by
    rw [hW]; have := blk_new (w.alloc (.cells #[.int .i64 s.1, .int .i64 s.2.1, .int .i64 s.2.2] 23)) (.cells #[.int .u64 P.keep, .int .i64 P.torn, .int .i64 P.cut] 27); rwa [World.size_alloc] at this
  have qb : Below w.heap.size w W := by rw [hW]; exact below_alloc (below_alloc (Below.refl _ _) _) _
  have hbox : ∀ V : World, Below W.heap.size W V → V.cell? ⟨w.heap.size, 0, none⟩ = some (.int .i64 s.1) ∧ V.cell? ⟨w.heap.size, 1, none⟩ = some (.int .i64 s.2.1) ∧ V.cell? ⟨w.heap.size, 2, none⟩ = some (.int .i64 s.2.2) ∧ V.cell? ⟨w.heap.size + 1, 0, none⟩ = some (.int .u64 P.keep) ∧ V.cell? ⟨w.heap.size + 1, 1, none⟩ = some (.int .i64 P.torn) ∧ V.cell? ⟨w.heap.size + 1, 2, none⟩ = some (.int .i64 P.cut) := fun V hV => by
    have h0 := (hV.block w.heap.size (blt q0)).trans q0
    have h1 := (hV.block (w.heap.size + 1) (blt q1)).trans q1
    exact ⟨bcell h0 0, bcell h0 1, bcell h0 2, bcell h1 0, bcell h1 1, bcell h1 2⟩
  have hfew2 : ∀ V : World, Below W.heap.size W V → Calls Try.prog 9 #[.slice B m e] V fun e w' => e = .returned (.bool (fewR rs)) ∧ Below W.heap.size W w' := fun V hV => by
    rw [hm]
    exact (Few14_any ((hq.below qb).below hV) h1).mono fun e w' ⟨h1, h2⟩ => ⟨h1, hV.trans (h2.mono hV.size)⟩
  have HR := Lib.hid (hq.below qb)
  have HK := Lib.hid hk
  have HBOX := Lib.hid hbox
  have HFEW2 := Lib.hid hfew2
  have HW := Lib.hid hW
  have QB := Aside0.mk qb
  have HM := Lib.hid hm
  have HPO := Lib.hid hP
  rw [← hm] at h1
  rw [← hm]
  clear hq hk hm hbox hfew2 hW q0 q1 qb hP
  cases hf2 : fewR rs with
  | false =>
    have HF2 := Lib.hid hf2
    clear hf2
    go_enter Try.func3, Try.ntmps3
    go_wp2_with fail
    rw [← HW.out]
    go_wp2_with (first
      | (go_at_call 8; (with_reducible refine (Awake14_any _).mono ?_); rintro e w1 ⟨rfl, hb⟩; have HB1 := Aside0.mk hb; clear hb)
      | (go_at_call 9; (with_reducible refine (HFEW2.out _ HB1.out).mono ?_); rw [HF2.out]; rintro e w3 ⟨rfl, hb⟩; have HB3 := Aside0.mk hb; clear hb))
    go_ret
    exact ⟨rfl, QB.out.trans (HB3.out.mono QB.out.size)⟩
  | true =>
    have HF2 := Lib.hid hf2
    clear hf2
    cases hs : shapeB s with
    | false =>
      have HS := Lib.hid hs
      clear hs
      go_enter Try.func3, Try.ntmps3
      go_wp2_with fail
      rw [← HW.out]
      go_wp2_with (first
        | (go_at_call 8; (with_reducible refine (Awake14_any _).mono ?_); rintro e w1 ⟨rfl, hb⟩; have HB1 := Aside0.mk hb; clear hb)
        | (go_at_call 9; (with_reducible refine (HFEW2.out _ HB1.out).mono ?_); rw [HF2.out]; rintro e w3 ⟨rfl, hb⟩; obtain ⟨k1, k2, k3, k4, k5, k6⟩ := HBOX.out _ hb; have HB3 := Aside0.mk hb; clear hb)
        | (go_at_call 10; (with_reducible refine (RShape_any _ _).mono ?_); rw [HS.out]; rintro e w4 ⟨rfl, hb⟩; have HB4 := Aside0.mk (HB3.out.trans (hb.mono HB3.out.size)); clear hb))
      go_ret
      exact ⟨rfl, QB.out.trans (HB4.out.mono QB.out.size)⟩
    | true =>
      have HS := Lib.hid hs
      have hso := shapeB_ok hs
      have HSO := Lib.hid hso
      have a0 := hso.a0
      have b0 := hso.b0
      have b1 := hso.b1
      clear hs hso
      by_cases h2 : s.2.1 < 2
      · go_enter Try.func3, Try.ntmps3
        go_wp2_with fail
        rw [← HW.out]
        go_wp2_with (first
          | (go_at_call 8; (with_reducible refine (Awake14_any _).mono ?_); rintro e w1 ⟨rfl, hb⟩; have HB1 := Aside0.mk hb; clear hb)
          | (go_at_call 9; (with_reducible refine (HFEW2.out _ HB1.out).mono ?_); rw [HF2.out]; rintro e w3 ⟨rfl, hb⟩; obtain ⟨k1, k2, k3, k4, k5, k6⟩ := HBOX.out _ hb; have HB3 := Aside0.mk hb; clear hb)
          | (go_at_call 10; (with_reducible refine (RShape_any _ _).mono ?_); rw [HS.out]; rintro e w4 ⟨rfl, hb⟩; have HB4 := Aside0.mk (HB3.out.trans (hb.mono HB3.out.size)); clear hb k1 k2 k3 k4 k5 k6; obtain ⟨k1, k2, k3, k4, k5, k6⟩ := HBOX.out _ HB4.out))
        go_ret
        exact ⟨rfl, QB.out.trans (HB4.out.mono QB.out.size)⟩
      · obtain ⟨hm40, hm600⟩ := fewR_ok HF2.out
        rw [← HM.out] at hm40
        have H600 := Lib.hid hm600
        have e2 : decide (s.2.1 < 2) = false := decide_eq_false h2
        clear hm600
        have hnew := fun V : World => New_ok s HS.out V V.heap.size (Nat.le_refl _)
        have hst := fun (V : World) (N0 p : Nat) (h : Solo N0 p (fun _ => False) ⟨s, [], []⟩ V) => Start_F (seq := 5) (solo_frame N0 p) h 0 five_seq (by simp)
        rw [new_appE HSO.out] at hst
        simp only at hst
        have HNEW := Lib.hid hnew
        have HST := Lib.hid hst
        clear hnew hst
        go_enter Try.func3, Try.ntmps3
        go_wp2_with fail
        rw [← HW.out]
        go_wp2_with (first
          | (go_at_call 8; (with_reducible refine (Awake14_any _).mono ?_); rintro e w1 ⟨rfl, hb⟩; have HB1 := Aside0.mk hb; clear hb)
          | (go_at_call 9; (with_reducible refine (HFEW2.out _ HB1.out).mono ?_); rw [HF2.out]; rintro e w3 ⟨rfl, hb⟩; obtain ⟨k1, k2, k3, k4, k5, k6⟩ := HBOX.out _ hb; have HB3 := Aside0.mk hb; clear hb)
          | (go_at_call 10; (with_reducible refine (RShape_any _ _).mono ?_); rw [HS.out]; rintro e w4 ⟨rfl, hb⟩; have HB4 := Aside0.mk (HB3.out.trans (hb.mono HB3.out.size)); clear hb k1 k2 k3 k4 k5 k6; obtain ⟨k1, k2, k3, k4, k5, k6⟩ := HBOX.out _ HB4.out)
          | (go_at_call 11; (with_reducible refine (HNEW.out _).mono ?_); rintro e w5 ⟨p, rfl, hd, hb⟩; have HD5 := Aside0.mk (Solo.new (Nat.le_refl _) hd hb); have HB5 := Aside0.mk hb; clear hd hb k1 k2 k3 k4 k5 k6)
          | (go_at_call 12; (with_reducible refine (HST.out _ _ _ HD5.out).mono ?_); rintro e w6 ⟨rfl, hd, hb, -⟩; have HD6 := Aside0.mk hd; have HB6 := Aside0.mk (HB5.out.trans hb); clear hd hb))
        have hci : CI W w4 p s 0 1 (.int .i64 (-1)) (.slice none 0 0) w6 (startD s) (appP s [] 0 0 0 (rec 1 5 [])) [] := by
          refine ⟨(solo_frame _ _).less HD6.out (fun k h => by simp [Value.ownBlock] at h), Kd.R_nil _ _ _ _ _, start_laid HSO.out, appD_s _ _ _ _ _, (Sim.new s).app 0 0 _ _, ?_, BytD.app (D := ⟨s, [], []⟩) HSO.out (BytD.new s) 0 0 _ (rec_byt (seq := 5) one_kind Byt.nil), (fun x hx => by cases hx), Nat.le_refl _, HB6.out, .inl rfl⟩
          have := appP_len HSO.out [] 0 0 0 (rec_len 1 5 [])
          simp at this
          omega
        have HCI := Aside0.mk hci
        clear hci
        go_loopw [11, 12, 13, 56] (fun v11 v12 v13 v56 wr => ∃ (k : Nat) (pg : Int) (D : PD) (ps : List Pg) (want : List RecV), k ≤ m ∧ v56 = .int .i64 (k : Int) ∧ v11 = .int .i64 pg ∧ CI W w4 p s k pg v12 v13 wr D ps want) (fun _ _ _ v56 _ => m - (intOf v56).toNat)
        case atStart => exact ⟨0, 1, _, _, _, Nat.zero_le _, rfl, rfl, HCI.out⟩
        case round =>
          obtain ⟨k, pg, D, ps, want, hk, rfl, rfl, hci⟩ := hrel
          have HC := Aside0.mk hci
          have HB := Aside0.mk (HB4.out.trans (hci.bel.mono HB4.out.size))
          clear hci
          obtain ⟨A13, c13, rfl, hcap, -⟩ := VRow.ofR HC.out.row
          by_cases hlt : k < m
          · obtain ⟨r, hd⟩ : ∃ r, rs[k]? = some r := ⟨_, List.getElem?_eq_getElem (by have := HM.out; omega)⟩
            obtain ⟨ad, A1, c1, hA, hc⟩ := HR.out k r hd
            have hrow0 := hc.row
            have hcp := hc.cap
            have hc := hc.below HB.out
            subst hA
            have d0 := hc.c0; have d1 := hc.c1; have d2 := hc.c2; have d3 := hc.c3; have d4 := hc.c4
            have hrok := HK.out r (List.mem_of_getElem? hd)
            have hr600 := H600.out r (List.mem_of_getElem? hd)
            have k0 : (0 : Int) ≤ (k : Int) := by omega
            have k2 : (k : Int) < (m : Int) := by omega
            clear hd hc
            obtain ⟨ra, rb, rq, rk, dl⟩ := r
            simp only at d0 d1 d2 d3 d4 hrow0 hcp hr600
            have hwok : WOk W ((⟨ra, rb, rq, rk, dl⟩ : RecT), A1, c1) := ⟨hrow0, hcp, hr600, ⟨hrok.kd, five_seq, hrok.byt, by simp only; omega⟩⟩
            have WOKX := Aside0.mk hwok
            have RKD := Lib.hid (show KindOk rk from hrok.kd)
            have RBY := Lib.hid (show Byt dl from hrok.byt)
            have CAP := Lib.hid hcp
            have R600 := Lib.hid hr600
            have ROW0 := Aside0.mk hrow0
            clear hrow0 hcp hr600 hwok hrok
            obtain ⟨Y, hY⟩ : ∃ Y, Y = wr.alloc (.cells #[.int .i64 ra, .int .i64 rb, .int .u64 rq, .int .u8 rk, .slice A1 dl.length c1] TR) := ⟨_, rfl⟩
            have y0 : Y.heap[wr.heap.size]? = some (.cells #[.int .i64 ra, .int .i64 rb, .int .u64 rq, .int .u8 rk, .slice A1 dl.length c1] TR (0, 0)) := by rw [hY]; exact blk_new wr _
            have yb : Below wr.heap.size wr Y := by rw [hY]; exact below_alloc (Below.refl _ _) _
            have hSY := (solo_frame _ _).keep HC.out.solo yb
            have hCY := HC.out.move ((solo_frame _ _).below HC.out.solo yb) (fun j hj => yb.block j ((solo_frame _ _).lt HC.out.solo j hj)) (HC.out.bel.trans (yb.mono HC.out.bel.size))
            have hkb : some wr.heap.size = (Value.slice A13 want.length c13).ownBlock ∨ (wr.heap.size ≤ wr.heap.size ∧ wr.heap.size < Y.heap.size) := .inr ⟨Nat.le_refl _, blt y0⟩
            have HY := Lib.hid hY
            have Y0 := Lib.hid y0
            have HSY := Aside0.mk hSY
            have HCY := Aside0.mk hCY
            have HKB := Lib.hid hkb
            have hpg := HC.out.laid.chain.le
            have hsD := HC.out.sh
            clear hY y0 yb hSY hCY hkb
            by_cases hsy : (k : Int) = sy
            · have e3 : ((k : Int) == sy) = true := by simpa using hsy
              have HSYC := Lib.hid HSY.out.sync
              clear hsy
              go_wp2_with fail
              rw [← HY.out]
              have hy0 := Y0.out
              have y0 : Y.cell? ⟨wr.heap.size, 0, none⟩ = some (.int .i64 ra) := bcell hy0 0
              have y1 : Y.cell? ⟨wr.heap.size, 1, none⟩ = some (.int .i64 rb) := bcell hy0 1
              have y2 : Y.cell? ⟨wr.heap.size, 2, none⟩ = some (.int .u64 rq) := bcell hy0 2
              have y3 : Y.cell? ⟨wr.heap.size, 3, none⟩ = some (.int .u8 rk) := bcell hy0 3
              have y4 : Y.cell? ⟨wr.heap.size, 4, none⟩ = some (.slice A1 dl.length c1) := bcell hy0 4
              clear hy0 d0 d1 d2 d3 d4
              have hap := fun (V : World) (hV : Solo w4.heap.size p (fun j => some j = (Value.slice A13 want.length c13).ownBlock ∨ (wr.heap.size ≤ j ∧ j < Y.heap.size)) { D with dirty := [] } V) (hC : kB.C V A1 dl.length dl) => Append_F (kind := rk) (seq := 5) (solo_frame w4.heap.size p) hV 0 pg RKD.out five_seq RBY.out hC CAP.out (by have := R600.out; omega) (by simp)
              obtain ⟨Dn, hDn⟩ : ∃ E, E = appD { D with dirty := [] } 0 pg dl.length (rec rk 5 dl) := ⟨_, rfl⟩
              rw [← hDn] at hap
              have hzz : ∀ a, a = (appE { D with dirty := [] } 0 pg dl.length) → a.2 = 0 → a = ((kpg s dl.length : Int), 0) ∧ pg + (kpg s dl.length : Int) ≤ s.2.1 := fun a ha h0 => by
                rw [ha] at h0 ⊢
                have hh := (appE_zero 0 pg dl.length).1 h0
                have h1 := appE_one h0
                have h5 := hh.2.2.1
                change pg + (kpg D.s dl.length : Int) ≤ D.s.2.1 at h5
                rw [hsD] at h5
                exact ⟨h1.trans (congrArg (fun q => ((kpg q dl.length : Int), (0 : Int))) hsD), h5⟩
              have hno : ∀ a, a = (appE { D with dirty := [] } 0 pg dl.length) → a.2 ≠ 0 → Dn = { D with dirty := [] } := fun a ha h0 => by rw [hDn]; exact appD_no (by rw [← ha]; exact h0)
              obtain ⟨⟨p1, p2⟩, hp12⟩ : ∃ a, a = (appE { D with dirty := [] } 0 pg dl.length) := ⟨_, rfl⟩
              rw [← hp12] at hap
              have hzz := hzz _ hp12
              have hno := hno _ hp12
              have hz0 : p2 = 0 → (appE { D with dirty := [] } 0 pg dl.length).2 = 0 := fun h => by rw [← hp12]; exact h
              simp only at hap hzz hno
              have HAP := Lib.hid hap
              have HZZ := Lib.hid hzz
              have HNO := Lib.hid hno
              have HZ0 := Lib.hid hz0
              have HDN := Lib.hid hDn
              clear hap hzz hno hz0 hDn hp12
              by_cases hz : p2 = 0
              · obtain ⟨he, hle⟩ := HZZ.out hz
                obtain ⟨rfl, -⟩ := Prod.mk.inj he
                subst hz
                clear he
                by_cases hk1 : rk = 1
                · have e4 : (rk == 1) = true := by simpa using hk1
                  clear hk1
                  go_wp2_with (first
                    | (go_at_call 13; (with_reducible refine HSYC.out.mono ?_); rintro e z1 ⟨rfl, hS, hb, hk⟩; have hx := (hk _ HKB.out).trans Y0.out; have HS1 := Aside0.mk hS; have HC1 := Aside0.mk (HCY.out.sync ((solo_frame _ _).less hS (fun j hj => .inl hj)) (fun j hj => hk j (.inl hj)) (HCY.out.bel.trans hb)); have X1 := Lib.hid hx; clear hS hb hk y0 y1 y2 y3 y4; have y0 : z1.cell? ⟨wr.heap.size, 0, none⟩ = some (.int .i64 ra) := bcell hx 0; have y1 : z1.cell? ⟨wr.heap.size, 1, none⟩ = some (.int .i64 rb) := bcell hx 1; have y2 : z1.cell? ⟨wr.heap.size, 2, none⟩ = some (.int .u64 rq) := bcell hx 2; have y3 : z1.cell? ⟨wr.heap.size, 3, none⟩ = some (.int .u8 rk) := bcell hx 3; have y4 : z1.cell? ⟨wr.heap.size, 4, none⟩ = some (.slice A1 dl.length c1) := bcell hx 4; clear hx)
                    | (go_at_call 14; (with_reducible refine (HAP.out _ HS1.out (Kd.C_below ROW0.out (HB4.out.trans (HC1.out.bel.mono HB4.out.size)))).mono ?_); rintro e z7 ⟨rfl, hS, hb, hk⟩; have hx := (hk _ HKB.out).trans X1.out; have HS7 := Aside0.mk ((solo_frame _ _).less hS (fun j hj => .inl hj)); have HK7 := Lib.hid (fun j hj => hk j (.inl hj)); have HB7 := Aside0.mk (HC1.out.bel.trans hb); clear hS hb hk y0 y1 y2 y3 y4; have y0 : z7.cell? ⟨wr.heap.size, 0, none⟩ = some (.int .i64 ra) := bcell hx 0; have y1 : z7.cell? ⟨wr.heap.size, 1, none⟩ = some (.int .i64 rb) := bcell hx 1; have y2 : z7.cell? ⟨wr.heap.size, 2, none⟩ = some (.int .u64 rq) := bcell hx 2; have y3 : z7.cell? ⟨wr.heap.size, 3, none⟩ = some (.int .u8 rk) := bcell hx 3; have y4 : z7.cell? ⟨wr.heap.size, 4, none⟩ = some (.slice A1 dl.length c1) := bcell hx 4; clear hx))
                  go_ret
                  exact ⟨rfl, QB.out.trans ((HB4.out.trans (HB7.out.mono HB4.out.size)).mono QB.out.size)⟩
                · have e4 : (rk == 1) = false := by simpa using hk1
                  have hw3 : IntKind.i64.wrap (pg + (kpg s dl.length : Int)) = pg + (kpg s dl.length : Int) := IntWalk.i64_in _ (by omega)
                  have HK1 := Lib.hid hk1
                  clear hk1
                  go_wp2_with (first
                    | (go_at_call 13; (with_reducible refine HSYC.out.mono ?_); rintro e z1 ⟨rfl, hS, hb, hk⟩; have hx := (hk _ HKB.out).trans Y0.out; have HS1 := Aside0.mk hS; have HC1 := Aside0.mk (HCY.out.sync ((solo_frame _ _).less hS (fun j hj => .inl hj)) (fun j hj => hk j (.inl hj)) (HCY.out.bel.trans hb)); have X1 := Lib.hid hx; clear hS hb hk y0 y1 y2 y3 y4; have y0 : z1.cell? ⟨wr.heap.size, 0, none⟩ = some (.int .i64 ra) := bcell hx 0; have y1 : z1.cell? ⟨wr.heap.size, 1, none⟩ = some (.int .i64 rb) := bcell hx 1; have y2 : z1.cell? ⟨wr.heap.size, 2, none⟩ = some (.int .u64 rq) := bcell hx 2; have y3 : z1.cell? ⟨wr.heap.size, 3, none⟩ = some (.int .u8 rk) := bcell hx 3; have y4 : z1.cell? ⟨wr.heap.size, 4, none⟩ = some (.slice A1 dl.length c1) := bcell hx 4; clear hx)
                    | (go_at_call 14; (with_reducible refine (HAP.out _ HS1.out (Kd.C_below ROW0.out (HB4.out.trans (HC1.out.bel.mono HB4.out.size)))).mono ?_); rintro e z7 ⟨rfl, hS, hb, hk⟩; have hx := (hk _ HKB.out).trans X1.out; have HS7 := Aside0.mk ((solo_frame _ _).less hS (fun j hj => .inl hj)); have HK7 := Lib.hid (fun j hj => hk j (.inl hj)); have HB7 := Aside0.mk (HC1.out.bel.trans hb); clear hS hb hk y0 y1 y2 y3 y4; have y0 : z7.cell? ⟨wr.heap.size, 0, none⟩ = some (.int .i64 ra) := bcell hx 0; have y1 : z7.cell? ⟨wr.heap.size, 1, none⟩ = some (.int .i64 rb) := bcell hx 1; have y2 : z7.cell? ⟨wr.heap.size, 2, none⟩ = some (.int .u64 rq) := bcell hx 2; have y3 : z7.cell? ⟨wr.heap.size, 3, none⟩ = some (.int .u8 rk) := bcell hx 3; have y4 : z7.cell? ⟨wr.heap.size, 4, none⟩ = some (.slice A1 dl.length c1) := bcell hx 4; clear hx)
                    | (at_builtin; refine Kd.R_append kRec (w0 := w4) w4.heap.size rfl (.tmp 86) (.tmp 88) 24 TR (.agg #[.int .i64 0, .int .i64 0, .int .u64 0, .int .u8 0, .slice none 0 0]) 56 rfl Try.underlying24 info_rec rfl (by decide) (by decide) (.slice A13 want.length c13) want ((⟨ra, rb, rq, rk, dl⟩ : RecT), A1, c1) (recC ((⟨ra, rb, rq, rk, dl⟩ : RecT), A1, c1)) (fun _ => True) (fun _ => False) rfl (by simp [Act.eval]) rfl (fun k h => h.elim) (fun _ _ => trivial) (rec_wide (rec_kept HC1.out.row HK7.out)) HB7.out HB7.out.size (by have := HC1.out.wl; omega) ?_; intro v1 z8 hr8 hb8 hg8 hat8; have HR8 := Aside0.mk hr8; have HB8 := Aside0.mk hb8; have HG8 := Aside0.mk hg8; have HAT := Lib.hid hat8; clear hr8 hb8 hg8 hat8))
                  have hS7 := HS7.out
                  rw [HDN.out] at hS7
                  exact ⟨⟨k + 1, _, _, _, _, by omega, by go_num, rfl, CI.app HSO.out HC1.out WOKX.out HK1.out (HZ0.out (by trivial)) hS7 HK7.out HR8.out HB8.out HG8.out HAT.out⟩, by simp [intOf]; omega⟩
              · have e4 : (p2 != 0) = true := bne_iff_ne.2 hz
                have HZN := Lib.hid (HNO.out hz)
                clear hz
                go_wp2_with (first
                  | (go_at_call 13; (with_reducible refine HSYC.out.mono ?_); rintro e z1 ⟨rfl, hS, hb, hk⟩; have hx := (hk _ HKB.out).trans Y0.out; have HS1 := Aside0.mk hS; have HC1 := Aside0.mk (HCY.out.sync ((solo_frame _ _).less hS (fun j hj => .inl hj)) (fun j hj => hk j (.inl hj)) (HCY.out.bel.trans hb)); have X1 := Lib.hid hx; clear hS hb hk y0 y1 y2 y3 y4; have y0 : z1.cell? ⟨wr.heap.size, 0, none⟩ = some (.int .i64 ra) := bcell hx 0; have y1 : z1.cell? ⟨wr.heap.size, 1, none⟩ = some (.int .i64 rb) := bcell hx 1; have y2 : z1.cell? ⟨wr.heap.size, 2, none⟩ = some (.int .u64 rq) := bcell hx 2; have y3 : z1.cell? ⟨wr.heap.size, 3, none⟩ = some (.int .u8 rk) := bcell hx 3; have y4 : z1.cell? ⟨wr.heap.size, 4, none⟩ = some (.slice A1 dl.length c1) := bcell hx 4; clear hx)
                  | (go_at_call 14; (with_reducible refine (HAP.out _ HS1.out (Kd.C_below ROW0.out (HB4.out.trans (HC1.out.bel.mono HB4.out.size)))).mono ?_); rintro e z7 ⟨rfl, hS, hb, hk⟩; have hx := (hk _ HKB.out).trans X1.out; have HS7 := Aside0.mk ((solo_frame _ _).less hS (fun j hj => .inl hj)); have HK7 := Lib.hid (fun j hj => hk j (.inl hj)); have HB7 := Aside0.mk (HC1.out.bel.trans hb); clear hS hb hk y0 y1 y2 y3 y4; have y0 : z7.cell? ⟨wr.heap.size, 0, none⟩ = some (.int .i64 ra) := bcell hx 0; have y1 : z7.cell? ⟨wr.heap.size, 1, none⟩ = some (.int .i64 rb) := bcell hx 1; have y2 : z7.cell? ⟨wr.heap.size, 2, none⟩ = some (.int .u64 rq) := bcell hx 2; have y3 : z7.cell? ⟨wr.heap.size, 3, none⟩ = some (.int .u8 rk) := bcell hx 3; have y4 : z7.cell? ⟨wr.heap.size, 4, none⟩ = some (.slice A1 dl.length c1) := bcell hx 4; clear hx))
                have hS7 := HS7.out
                rw [HZN.out] at hS7
                exact ⟨⟨k + 1, pg, _, _, want, by omega, by go_num, rfl, (HC1.out.move hS7 HK7.out HB7.out).mono⟩, by simp [intOf]; omega⟩
            · have e3 : ((k : Int) == sy) = false := by simpa using hsy
              clear hsy
              go_wp2_with fail
              rw [← HY.out]
              have hy0 := Y0.out
              have y0 : Y.cell? ⟨wr.heap.size, 0, none⟩ = some (.int .i64 ra) := bcell hy0 0
              have y1 : Y.cell? ⟨wr.heap.size, 1, none⟩ = some (.int .i64 rb) := bcell hy0 1
              have y2 : Y.cell? ⟨wr.heap.size, 2, none⟩ = some (.int .u64 rq) := bcell hy0 2
              have y3 : Y.cell? ⟨wr.heap.size, 3, none⟩ = some (.int .u8 rk) := bcell hy0 3
              have y4 : Y.cell? ⟨wr.heap.size, 4, none⟩ = some (.slice A1 dl.length c1) := bcell hy0 4
              clear hy0 d0 d1 d2 d3 d4
              have hap := fun (V : World) (hV : Solo w4.heap.size p (fun j => some j = (Value.slice A13 want.length c13).ownBlock ∨ (wr.heap.size ≤ j ∧ j < Y.heap.size)) D V) (hC : kB.C V A1 dl.length dl) => Append_F (kind := rk) (seq := 5) (solo_frame w4.heap.size p) hV 0 pg RKD.out five_seq RBY.out hC CAP.out (by have := R600.out; omega) (by have := HC.out.sim.dirtyLe; have := HC.out.len; omega)
              obtain ⟨Dn, hDn⟩ : ∃ E, E = appD D 0 pg dl.length (rec rk 5 dl) := ⟨_, rfl⟩
              rw [← hDn] at hap
              have hzz : ∀ a, a = (appE D 0 pg dl.length) → a.2 = 0 → a = ((kpg s dl.length : Int), 0) ∧ pg + (kpg s dl.length : Int) ≤ s.2.1 := fun a ha h0 => by
                rw [ha] at h0 ⊢
                have hh := (appE_zero 0 pg dl.length).1 h0
                have h1 := appE_one h0
                have h5 := hh.2.2.1
                change pg + (kpg D.s dl.length : Int) ≤ D.s.2.1 at h5
                rw [hsD] at h5
                exact ⟨h1.trans (congrArg (fun q => ((kpg q dl.length : Int), (0 : Int))) hsD), h5⟩
              have hno : ∀ a, a = (appE D 0 pg dl.length) → a.2 ≠ 0 → Dn = D := fun a ha h0 => by rw [hDn]; exact appD_no (by rw [← ha]; exact h0)
              obtain ⟨⟨p1, p2⟩, hp12⟩ : ∃ a, a = (appE D 0 pg dl.length) := ⟨_, rfl⟩
              rw [← hp12] at hap
              have hzz := hzz _ hp12
              have hno := hno _ hp12
              have hz0 : p2 = 0 → (appE D 0 pg dl.length).2 = 0 := fun h => by rw [← hp12]; exact h
              simp only at hap hzz hno
              have HAP := Lib.hid hap
              have HZZ := Lib.hid hzz
              have HNO := Lib.hid hno
              have HZ0 := Lib.hid hz0
              have HDN := Lib.hid hDn
              clear hap hzz hno hz0 hDn hp12
              by_cases hz : p2 = 0
              · obtain ⟨he, hle⟩ := HZZ.out hz
                obtain ⟨rfl, -⟩ := Prod.mk.inj he
                subst hz
                clear he
                by_cases hk1 : rk = 1
                · have e4 : (rk == 1) = true := by simpa using hk1
                  clear hk1
                  go_wp2_with (first
                    | (go_at_call 14; (with_reducible refine (HAP.out _ HSY.out (Kd.C_below ROW0.out (HB4.out.trans (HCY.out.bel.mono HB4.out.size)))).mono ?_); rintro e z7 ⟨rfl, hS, hb, hk⟩; have hx := (hk _ HKB.out).trans Y0.out; have HS7 := Aside0.mk ((solo_frame _ _).less hS (fun j hj => .inl hj)); have HK7 := Lib.hid (fun j hj => hk j (.inl hj)); have HB7 := Aside0.mk (HCY.out.bel.trans hb); clear hS hb hk y0 y1 y2 y3 y4; have y0 : z7.cell? ⟨wr.heap.size, 0, none⟩ = some (.int .i64 ra) := bcell hx 0; have y1 : z7.cell? ⟨wr.heap.size, 1, none⟩ = some (.int .i64 rb) := bcell hx 1; have y2 : z7.cell? ⟨wr.heap.size, 2, none⟩ = some (.int .u64 rq) := bcell hx 2; have y3 : z7.cell? ⟨wr.heap.size, 3, none⟩ = some (.int .u8 rk) := bcell hx 3; have y4 : z7.cell? ⟨wr.heap.size, 4, none⟩ = some (.slice A1 dl.length c1) := bcell hx 4; clear hx))
                  go_ret
                  exact ⟨rfl, QB.out.trans ((HB4.out.trans (HB7.out.mono HB4.out.size)).mono QB.out.size)⟩
                · have e4 : (rk == 1) = false := by simpa using hk1
                  have hw3 : IntKind.i64.wrap (pg + (kpg s dl.length : Int)) = pg + (kpg s dl.length : Int) := IntWalk.i64_in _ (by omega)
                  have HK1 := Lib.hid hk1
                  clear hk1
                  go_wp2_with (first
                    | (go_at_call 14; (with_reducible refine (HAP.out _ HSY.out (Kd.C_below ROW0.out (HB4.out.trans (HCY.out.bel.mono HB4.out.size)))).mono ?_); rintro e z7 ⟨rfl, hS, hb, hk⟩; have hx := (hk _ HKB.out).trans Y0.out; have HS7 := Aside0.mk ((solo_frame _ _).less hS (fun j hj => .inl hj)); have HK7 := Lib.hid (fun j hj => hk j (.inl hj)); have HB7 := Aside0.mk (HCY.out.bel.trans hb); clear hS hb hk y0 y1 y2 y3 y4; have y0 : z7.cell? ⟨wr.heap.size, 0, none⟩ = some (.int .i64 ra) := bcell hx 0; have y1 : z7.cell? ⟨wr.heap.size, 1, none⟩ = some (.int .i64 rb) := bcell hx 1; have y2 : z7.cell? ⟨wr.heap.size, 2, none⟩ = some (.int .u64 rq) := bcell hx 2; have y3 : z7.cell? ⟨wr.heap.size, 3, none⟩ = some (.int .u8 rk) := bcell hx 3; have y4 : z7.cell? ⟨wr.heap.size, 4, none⟩ = some (.slice A1 dl.length c1) := bcell hx 4; clear hx)
                    | (at_builtin; refine Kd.R_append kRec (w0 := w4) w4.heap.size rfl (.tmp 86) (.tmp 88) 24 TR (.agg #[.int .i64 0, .int .i64 0, .int .u64 0, .int .u8 0, .slice none 0 0]) 56 rfl Try.underlying24 info_rec rfl (by decide) (by decide) (.slice A13 want.length c13) want ((⟨ra, rb, rq, rk, dl⟩ : RecT), A1, c1) (recC ((⟨ra, rb, rq, rk, dl⟩ : RecT), A1, c1)) (fun _ => True) (fun _ => False) rfl (by simp [Act.eval]) rfl (fun k h => h.elim) (fun _ _ => trivial) (rec_wide (rec_kept HCY.out.row HK7.out)) HB7.out HB7.out.size (by have := HCY.out.wl; omega) ?_; intro v1 z8 hr8 hb8 hg8 hat8; have HR8 := Aside0.mk hr8; have HB8 := Aside0.mk hb8; have HG8 := Aside0.mk hg8; have HAT := Lib.hid hat8; clear hr8 hb8 hg8 hat8))
                  have hS7 := HS7.out
                  rw [HDN.out] at hS7
                  exact ⟨⟨k + 1, _, _, _, _, by omega, by go_num, rfl, CI.app HSO.out HCY.out WOKX.out HK1.out (HZ0.out (by trivial)) hS7 HK7.out HR8.out HB8.out HG8.out HAT.out⟩, by simp [intOf]; omega⟩
              · have e4 : (p2 != 0) = true := bne_iff_ne.2 hz
                have HZN := Lib.hid (HNO.out hz)
                clear hz
                go_wp2_with (first
                  | (go_at_call 14; (with_reducible refine (HAP.out _ HSY.out (Kd.C_below ROW0.out (HB4.out.trans (HCY.out.bel.mono HB4.out.size)))).mono ?_); rintro e z7 ⟨rfl, hS, hb, hk⟩; have hx := (hk _ HKB.out).trans Y0.out; have HS7 := Aside0.mk ((solo_frame _ _).less hS (fun j hj => .inl hj)); have HK7 := Lib.hid (fun j hj => hk j (.inl hj)); have HB7 := Aside0.mk (HCY.out.bel.trans hb); clear hS hb hk y0 y1 y2 y3 y4; have y0 : z7.cell? ⟨wr.heap.size, 0, none⟩ = some (.int .i64 ra) := bcell hx 0; have y1 : z7.cell? ⟨wr.heap.size, 1, none⟩ = some (.int .i64 rb) := bcell hx 1; have y2 : z7.cell? ⟨wr.heap.size, 2, none⟩ = some (.int .u64 rq) := bcell hx 2; have y3 : z7.cell? ⟨wr.heap.size, 3, none⟩ = some (.int .u8 rk) := bcell hx 3; have y4 : z7.cell? ⟨wr.heap.size, 4, none⟩ = some (.slice A1 dl.length c1) := bcell hx 4; clear hx))
                have hS7 := HS7.out
                rw [HZN.out] at hS7
                exact ⟨⟨k + 1, pg, _, _, want, by omega, by go_num, rfl, (HCY.out.move hS7 HK7.out HB7.out).mono⟩, by simp [intOf]; omega⟩
          · obtain rfl : k = m := by omega
            have hsd := (solo_frame _ _).sound HC.out.solo
            have hsc := (solo_frame _ _).scan HC.out.solo HC.out.byt 0
            rw [HC.out.laid.scan hsd HC.out.byt, HC.out.sh] at hsc
            obtain ⟨l, hl⟩ : ∃ l, l = entsL s 0 5 1 (recsOf want) := ⟨_, rfl⟩
            have hll : l.length = want.length := by rw [hl, entsL_len, recsOf_len]
            rw [← hl] at hsc
            obtain ⟨A', c', hA', -, hV⟩ := VRow.ofR HC.out.row
            cases hA'
            obtain ⟨okD, hD⟩ := (solo_frame _ _).dev HC.out.solo
            have hnd : Nodup D.mp := by
              obtain ⟨_, _, _, _, h⟩ := hD
              exact h.nodup
            have hwl : want.length ≤ 40 := Nat.le_trans HC.out.wl hm40
            obtain ⟨wl, hwle⟩ : ∃ wl, wl = want.length := ⟨_, rfl⟩
            rw [← hwle] at hll hwl
            rw [← hwle]
            have HSC := Lib.hid hsc
            have HL := Lib.hid hl
            have HLL := Lib.hid hll
            have HV := Lib.hid hV
            have HD := Aside0.mk hD
            have HND := Lib.hid hnd
            have HSD := Lib.hid hsd
            have HWL := Lib.hid hwle
            have ewl : ((wl : Int) != (wl : Int)) = false := by simp
            clear hsc hl hll hV hD hnd hsd hwle hcap
            go_wp2_with (go_at_call 15; (with_reducible refine HSC.out.mono ?_); rintro e z1 ⟨v1, rfl, hR, hb⟩; obtain ⟨E1, f1, rfl, hcp, hE⟩ := ERow.ofR hR; rw [HLL.out] at hR hcp ⊢; have HR1 := Aside0.mk hR; have HE1 := Lib.hid hE; have HZ1 := Aside0.mk hb; have HCP := Lib.hid hcp; clear hR hE hb hcp)
            go_loopw [108] (fun v108 wr2 => ∃ i : Nat, i ≤ wl ∧ v108 = .int .i64 (i : Int) ∧ Below z1.heap.size z1 wr2) (fun v108 _ => wl - (intOf v108).toNat)
            case atStart => exact ⟨0, Nat.zero_le _, rfl, Below.refl _ _⟩
            case round =>
              obtain ⟨i, hi, rfl, hb2⟩ := hrel
              have HB2 := Aside0.mk hb2
              clear hb2
              by_cases hlt2 : i < wl
              · obtain ⟨e0, he⟩ : ∃ e, l[i]? = some e := ⟨_, List.getElem?_eq_getElem (by have := HLL.out; omega)⟩
                obtain ⟨x, hx, hkd, hdt⟩ := entsL_get s want 1 i e0 (by rw [← HL.out]; exact he)
                obtain ⟨g, A1, c1, hA, hec⟩ := HE1.out i e0 he
                obtain ⟨g2, hB, hvc⟩ := HV.out i x hx
                have hwk := HC.out.wok x (List.mem_of_getElem? hx)
                have hec := hec.below HB2.out
                have hvc := hvc.below (HZ1.out.trans (HB2.out.mono HZ1.out.size))
                have hwr := Kd.C_below hwk.row (HB.out.trans ((HZ1.out.trans (HB2.out.mono HZ1.out.size)).mono HB.out.size))
                have hwn := hwk.len
                obtain ⟨⟨ra, rb, rq, rk, dl⟩, A2, c2⟩ := x
                obtain ⟨ea, eb, esq, epg, ekd, edl⟩ := e0
                simp only at hkd hdt hwr hwn
                subst hkd hdt
                have d0 := hec.c0; have d1 := hec.c1; have d2 := hec.c2; have d3 := hec.c3; have d4 := hec.c4; have d5 := hec.c5
                have o3 := hvc.c3; have o4 := hvc.c4
                simp only at d0 d1 d2 d3 d4 d5 o3 o4
                have her := hec.row
                simp only at her
                subst hA hB
                obtain ⟨Y, hY⟩ : ∃ Y, Y = wr.alloc (.cells #[.int .i64 ea, .int .i64 eb, .int .u64 esq, .int .i64 epg, .int .u8 ekd, .slice A1 edl.length c1] TE) := ⟨_, rfl⟩
                have y0 : Y.heap[wr.heap.size]? = some (.cells #[.int .i64 ea, .int .i64 eb, .int .u64 esq, .int .i64 epg, .int .u8 ekd, .slice A1 edl.length c1] TE (0, 0)) := by rw [hY]; exact blk_new wr _
                have yb : Below wr.heap.size wr Y := by rw [hY]; exact below_alloc (Below.refl _ _) _
                have hall := fun (X : World) (hX : Below Y.heap.size Y X) => show X.cell? ⟨wr.heap.size, 4, none⟩ = some (.int .u8 ekd) ∧ X.cell? ⟨wr.heap.size, 5, none⟩ = some (.slice A1 edl.length c1) ∧ X.cell? ⟨g2, i * 5 + 3, none⟩ = some (.int .u8 ekd) ∧ X.cell? ⟨g2, i * 5 + 4, none⟩ = some (.slice A2 edl.length c2) from
                  ⟨bcell ((hX.block _ (blt y0)).trans y0) 4, bcell ((hX.block _ (blt y0)).trans y0) 5, ((hvc.below yb).below hX).c3, ((hvc.below yb).below hX).c4⟩
                have hsm := fun (X : World) (hX : Below Y.heap.size Y X) => Same_any (c := c1) (d := c2) (Kd.C_below (Kd.C_below her yb) hX) (Kd.C_below (Kd.C_below hwr yb) hX) (by omega) (by omega)
                rw [same_ref] at hsm
                have ekk : (ekd != ekd) = false := by simp
                have k0 : (0 : Int) ≤ (i : Int) := by omega
                have k2 : (i : Int) < (wl : Int) := by omega
                have HY := Lib.hid hY
                have YB := Aside0.mk yb
                have HALL := Lib.hid hall
                have HSM := Lib.hid hsm
                clear hY y0 yb hall hsm hec hvc hwr hwn her he hx hwk
                go_wp2_with fail
                rw [← HY.out]
                clear d0 d1 d2 d3 d4 d5 o3 o4
                obtain ⟨j1, j2, j3, j4⟩ := HALL.out Y (Below.refl _ _)
                go_region_held3 (fun w' => w'.cell? ⟨wr.heap.size, 4, none⟩ = some (.int .u8 ekd) ∧ w'.cell? ⟨wr.heap.size, 5, none⟩ = some (.slice A1 edl.length c1) ∧ w'.cell? ⟨g2, i * 5 + 3, none⟩ = some (.int .u8 ekd) ∧ w'.cell? ⟨g2, i * 5 + 4, none⟩ = some (.slice A2 edl.length c2)) (first | go_keep | exact HALL.out _ HB3.out)
                  (first | (go_at_call 16; (with_reducible refine (HSM.out _ (below_drew (Below.refl _ _))).mono ?_); rintro e z2 ⟨rfl, hb⟩; have HB3 := Aside0.mk (undrew hb); clear hb))
                go_wp2
                exact ⟨⟨i + 1, by omega, by go_num, HB2.out.trans ((YB.out.trans (HB3.out.mono YB.out.size)).mono HB2.out.size)⟩, by simp [intOf]; omega⟩
              · obtain rfl : i = wl := by omega
                have hz := HZ1.out.trans (HB2.out.mono HZ1.out.size)
                have HZ := Aside0.mk hz
                have hdr := Dirty_any (HD.out.below hz)
                have HDR := Lib.hid hdr
                clear hz hdr
                by_cases h64 : 64 < D.dirty.length
                · have e5 : decide ((64 : Int) < (D.dirty.length : Int)) = true := by simp; omega
                  go_wp2_with (go_at_call 17; (with_reducible refine HDR.out.mono ?_); rintro e z2 ⟨rfl, rfl⟩)
                  go_ret
                  exact ⟨rfl, QB.out.trans ((HB.out.trans (HZ.out.mono HB.out.size)).mono QB.out.size)⟩
                · have e5 : decide ((64 : Int) < (D.dirty.length : Int)) = false := by simp; omega
                  have htk := Taken_any (HD.out.below HZ.out) HC.out.byt
                  have HTK := Lib.hid htk
                  clear htk
                  have hdl : D.dirty.length < 1000000 := by omega
                  go_wp2_with (first
                    | (go_at_call 17; (with_reducible refine HDR.out.mono ?_); rintro e z2 ⟨rfl, rfl⟩)
                    | (go_at_call 18; (with_reducible refine HTK.out.mono ?_); rintro e z3 ⟨x1, ps1, E1p, okx1, rfl, hX1, hS1, hB1, hL1, hu1, he1, hb⟩; have HZ3 := Aside0.mk (HZ.out.trans (hb.mono HZ.out.size)); have HK3 := Aside0.mk ((solo_frame _ _).keep HC.out.solo HZ3.out); have HX1 := Aside0.mk hX1.bound; have HR3 := Aside0.mk (Kd.R_below HR1.out (HB2.out.trans (hb.mono HB2.out.size))); have HS1 := Aside0.mk hS1; have HBP1 := Lib.hid hB1; have HL1 := Lib.hid hL1; have HU1 := Lib.hid hu1; have HEN1 := Lib.hid he1; obtain ⟨k1, k2, k3, k4, k5, k6⟩ := HBOX.out z3 (HB.out.trans (HZ3.out.mono HB.out.size)); clear hX1 hS1 hB1 hL1 hu1 he1 hb)
                    | (go_at_call 19; (with_reducible refine (Solo.crash HK3.out P HPO.out hdl HC.out.sim.dirtyNd HC.out.sim.dirtyIn).mono ?_); rintro e z4 ⟨rfl, hS, hb, hkp⟩; have hsz := HZ.out.size; have HX4 := Aside0.mk (HX1.out.step (fun k hk hlt => hkp k (.inr ⟨by have := hk.2.1; omega, hlt⟩))); have HR4 := Aside0.mk (Kd.R_step HR3.out (fun k hk hlt => hkp k (.inr ⟨hk, hlt⟩))); have HS4 := Aside0.mk hS; have HQ4 := Aside0.mk ((HC.out.bel.trans (HZ3.out.mono HC.out.bel.size)).trans hb); clear hS hb hkp hsz k1 k2 k3 k4 k5 k6)
                    | (go_at_call 18; obtain ⟨ok4, hD4⟩ := (solo_frame _ _).dev HS4.out; refine (Taken_any hD4 (BytD.crash HND.out HC.out.byt P)).mono ?_; rintro e z5 ⟨x2, ps2, E2p, okx2, rfl, hX2, hS2, hB2, hL2, hu2, he2, hb⟩; have HX5 := Aside0.mk (HX4.out.below hb); have HX2 := Aside0.mk hX2; have HR5 := Aside0.mk (Kd.R_below HR4.out hb); have HS5 := Aside0.mk ((solo_frame _ _).below HS4.out hb); have HQ5 := Aside0.mk (HQ4.out.trans (hb.mono HQ4.out.size)); have HS2 := Aside0.mk hS2; have HBP2 := Lib.hid hB2; have HL2 := Lib.hid hL2; have HU2 := Lib.hid hu2; have HEN2 := Lib.hid he2; clear hX2 hS2 hB2 hL2 hu2 he2 hb hD4))
                  go_at_call 20
                  refine (Clash_any (s := D.s) HX5.out HX2.out HSD.out.sh (by have := HL1.out; omega) (by have := HL2.out; omega) HS1.out.len HS2.out.len HBP1.out HBP2.out).mono ?_
                  rintro e z6 ⟨r, rfl, hr, hb6⟩
                  have HS6 := Aside0.mk ((solo_frame _ _).below HS5.out hb6)
                  have HR6 := Aside0.mk (Kd.R_below HR5.out hb6)
                  have HQ6 := Aside0.mk (HQ5.out.trans (hb6.mono HQ5.out.size))
                  clear hb6
                  cases r with
                  | true =>
                    clear hr
                    go_wp2
                    go_ret
                    exact ⟨rfl, QB.out.trans ((HB4.out.trans (HQ6.out.mono HB4.out.size)).mono QB.out.size)⟩
                  | false =>
                    have hcalm : Calm D (crashD D P) := calm_of HS1.out HS2.out HU1.out HU2.out HEN1.out HEN2.out HSD.out.sh (hr rfl)
                    have hse := (solo_frame _ _).sound HS6.out
                    obtain ⟨m2, hm2, hk2, hlast⟩ := crash_scan HSD.out HC.out.byt HND.out HC.out.sim.dirtyIn hse HC.out.laid hcalm
                    have hs2 := (solo_frame _ _).scan HS6.out (BytD.crash HND.out HC.out.byt P) 0
                    obtain ⟨⟨q2, kk, has2⟩, hrr⟩ : ∃ r, r = scanD (crashD D P) 0 := ⟨_, rfl⟩
                    rw [← hrr] at hs2 hk2 hlast
                    simp only at hk2 hlast
                    rw [HC.out.sh, ← HL.out] at hk2
                    rw [recsOf_len, ← HWL.out] at hm2
                    have hkl : kk.length = m2 := by rw [hk2, List.length_take, HLL.out]; omega
                    have HS2C := Lib.hid hs2
                    have HKK := Lib.hid hk2
                    have HKL := Lib.hid hkl
                    have HLAST := Lib.hid hlast
                    have e6 : decide ((i : Int) < (m2 : Int)) = false := by simp; omega
                    clear hr hcalm hse hs2 hk2 hkl hlast hrr
                    have hdat : ∀ e ∈ kk, e.data.length < 1000000 := fun e he => by
                      rw [HKK.out] at he
                      obtain ⟨j, hj, hj2⟩ := List.getElem_of_mem (List.mem_of_mem_take he)
                      obtain ⟨x, hx, -, hd⟩ := entsL_get s want 1 j e (by rw [← HL.out, List.getElem?_eq_getElem hj, hj2])
                      have := (HC.out.wok x (List.mem_of_getElem? hx)).len
                      rw [hd]
                      omega
                    have HDAT := Lib.hid hdat
                    have hcp := HCP.out
                    have c1 : (m2 : Int) ≤ (f1 : Int) := by omega
                    have c2 : ¬ (f1 : Int) < (m2 : Int) := by omega
                    have c3 : decide ((f1 : Int) < (m2 : Int)) = false := decide_eq_false c2
                    have c0 : (0 : Int) ≤ (m2 : Int) := by omega
                    have c4 : m2 ≤ f1 := by omega
                    clear hdat
                    rcases ent_shape HR1.out with ⟨hE1, hi0, hf0⟩ | ⟨g, hE1⟩
                    · subst hE1
                      have hm0 : m2 = 0 := by omega
                      rcases HC.out.last with hv | ⟨L, hv, hL⟩
                      · subst hv
                        go_wp2_with (first
                          | (go_at_call 15; (with_reducible refine HS2C.out.mono ?_); rintro e z7 ⟨v2, rfl, hR, hb⟩; obtain ⟨E2, f2, rfl, hcp2, hE⟩ := ERow.ofR hR; rw [HKL.out] at hcp2 ⊢; have HE2 := Lib.hid hE; have HR7 := Aside0.mk (Kd.R_below HR6.out hb); have HQ7 := Aside0.mk (HQ6.out.trans (hb.mono HQ6.out.size)); clear hR hE hb))
                        have hse := SameEntries_ok (w := z7) (A := E2) (B := none) (c := f2) (d := 0) (l := ([] : List En)) (fun i e h => by simp at h) (fun i e h => by simp at h) (by simp) (fun e h => by cases h)
                        simp only [List.length_nil] at hse
                        have HSE := Lib.hid hse
                        clear hse
                        go_wp2_with (go_at_call 21; (with_reducible refine HSE.out.mono ?_); rintro e z8 ⟨rfl, hb⟩; have HQ8 := Aside0.mk (HQ7.out.trans (hb.mono HQ7.out.size)); clear hb)
                        go_ret
                        exact ⟨rfl, QB.out.trans ((HB4.out.trans (HQ8.out.mono HB4.out.size)).mono QB.out.size)⟩
                      · obtain ⟨hL1, hL2⟩ := HLAST.out L hL
                        subst hv
                        have l1 : decide ((0 : Int) ≤ (L : Int)) = true := by simp
                        have l2 : decide ((m2 : Int) < (L : Int)) = false := by simp; omega
                        have l3 : (0 : Int) ≤ (L : Int) := by omega
                        subst hL2
                        clear hL
                        go_wp2_with (first
                          | (go_at_call 15; (with_reducible refine HS2C.out.mono ?_); rintro e z7 ⟨v2, rfl, hR, hb⟩; obtain ⟨E2, f2, rfl, hcp2, hE⟩ := ERow.ofR hR; rw [HKL.out] at hcp2 ⊢; have HE2 := Lib.hid hE; have HR7 := Aside0.mk (Kd.R_below HR6.out hb); have HQ7 := Aside0.mk (HQ6.out.trans (hb.mono HQ6.out.size)); clear hR hE hb))
                        have hse := SameEntries_ok (w := z7) (A := E2) (B := none) (c := f2) (d := 0) (l := ([] : List En)) (fun i e h => by simp at h) (fun i e h => by simp at h) (by simp) (fun e h => by cases h)
                        simp only [List.length_nil] at hse
                        have HSE := Lib.hid hse
                        clear hse
                        go_wp2_with (go_at_call 21; (with_reducible refine HSE.out.mono ?_); rintro e z8 ⟨rfl, hb⟩; have HQ8 := Aside0.mk (HQ7.out.trans (hb.mono HQ7.out.size)); clear hb)
                        go_ret
                        exact ⟨rfl, QB.out.trans ((HB4.out.trans (HQ8.out.mono HB4.out.size)).mono QB.out.size)⟩
                    · subst hE1
                      rcases HC.out.last with hv | ⟨L, hv, hL⟩
                      · subst hv
                        go_wp2_with (first
                          | (go_at_call 15; (with_reducible refine HS2C.out.mono ?_); rintro e z7 ⟨v2, rfl, hR, hb⟩; obtain ⟨E2, f2, rfl, hcp2, hE⟩ := ERow.ofR hR; rw [HKL.out] at hcp2 ⊢; have HE2 := Lib.hid hE; have HR7 := Aside0.mk (Kd.R_below HR6.out hb); have HQ7 := Aside0.mk (HQ6.out.trans (hb.mono HQ6.out.size)); clear hR hE hb))
                        obtain ⟨A', c', hA', -, hEl⟩ := ERow.ofR HR7.out
                        injection hA' with hA1 _ _
                        subst hA1
                        have hEk : ERow z7 (some ⟨g, 0, none⟩) kk := by rw [HKK.out]; exact hEl.take m2
                        have hse := SameEntries_ok (c := f2) (d := f1) HE2.out hEk (by have := HKL.out; omega) HDAT.out
                        rw [HKL.out] at hse
                        clear hEk hEl
                        have HSE := Lib.hid hse
                        clear hse
                        go_wp2_with (go_at_call 21; (with_reducible refine HSE.out.mono ?_); rintro e z8 ⟨rfl, hb⟩; have HQ8 := Aside0.mk (HQ7.out.trans (hb.mono HQ7.out.size)); clear hb)
                        go_ret
                        exact ⟨rfl, QB.out.trans ((HB4.out.trans (HQ8.out.mono HB4.out.size)).mono QB.out.size)⟩
                      · obtain ⟨hL1, hL2⟩ := HLAST.out L hL
                        subst hv
                        have l1 : decide ((0 : Int) ≤ (L : Int)) = true := by simp
                        have l2 : decide ((m2 : Int) < (L : Int)) = false := by simp; omega
                        have l3 : (0 : Int) ≤ (L : Int) := by omega
                        subst hL2
                        clear hL
                        go_wp2_with (first
                          | (go_at_call 15; (with_reducible refine HS2C.out.mono ?_); rintro e z7 ⟨v2, rfl, hR, hb⟩; obtain ⟨E2, f2, rfl, hcp2, hE⟩ := ERow.ofR hR; rw [HKL.out] at hcp2 ⊢; have HE2 := Lib.hid hE; have HR7 := Aside0.mk (Kd.R_below HR6.out hb); have HQ7 := Aside0.mk (HQ6.out.trans (hb.mono HQ6.out.size)); clear hR hE hb))
                        obtain ⟨A', c', hA', -, hEl⟩ := ERow.ofR HR7.out
                        injection hA' with hA1 _ _
                        subst hA1
                        have hEk : ERow z7 (some ⟨g, 0, none⟩) kk := by rw [HKK.out]; exact hEl.take m2
                        have hse := SameEntries_ok (c := f2) (d := f1) HE2.out hEk (by have := HKL.out; omega) HDAT.out
                        rw [HKL.out] at hse
                        clear hEk hEl
                        have HSE := Lib.hid hse
                        clear hse
                        go_wp2_with (go_at_call 21; (with_reducible refine HSE.out.mono ?_); rintro e z8 ⟨rfl, hb⟩; have HQ8 := Aside0.mk (HQ7.out.trans (hb.mono HQ7.out.size)); clear hb)
                        go_ret
                        exact ⟨rfl, QB.out.trans ((HB4.out.trans (HQ8.out.mono HB4.out.size)).mono QB.out.size)⟩
end Go.Proofs.Ytmbiebdcnadhkaa.Fl
namespace Go.Proofs.Ytmbiebdcnadhkaa.Opens
open Go.ChangeShapes Go.WideShapes Go.ChangeAt Go.RowKit Go.Joins Go.Deep Go.Proofs.YtmbiebdcnadhkaaW.PrintWords
section
variable {H : Type} {enc : TypeId × Value → H} {P : Program} {w : World} {base : Nat} {spare : Nat → Bool} {held : Bool}
theorem cell_ints {t e : TypeId} {k : IntKind} {fuel : Nat} {u : Value} {x : DataW H × List MemPlace} (ht : P.underlying t = some (.slice e)) (he : P.underlying e = some (.int k)) (hC : P.cellsOf e = 1)
    (h : DataW.trod enc P w base spare held fuel t [u] = some x) :
    ∃ (A : Option Addr) (c : Nat) (l : List Int), [u] = [Value.slice A l.length c] ∧ Kd.C (Kd.int k) w A l.length l ∧ l.length ≤ c ∧ l.length ≤ maxLen ∧ (∀ n ∈ l, (Lit.int k n).wf = true) := by
  rcases open_ints ht he hC h with ⟨hcs, _⟩ | ⟨a, len, cap, zs, hcs, _, hl, hm, hz, _, hcell, hwz⟩
  · refine ⟨none, 0, [], hcs, ?_, Nat.le_refl _, Nat.zero_le _, fun n hn => by cases hn⟩
    exact Kd.C_of_reads (d := (0 : Int)) (h1 := fun _ => rfl) ⟨rfl, by simp, fun h => absurd h (by simp)⟩
  · have hlz : len ≤ zs.length := by
      rw [hz]
      split
      · exact hl
      · exact Nat.le_refl _
    have e : (zs.take len).length = len := by rw [List.length_take]; omega
    refine ⟨some a, cap, zs.take len, by rw [e]; exact hcs, ?_, by omega, by rw [e]; omega, fun n hn => hwz n (List.mem_of_mem_take hn)⟩
    refine Kd.C_of_reads (d := (0 : Int)) (h1 := fun _ => rfl) ⟨rfl, by rw [e]; unfold maxLen at hm; omega, fun _ => ⟨a, rfl, fun j hj => ?_⟩⟩
    rw [e] at hj
    rw [hcell j (by omega)]
    simp [List.getD_eq_getElem?_getD, hj]
end
end Go.Proofs.Ytmbiebdcnadhkaa.Opens
namespace Go.Proofs.Ytmbiebdcnadhkaa.Fl
open Go.ChangeShapes Go.WideShapes Go.ChangeAt Go.RowKit Go.Joins Go.Deep Go.Proofs.YtmbiebdcnadhkaaW.PrintWords Go.Proofs.Ytmbiebdcnadhkaa.Opens
section
variable {H : Type} {enc : TypeId × Value → H} {P : Program} {w : World} {base : Nat} {spare : Nat → Bool} {held : Bool}
theorem plan_of {k t c : Int} (h : (Lit.int .u64 k).wf = true) : PlanOk ⟨k, t, c⟩ := by
  unfold Lit.wf at h
  rw [Bool.and_eq_true, decide_eq_true_eq, decide_eq_true_eq] at h
  have e1 : IntKind.min .u64 = 0 := by decide
  have e2 : IntKind.max .u64 = 18446744073709551615 := by decide
  rw [e1, e2] at h
  exact ⟨h.1, by show k < _; omega⟩
theorem byt_of {l : List Int} (h : ∀ x ∈ l, (Lit.int .u8 x).wf = true) : Byt l := fun x hx => by
  have h1 := h x hx
  unfold Lit.wf at h1
  rw [Bool.and_eq_true, decide_eq_true_eq, decide_eq_true_eq] at h1
  have e1 : IntKind.min .u8 = 0 := by decide
  have e2 : IntKind.max .u8 = 255 := by decide
  rw [e1, e2] at h1
  exact h1
end
end Go.Proofs.Ytmbiebdcnadhkaa.Fl
namespace Go.Proofs.Ytmbiebdcnadhkaa.Fl
open Go.ChangeShapes Go.WideShapes Go.ChangeAt Go.RowKit Go.Joins Go.Deep Go.Proofs.YtmbiebdcnadhkaaW.PrintWords Go.Proofs.Ytmbiebdcnadhkaa.Opens
section
variable {H : Type} {enc : TypeId × Value → H} {P : Program} {w : World} {base : Nat} {spare : Nat → Bool} {held : Bool}
theorem kind_of {k : Int} (h : (Lit.int .u8 k).wf = true) : KindOk k := by
  unfold Lit.wf at h
  rw [Bool.and_eq_true, decide_eq_true_eq, decide_eq_true_eq] at h
  have e1 : IntKind.min .u8 = 0 := by decide
  have e2 : IntKind.max .u8 = 255 := by decide
  rw [e1, e2] at h
  exact ⟨h.1, h.2⟩
theorem seq_of {k : Int} (h : (Lit.int .u64 k).wf = true) : SeqOk k := by
  unfold Lit.wf at h
  rw [Bool.and_eq_true, decide_eq_true_eq, decide_eq_true_eq] at h
  have e1 : IntKind.min .u64 = 0 := by decide
  have e2 : IntKind.max .u64 = 18446744073709551615 := by decide
  rw [e1, e2] at h
  exact ⟨h.1, h.2⟩
theorem rec_cells {e te : TypeId} {f0 f1 f2 f3 f4 : Field} {n : Nat} {cs : List Value} {y : DataW H × List MemPlace} (he : P.underlying e = some (.struct #[f0, f1, f2, f3, f4]))
    (o0 : f0.offset = 0) (o1 : f1.offset = 1) (o2 : f2.offset = 2) (o3 : f3.offset = 3) (o4 : f4.offset = 4)
    (k0 : P.cellsOf f0.type = 1) (k1 : P.cellsOf f1.type = 1) (k2 : P.cellsOf f2.type = 1) (k3 : P.cellsOf f3.type = 1) (k4 : P.cellsOf f4.type = 1)
    (u0 : P.underlying f0.type = some (.int .i64)) (u1 : P.underlying f1.type = some (.int .i64)) (u2 : P.underlying f2.type = some (.int .u64)) (u3 : P.underlying f3.type = some (.int .u8)) (u4 : P.underlying f4.type = some (.slice te)) (ue : P.underlying te = some (.int .u8)) (ke : P.cellsOf te = 1)
    (hl : cs.length = 5) (h : DataW.trod enc P w base spare held n e cs = some y) :
    ∃ (r : RecT) (A : Option Addr) (c : Nat), cs = [.int .i64 r.seg, .int .i64 r.page, .int .u64 r.seq, .int .u8 r.kind, .slice A r.l.length c] ∧ kB.C w A r.l.length r.l ∧ r.l.length ≤ c ∧ RecTOk r := by
  obtain ⟨xs, m, _, _, _, hlen, hg⟩ := DataW.trod_struct he h
  match cs, hl, xs, hlen with
  | [c0, c1, c2, c3, c4], _, [y0, y1, y2, y3, y4], _ =>
    have s0 : DataW.trod enc P w base spare held m f0.type [c0] = some y0 := by simpa [o0, k0] using hg 0 f0 rfl
    have s1 : DataW.trod enc P w base spare held m f1.type [c1] = some y1 := by simpa [o1, k1] using hg 1 f1 rfl
    have s2 : DataW.trod enc P w base spare held m f2.type [c2] = some y2 := by simpa [o2, k2] using hg 2 f2 rfl
    have s3 : DataW.trod enc P w base spare held m f3.type [c3] = some y3 := by simpa [o3, k3] using hg 3 f3 rfl
    have s4 : DataW.trod enc P w base spare held m f4.type [c4] = some y4 := by simpa [o4, k4] using hg 4 f4 rfl
    obtain ⟨a0, z0, _, _⟩ := DataW.trod_int u0 s0
    obtain ⟨a1, z1, _, _⟩ := DataW.trod_int u1 s1
    obtain ⟨a2, z2, _, w2⟩ := DataW.trod_int u2 s2
    obtain ⟨a3, z3, _, w3⟩ := DataW.trod_int u3 s3
    obtain ⟨A, c, l, z4, hr, hc, _, hw⟩ := cell_ints u4 ue ke s4
    refine ⟨⟨a0, a1, a2, a3, l⟩, A, c, ?_, hr, hc, ⟨kind_of w3, seq_of w2, byt_of hw⟩⟩
    rw [List.head_eq_of_cons_eq z0, List.head_eq_of_cons_eq z1, List.head_eq_of_cons_eq z2, List.head_eq_of_cons_eq z3, List.head_eq_of_cons_eq z4]
theorem row_recs {t e te : TypeId} {f0 f1 f2 f3 f4 : Field} {A : Option Addr} {len c : Nat} {d : DataW H} {p : List MemPlace} (ht : P.underlying t = some (.slice e)) (he : P.underlying e = some (.struct #[f0, f1, f2, f3, f4])) (hC : P.cellsOf e = 5)
    (o0 : f0.offset = 0) (o1 : f1.offset = 1) (o2 : f2.offset = 2) (o3 : f3.offset = 3) (o4 : f4.offset = 4)
    (k0 : P.cellsOf f0.type = 1) (k1 : P.cellsOf f1.type = 1) (k2 : P.cellsOf f2.type = 1) (k3 : P.cellsOf f3.type = 1) (k4 : P.cellsOf f4.type = 1)
    (u0 : P.underlying f0.type = some (.int .i64)) (u1 : P.underlying f1.type = some (.int .i64)) (u2 : P.underlying f2.type = some (.int .u64)) (u3 : P.underlying f3.type = some (.int .u8)) (u4 : P.underlying f4.type = some (.slice te)) (ue : P.underlying te = some (.int .u8)) (ke : P.cellsOf te = 1)
    (h : DataW.Trod enc P w base spare held t (.slice A len c) d p) : ∃ rs : List RecT, len = rs.length ∧ RRow w A rs ∧ rs.length ≤ 9223372036854775807 ∧ ∀ r ∈ rs, RecTOk r := by
  obtain ⟨fuel, hf⟩ := h
  rcases open_slice ht hf with ⟨hcs, _⟩ | ⟨a, len', cap, m, n, D, Pl, hcs, hb, hl, hm, hmm, _, hel⟩
  · simp [Value.cells] at hcs
    obtain ⟨rfl, rfl, rfl⟩ := hcs
    exact ⟨[], rfl, fun i d hi => by simp at hi, by simp, by simp⟩
  · simp [Value.cells] at hcs
    obtain ⟨rfl, rfl, rfl⟩ := hcs
    have hlm : len ≤ m := by rw [hmm]; split <;> omega
    have each : ∀ i, ∃ x : RecT, i < len → RecTOk x ∧ ∃ A1 c1, kB.C w A1 x.l.length x.l ∧ x.l.length ≤ c1 ∧ w.cells? base (a.add (i * 5)) 5 = some [.int .i64 x.seg, .int .i64 x.page, .int .u64 x.seq, .int .u8 x.kind, .slice A1 x.l.length c1] := by
      intro i
      by_cases hi : i < len
      · obtain ⟨cs', h1, h2⟩ := hel i (by omega)
        rw [hC] at h1
        obtain ⟨x, A1, c1, rfl, h3, h4, h5⟩ := rec_cells he o0 o1 o2 o3 o4 k0 k1 k2 k3 k4 u0 u1 u2 u3 u4 ue ke (World.cells?_some h1).2.1 h2
        exact ⟨x, fun _ => ⟨h5, A1, c1, h3, h4, h1⟩⟩
      · exact ⟨⟨0, 0, 0, 0, []⟩, fun h => absurd h hi⟩
    refine ⟨(List.range len).map (fun i => Classical.choose (each i)), by simp, fun i d hi => ?_, by simp; unfold maxLen at hm; omega, fun d hd => ?_⟩
    · have hil : i < len := by
        have := (List.getElem?_eq_some_iff.1 hi).1
        simpa using this
      have hx : d = Classical.choose (each i) := by simpa [hil] using hi.symm
      obtain ⟨_, A1, c1, h1, h2, h3⟩ := Classical.choose_spec (each i) hil
      rw [← hx] at h1 h2 h3
      have h3 := (World.cells?_some h3).2.2
      have g0 := h3 0 (by omega)
      refine ⟨a, A1, c1, rfl, ?_, h3 1 (by omega), h3 2 (by omega), h3 3 (by omega), h3 4 (by omega), h1, h2⟩
      simpa [Addr.add] using g0
    · rw [List.mem_map] at hd
      obtain ⟨i, hi, rfl⟩ := hd
      exact (Classical.choose_spec (each i) (by simpa using hi)).1
end
end Go.Proofs.Ytmbiebdcnadhkaa.Fl
namespace Go.Proofs.Ytmbiebdcnadhkaa.Fl
open Go.RowKit Go.Proofs.YtmbiebdcnadhkaaW.PrintWords
theorem segment_crash_walk (a b c : Int) (B : Option Addr) (e : Nat) (rs : List RecT) (sy k t u : Int) (W : World) (_ : (Lit.int .i64 a).wf = true) (_ : (Lit.int .i64 b).wf = true) (_ : (Lit.int .i64 c).wf = true) (hq : RRow W B rs) (h1 : rs.length ≤ 9223372036854775807) (hk : ∀ r ∈ rs, RecTOk r) (_ : (Lit.int .i64 sy).wf = true) (hp : (Lit.int .u64 k).wf = true) (_ : (Lit.int .i64 t).wf = true) (_ : (Lit.int .i64 u).wf = true) :
    Calls Try.prog 3 #[.agg #[.int .i64 a, .int .i64 b, .int .i64 c], .slice B rs.length e, .int .i64 sy, .agg #[.int .u64 k, .int .i64 t, .int .i64 u]] W fun e w' => e = .returned (.bool true) ∧ Below W.heap.size W w' :=
  SegmentCrash_any (a, b, c) sy ⟨k, t, u⟩ (plan_of hp) hq h1 hk
end Go.Proofs.Ytmbiebdcnadhkaa.Fl
