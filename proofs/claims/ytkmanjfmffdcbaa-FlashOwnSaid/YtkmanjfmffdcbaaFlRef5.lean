/- The document's device: a crash, walked. No condition. -/
import Derived.Test.YtkmanjfmffdcbaaFlRef4
import Derived.Deep.DeepCutAuto
namespace Go.Proofs.Ytkmanjfmffdcbaa.Fl
open Go.RowKit Go.Proofs.YtkmanjfmffdcbaaW.PrintWords Go.Proofs.YtkmanjfmffdcbaaW.PrintMore Go.Maps
set_option linter.unusedSimpArgs false
set_option linter.unusedVariables false
/-- Whether the plan keeps page number i, by the document. -/
def keepB (P : PlanT) (i : Nat) : Bool := (!decide ((i : Int) = P.torn)) && (decide (i < 64) && decide (P.keep / 2 ^ i % 2 = 1))
def rcStep (n : Int) (P : PlanT) (st : List Pg × Nat) (p : Pg) : List Pg × Nat :=
  if p.2.2 = false then (st.1 ++ [p], st.2)
  else ((st.1 ++ if (st.2 : Int) = P.torn ∧ 0 < cutV n P then [(p.1, fullT n.toNat (p.2.1.take (cutV n P).toNat), false)] else []) ++ (if keepB P st.2 then [(p.1, p.2.1, false)] else []), st.2 + 1)
def rcTo (n : Int) (P : PlanT) (ps : List Pg) : List Pg × Nat := ps.foldl (rcStep n P) ([], 0)
theorem rcTo_snoc (n : Int) (P : PlanT) (ps : List Pg) (p : Pg) : rcTo n P (ps ++ [p]) = rcStep n P (rcTo n P ps) p := by
  simp [rcTo, List.foldl_append]
theorem rcStep_len (n : Int) (P : PlanT) (st : List Pg × Nat) (p : Pg) : (rcStep n P st p).1.length ≤ st.1.length + 2 ∧ (rcStep n P st p).2 ≤ st.2 + 1 := by
  unfold rcStep
  split
  · simp only [List.length_append, List.length_singleton]
    omega
  · simp only [List.length_append]
    split <;> split <;> simp <;> omega
theorem rcFold_len (n : Int) (P : PlanT) : ∀ (ps : List Pg) (st : List Pg × Nat), (ps.foldl (rcStep n P) st).1.length ≤ st.1.length + 2 * ps.length ∧ (ps.foldl (rcStep n P) st).2 ≤ st.2 + ps.length
  | [], st => ⟨Nat.le_refl _, Nat.le_refl _⟩
  | p :: ps, st => by
    have h1 := rcStep_len n P st p
    have h2 := rcFold_len n P ps (rcStep n P st p)
    rw [List.foldl_cons, List.length_cons]
    omega
theorem rcTo_len (n : Int) (P : PlanT) (ps : List Pg) : (rcTo n P ps).1.length ≤ 2 * ps.length ∧ (rcTo n P ps).2 ≤ ps.length := by
  have := rcFold_len n P ps ([], 0)
  simpa [rcTo] using this
section
variable {N0 x : Nat} {s : Int × Int × Int} {ps : List Pg} {ok : Nat → Prop} {w : World}
set_option maxHeartbeats 8000000 in
set_option maxRecDepth 100000 in
theorem RCrash_any (hX : RefIs N0 x s ps ok w) (hs : ShapeOk s) (hl : ps.length < 1000000) (hlen : ∀ p ∈ ps, p.2.1.length = s.2.2.toNat) (P : PlanT) (hk0 : 0 ≤ P.keep) :
    Calls Try.prog 37 #[.pointer (some ⟨x, 0, none⟩), .agg #[.int .u64 P.keep, .int .i64 P.torn, .int .i64 P.cut]] w fun e w' => e = .returned (.tuple #[]) ∧ RefIs N0 x s (rcTo s.2.2 P ps).1 (fun k => ok k ∨ w.heap.size ≤ k) w' ∧ Upd (Mut ok w) w w' := by
  obtain ⟨A, c, hx, hrow, hR⟩ := ref_open hX
  have hN : N0 ≤ w.heap.size := Nat.le_of_lt (Nat.lt_of_le_of_lt hX.base (blt hx))
  obtain ⟨W, hW⟩ : ∃ W, W = w.alloc (.cells #[.int .u64 P.keep, .int .i64 P.torn, .int .i64 P.cut] 59) := ⟨_, rfl⟩
  have q3 : Below w.heap.size w W := by rw [hW]; exact below_alloc (Below.refl _ _) _
  have q2 : W.heap[w.heap.size]? = some (.cells #[.int .u64 P.keep, .int .i64 P.torn, .int .i64 P.cut] 59 (0, 0)) := by rw [hW]; exact blk_new w _
  have q1 := (q3.block x (blt hx)).trans hx
  obtain ⟨n, hn⟩ : ∃ n, n = ps.length := ⟨_, rfl⟩
  rw [← hn] at hx hrow hl q1
  have k1 : W.cell? ⟨x, 3, none⟩ = some (.slice A n c) := bcell q1 3
  have k2 : W.cell? ⟨x, 2, none⟩ = some (.int .i64 s.2.2) := bcell q1 2
  have k3 : W.cell? ⟨w.heap.size, 2, none⟩ = some (.int .i64 P.cut) := bcell q2 2
  have HR1 := Lib.hid hrow
  have HN := Lib.hid hn
  have HX := Lib.hid hx
  have HXX := Aside0.mk hX
  have HN0 := Lib.hid hN
  have HW := Lib.hid hW
  have Q1 := Lib.hid q1
  have Q2 := Lib.hid q2
  have Q3 := Aside0.mk q3
  have HS := Lib.hid hs
  have HLN := Lib.hid hlen
  clear hx hrow hn hX hR hN hW q1 q2 q3 hs hlen
  go_enter Try.func37, Try.ntmps37
  go_upto_if 12 with (fail)
  rw [← HW.out]
  go_cut [6] (fun s6 wx => s6 = .int .i64 (if P.cut < 0 then 0 else P.cut) ∧ wx = W)
  case first =>
    by_cases h : P.cut < 0
    · go_wp2_with fail
      go_meet
      exact ⟨by rw [if_pos h], rfl⟩
    · go_wp2_with fail
      go_meet
      exact ⟨by rw [if_neg (by omega)], rfl⟩
  case rest =>
    obtain ⟨rfl, rfl⟩ := hcut
    obtain ⟨r, hr⟩ : ∃ r, r = (if P.cut < 0 then 0 else P.cut) := ⟨_, rfl⟩
    have HRR := Lib.hid hr
    rw [← hr]
    clear hr
    go_upto_if 19 with (fail)
    go_cut [6] (fun s6 wx => s6 = .int .i64 (cutV s.2.2 P) ∧ wx = wc)
    case first =>
      by_cases h : s.2.2 < r
      · go_wp2_with fail
        go_meet
        exact ⟨by rw [cutV, ← HRR.out, if_pos h], rfl⟩
      · go_wp2_with fail
        go_meet
        exact ⟨by rw [cutV, ← HRR.out, if_neg (by omega)], rfl⟩
    case rest =>
      obtain ⟨rfl, rfl⟩ := hcut
      obtain ⟨q, hq⟩ : ∃ q, q = cutV s.2.2 P := ⟨_, rfl⟩
      have hqn : q ≤ s.2.2 := by rw [hq]; unfold cutV; split <;> omega
      have hq0 : 0 ≤ q := by
        have := HS.out.c0
        rw [hq]; unfold cutV; split
        · omega
        · split <;> omega
      have HQ := Lib.hid hq
      rw [← hq]
      clear hq k2 k3 HRR
      go_wp2
      go_loopw [4, 5, 30] (fun v4 v5 v30 wr => ∃ (k j : Nat) (L : List Pg), k ≤ n ∧ v30 = .int .i64 (k : Int) ∧ v5 = .int .i64 (j : Int) ∧ rcTo s.2.2 P (ps.take k) = (L, j) ∧ Below wc.heap.size wc wr ∧ kPage.R TP wr N0 (fun i => ok i ∨ w.heap.size ≤ i) v4 L ∧ ∀ i, v4.ownBlock = some i → wc.heap.size ≤ i) (fun _ _ v30 _ => n - (intOf v30).toNat)
      case atStart => exact ⟨0, 0, [], Nat.zero_le _, rfl, rfl, rfl, Below.refl _ _, Kd.R_nil _ _ _ _ _, fun j hj => by simp [Value.ownBlock] at hj⟩
      case round =>
        obtain ⟨k, j, L, hk, rfl, rfl, hst, hb, hR, hown⟩ := hrel
        obtain ⟨A4, c4, rfl⟩ := Kd.R_slice hR
        have hlens := rcTo_len s.2.2 P (ps.take k)
        rw [hst] at hlens
        have htl : (ps.take k).length ≤ k := List.length_take_le _ _
        have hj1 : j ≤ k := by have := hlens.2; simp only at this; omega
        have hL1 : L.length ≤ 2 * k := by have := hlens.1; simp only at this; omega
        have HB := Aside0.mk hb
        have HR := Aside0.mk hR
        have HO := Lib.hid hown
        have HST := Lib.hid hst
        clear hb hR hown hst hlens htl
        by_cases hlt : k < n
        · obtain ⟨p, hp⟩ : ∃ p, ps[k]? = some p := ⟨_, List.getElem?_eq_getElem (by have := HN.out; omega)⟩
          obtain ⟨g, rfl, _, _, hrow⟩ := HR1.out (by omega)
          obtain ⟨A1, c1, hc⟩ := ((hrow.below Q3.out).below HB.out).cell hp
          have d0 := hc.c0; have d1 := hc.c1; have d2 := hc.c2; have d3 := hc.c3
          have HROW := Aside0.mk hc.row
          have ht : rcTo s.2.2 P (ps.take (k + 1)) = rcStep s.2.2 P (L, j) p := by
            rw [← HST.out, ← rcTo_snoc, List.take_add_one, hp]
            rfl
          have hpl := HLN.out p (List.mem_of_getElem? hp)
          obtain ⟨⟨pa, pb⟩, pl, px⟩ := p
          simp only at d0 d1 d2 d3 ht HROW hpl
          have HT := Lib.hid ht
          have HPL := Lib.hid hpl
          have z0 := (HB.out.block _ (blt Q2.out)).trans Q2.out
          have z1 : wr.cell? ⟨w.heap.size, 0, none⟩ = some (.int .u64 P.keep) := bcell z0 0
          have z2 : wr.cell? ⟨w.heap.size, 1, none⟩ = some (.int .i64 P.torn) := bcell z0 1
          have y1 : (wr.alloc (.cells #[.int .i64 pa, .int .i64 pb, .slice A1 pl.length c1, .bool px] TP)).cell? ⟨w.heap.size, 0, none⟩ = some (.int .u64 P.keep) := (World.cell?_alloc_lt wr _ _ (blt z0)).trans z1
          have y2 : (wr.alloc (.cells #[.int .i64 pa, .int .i64 pb, .slice A1 pl.length c1, .bool px] TP)).cell? ⟨w.heap.size, 1, none⟩ = some (.int .i64 P.torn) := (World.cell?_alloc_lt wr _ _ (blt z0)).trans z2
          have k0 : (0 : Int) ≤ (k : Int) := by omega
          have k4 : (k : Int) < (n : Int) := by omega
          have j0 : (0 : Int) ≤ (j : Int) := by omega
          have j4 : (j : Int) ≤ (k : Int) := by omega
          clear hc hp hrow ht z0 hpl z1 z2
          cases px with
          | false =>
            have hR2 := Kd.R_below HR.out (below_alloc (Below.refl _ wr) (.cells #[.int .i64 pa, .int .i64 pb, .slice A1 pl.length c1, .bool false] TP (0, 0)))
            obtain ⟨okp, hM, hokp⟩ := page_app hR2 ((HROW.out.below (below_alloc (Below.refl _ wr) (.cells #[.int .i64 pa, .int .i64 pb, .slice A1 pl.length c1, .bool false] TP (0, 0)))).mono (fun k hk => .inl hk)) pa pb false
            have HR2 := Aside0.mk hR2
            have HM := Aside0.mk hM
            have HOK := Lib.hid hokp
            have HB2 := Aside0.mk (below_alloc HB.out (.cells #[.int .i64 pa, .int .i64 pb, .slice A1 pl.length c1, .bool false] TP (0, 0)))
            have hWs : w.heap.size ≤ wc.heap.size := Q3.out.size
            have HWS := Lib.hid hWs
            clear hR2 hM hokp hWs
            go_wp2_with (at_builtin; refine Kd.R_append kPage (w0 := wc) N0 rfl (.tmp 37) (.tmp 39) 66 TP (.agg #[.int .i64 0, .int .i64 0, .slice none 0 0, .bool false]) 48 rfl Try.underlying66 info_page rfl (by decide) (by decide) (.slice A4 L.length c4) L ((pa, pb), pl, false) [.int .i64 pa, .int .i64 pb, .slice A1 pl.length c1, .bool false] (fun j => ok j ∨ w.heap.size ≤ j) okp rfl (by simp [Act.eval]) HM.out HOK.out (fun j hj => .inr (Nat.le_trans HWS.out (Nat.le_trans HB2.out.size hj))) HR2.out (HB2.out.mono (Nat.le_trans HN0.out HWS.out)) (Nat.le_trans HN0.out (Nat.le_trans HWS.out HB2.out.size)) (by omega) ?_; intro v1 w1 hr1 _ hg hat; have HR3 := Aside0.mk hr1; have HG := Aside0.mk hg; have HAT := Lib.hid hat; clear hr1 hg hat)
            refine ⟨⟨k + 1, j, L ++ [((pa, pb), pl, false)], by omega, by go_num, rfl, by rw [HT.out, rcStep, if_pos rfl], HB2.out.grown HG.out HB2.out.size HO.out, HR3.out, fun i hi => ?_⟩, by simp [intOf]; omega⟩
            rcases HAT.out with h2 | ⟨b, h2, h3⟩
            · exact HO.out i (by rw [← h2]; exact hi)
            · have : b = i := by rw [h2] at hi; exact Option.some.inj hi
              have h5 : wc.heap.size ≤ b := Nat.le_trans HB2.out.size h3
              omega
          | true =>
            by_cases hT : (j : Int) = P.torn
            · have e1 : ((j : Int) == P.torn) = true := by simp [hT]
              have e2 : ((j : Int) != P.torn) = false := by simp [hT]
              have hkp : keepB P j = false := by simp [keepB, hT]
              have HTT := Lib.hid hT
              have HKP := Lib.hid hkp
              clear hT hkp
              by_cases hq1 : 0 < q
              · obtain ⟨qn, hqe⟩ := Int.eq_ofNat_of_zero_le hq0
                subst hqe
                have hq3 : qn ≤ pl.length := by have := HPL.out; omega
                obtain ⟨X, hX⟩ : ∃ X, X = wr.alloc (.cells #[.int .i64 pa, .int .i64 pb, .slice A1 pl.length c1, .bool true] TP) := ⟨_, rfl⟩
                have x0 : X.heap[wr.heap.size]? = some (.cells #[.int .i64 pa, .int .i64 pb, .slice A1 pl.length c1, .bool true] TP (0, 0)) := by rw [hX]; exact blk_new wr _
                have hBX0 : Below wr.heap.size wr X := by rw [hX]; exact below_alloc (Below.refl _ _) _
                have hBX : Below wc.heap.size wc X := HB.out.trans (hBX0.mono HB.out.size)
                have hRX := Kd.R_below HR.out hBX0
                obtain ⟨A5, c5, e5, hlc, hC⟩ := (HROW.out.below hBX0).reads
                injection e5 with e5 e6 e7
                subst e5 e7
                have hRefX := (HXX.out.below (Q3.out.trans (hBX.mono Q3.out.size)))
                have hcall := RFull_any (w := X.drew) (hRefX.step (fun _ _ _ => rfl)) HS.out A1 c1 (pl.take qn) (by rw [List.length_take, Nat.min_eq_left hq3]; exact C_take hC qn hq3) (by rw [List.length_take]; have := HS.out.c1; have := HPL.out; omega)
                rw [List.length_take, Nat.min_eq_left hq3] at hcall
                have x1 : X.cell? ⟨wr.heap.size, 0, none⟩ = some (.int .i64 pa) := bcell x0 0
                have x2 : X.cell? ⟨wr.heap.size, 1, none⟩ = some (.int .i64 pb) := bcell x0 1
                have x3 : X.cell? ⟨wr.heap.size, 2, none⟩ = some (.slice A1 pl.length c1) := bcell x0 2
                have x4 : X.cell? ⟨wr.heap.size, 3, none⟩ = some (.bool true) := bcell x0 3
                have X0 := Lib.hid x0
                have HX1 := Lib.hid hX
                have HBX := Aside0.mk hBX
                have HRX := Aside0.mk hRX
                have HCALL := Lib.hid hcall
                have hol : ∀ i, (Value.slice A4 L.length c4).ownBlock = some i → some wr.heap.size ≠ some i := fun i hi e => by
                  obtain ⟨cs', hc'⟩ := own_typed (Kd.R_own HR.out).choose_spec i hi
                  have h1 := blt hc'
                  have h2 : wr.heap.size = i := Option.some.inj e
                  omega
                have HOL : Hid (some wr.heap.size ≠ (Value.slice A4 L.length c4).ownBlock) := Lib.hid (fun e => hol _ e.symm rfl)
                clear hol
                have q5 : (qn : Int) ≤ (c1 : Int) := by omega
                have q6 : (qn : Int) ≤ (pl.length : Int) := by omega
                have hcv : ((j : Int) = P.torn ∧ 0 < cutV s.2.2 P) := ⟨HTT.out, by rw [← HQ.out]; exact hq1⟩
                have HCV := Lib.hid hcv
                have HWS := Lib.hid (show w.heap.size ≤ wc.heap.size from Q3.out.size)
                clear hX hBX0 hBX hRX hC hRefX hcall hcv x0 hlc
                go_wp2_with fail
                rw [← HX1.out]
                clear y1 y2
                go_region_held3 (fun w' => w'.cell? ⟨wr.heap.size, 0, none⟩ = some (.int .i64 pa) ∧ w'.cell? ⟨wr.heap.size, 1, none⟩ = some (.int .i64 pb) ∧ w'.cell? ⟨wr.heap.size, 2, none⟩ = some (.slice A1 pl.length c1)) (first | go_keep | exact ⟨k4, k5, k6⟩ | exact ⟨k7, k8, k9⟩)
                  (first
                    | (go_at_call 44; refine HCALL.out.mono ?_; rintro e w1 ⟨v1, rfl, hr1, hbel⟩; obtain ⟨A6, c6, rfl⟩ := Kd.R_slice hr1; have hb0 : Below X.heap.size X w1 := undrew hbel; obtain ⟨okp, hM, hokp⟩ := page_app (Kd.R_below HRX.out hb0) (((Row.ofR hr1).lower (Nat.le_trans HN0.out (Nat.le_trans HWS.out HBX.out.size))).mono (fun k hk => .inr (Nat.le_trans HWS.out (Nat.le_trans HBX.out.size hk)))) pa pb false; have HM := Aside0.mk hM; have HOK := Lib.hid hokp; have HB0 := Aside0.mk hb0; have k4 : w1.cell? ⟨wr.heap.size, 0, none⟩ = some (.int .i64 pa) := (hb0.cell (p := ⟨wr.heap.size, 0, none⟩) (blt X0.out)).trans x1; have k5 : w1.cell? ⟨wr.heap.size, 1, none⟩ = some (.int .i64 pb) := (hb0.cell (p := ⟨wr.heap.size, 1, none⟩) (blt X0.out)).trans x2; have k6 : w1.cell? ⟨wr.heap.size, 2, none⟩ = some (.slice A1 pl.length c1) := (hb0.cell (p := ⟨wr.heap.size, 2, none⟩) (blt X0.out)).trans x3; clear hr1 hM hokp hb0 hbel)
                    | (refine Kd.R_append_step kPage (w0 := wc) (W := w1) N0 (by rfl) (.tmp 49) (.tmp 59) 66 TP (.agg #[.int .i64 0, .int .i64 0, .slice none 0 0, .bool false]) 48 (by rfl) Try.underlying66 info_page rfl (by decide) (by decide) (.slice A4 L.length c4) L ((pa, pb), fullT s.2.2.toNat (pl.take qn), false) [.int .i64 pa, .int .i64 pb, .slice A6 (fullT s.2.2.toNat (pl.take qn)).length c6, .bool false] (fun j => ok j ∨ w.heap.size ≤ j) okp (by rfl) (by rfl) HM.out HOK.out (fun j hj => .inr (Nat.le_trans HWS.out (Nat.le_trans (HBX.out.trans (HB0.out.mono HBX.out.size)).size hj))) (Kd.R_below HRX.out HB0.out) ((HBX.out.trans (HB0.out.mono HBX.out.size)).mono (Nat.le_trans HN0.out HWS.out)) (Nat.le_trans HN0.out (Nat.le_trans HWS.out (HBX.out.trans (HB0.out.mono HBX.out.size)).size)) (by omega) ?_; intro v1 w2 hr1 _ hg hat; have HR3 := Aside0.mk hr1; have HG := Aside0.mk hg; have HAT := Lib.hid hat; have k7 := hg.cell (a := ⟨wr.heap.size, 0, none⟩) k4 HOL.out; have k8 := hg.cell (a := ⟨wr.heap.size, 1, none⟩) k5 HOL.out; have k9 := hg.cell (a := ⟨wr.heap.size, 2, none⟩) k6 HOL.out; clear hr1 hg hat))
                have z0 : w2.heap[w.heap.size]? = some (.cells #[.int .u64 P.keep, .int .i64 P.torn, .int .i64 P.cut] 59 (0, 0)) := ((HBX.out.trans (HB0.out.mono HBX.out.size)).grown HG.out (HBX.out.trans (HB0.out.mono HBX.out.size)).size HO.out |>.block _ (blt Q2.out)).trans Q2.out
                have z1 : w2.cell? ⟨w.heap.size, 0, none⟩ = some (.int .u64 P.keep) := bcell z0 0
                have z2 : w2.cell? ⟨w.heap.size, 1, none⟩ = some (.int .i64 P.torn) := bcell z0 1
                clear z0
                go_wp2
                refine ⟨⟨k + 1, j + 1, L ++ [((pa, pb), fullT s.2.2.toNat (pl.take qn), false)], by omega, by go_num, by go_num, ?_, (HBX.out.trans (HB0.out.mono HBX.out.size)).grown HG.out (HBX.out.trans (HB0.out.mono HBX.out.size)).size HO.out, HR3.out, fun i hi => ?_⟩, by simp [intOf]; omega⟩
                · rw [HT.out, rcStep, if_neg (by simp), if_pos HCV.out, if_neg (by rw [HKP.out]; decide), ← HQ.out]
                  simp
                · rcases HAT.out with h2 | ⟨b, h2, h3⟩
                  · exact HO.out i (by rw [← h2]; exact hi)
                  · have : b = i := by rw [h2] at hi; exact Option.some.inj hi
                    have h5 : wc.heap.size ≤ b := Nat.le_trans (HBX.out.trans (HB0.out.mono HBX.out.size)).size h3
                    omega
              · have hcv : ¬ ((j : Int) = P.torn ∧ 0 < cutV s.2.2 P) := fun h => hq1 (by rw [HQ.out]; exact h.2)
                have HCV := Lib.hid hcv
                clear hcv
                go_wp2
                refine ⟨⟨k + 1, j + 1, L, by omega, by go_num, by go_num, by rw [HT.out, rcStep, if_neg (by simp), if_neg HCV.out, if_neg (by rw [HKP.out]; decide)]; simp, below_alloc HB.out _, Kd.R_below HR.out (below_alloc (Below.refl _ _) _), HO.out⟩, by simp [intOf]; omega⟩
            · have e1 : ((j : Int) == P.torn) = false := by simp [hT]
              have e2 : ((j : Int) != P.torn) = true := by simp [hT]
              have hcv : ¬ ((j : Int) = P.torn ∧ 0 < cutV s.2.2 P) := fun h => hT h.1
              have HCV := Lib.hid hcv
              have HTT := Lib.hid hT
              clear hT hcv
              by_cases h64 : j < 64
              · have e3 : (j : Int) < 64 := by omega
                have htm : (P.keep / 2 ^ j).tmod 2 = P.keep / 2 ^ j % 2 := Int.tmod_eq_emod_of_nonneg (Int.ediv_nonneg hk0 (by have : (0 : Int) < 2 ^ j := Int.pow_pos (by decide); omega))
                cases hb : decide (P.keep / 2 ^ j % 2 = 1) with
                | true =>
                  have e5 : ((P.keep / 2 ^ j).tmod 2 == 1) = true := by rw [htm]; simpa using hb
                  have HKP := Lib.hid (show keepB P j = true by simp only [keepB, hb, HTT.out, h64]; simp)
                  clear hb htm
                  have hR2 := Kd.R_below HR.out (below_alloc (Below.refl _ wr) (.cells #[.int .i64 pa, .int .i64 pb, .slice A1 pl.length c1, .bool true] TP (0, 0)))
                  obtain ⟨okp, hM, hokp⟩ := page_app hR2 ((HROW.out.below (below_alloc (Below.refl _ wr) (.cells #[.int .i64 pa, .int .i64 pb, .slice A1 pl.length c1, .bool true] TP (0, 0)))).mono (fun k hk => .inl hk)) pa pb false
                  have HR2 := Aside0.mk hR2
                  have HM := Aside0.mk hM
                  have HOK := Lib.hid hokp
                  have HB2 := Aside0.mk (below_alloc HB.out (.cells #[.int .i64 pa, .int .i64 pb, .slice A1 pl.length c1, .bool true] TP (0, 0)))
                  have hWs : w.heap.size ≤ wc.heap.size := Q3.out.size
                  have HWS := Lib.hid hWs
                  clear hR2 hM hokp hWs
                  go_wp2_with (at_builtin; refine Kd.R_append kPage (w0 := wc) N0 rfl (.tmp 78) (.tmp 84) 66 TP (.agg #[.int .i64 0, .int .i64 0, .slice none 0 0, .bool false]) 48 rfl Try.underlying66 info_page rfl (by decide) (by decide) (.slice A4 L.length c4) L ((pa, pb), pl, false) [.int .i64 pa, .int .i64 pb, .slice A1 pl.length c1, .bool false] (fun j => ok j ∨ w.heap.size ≤ j) okp rfl (by simp [Act.eval]) HM.out HOK.out (fun j hj => .inr (Nat.le_trans HWS.out (Nat.le_trans HB2.out.size hj))) HR2.out (HB2.out.mono (Nat.le_trans HN0.out HWS.out)) (Nat.le_trans HN0.out (Nat.le_trans HWS.out HB2.out.size)) (by omega) ?_; intro v1 w1 hr1 _ hg hat; have HR3 := Aside0.mk hr1; have HG := Aside0.mk hg; have HAT := Lib.hid hat; clear hr1 hg hat)
                  refine ⟨⟨k + 1, j + 1, L ++ [((pa, pb), pl, false)], by omega, by go_num, by go_num, by rw [HT.out, rcStep, if_neg (by simp), if_neg HCV.out, if_pos HKP.out]; simp, HB2.out.grown HG.out HB2.out.size HO.out, HR3.out, fun i hi => ?_⟩, by simp [intOf]; omega⟩
                  rcases HAT.out with h2 | ⟨b, h2, h3⟩
                  · exact HO.out i (by rw [← h2]; exact hi)
                  · have : b = i := by rw [h2] at hi; exact Option.some.inj hi
                    have h5 : wc.heap.size ≤ b := Nat.le_trans HB2.out.size h3
                    omega
                | false =>
                  have e5 : ((P.keep / 2 ^ j).tmod 2 == 1) = false := by rw [htm]; simpa using hb
                  have HKP := Lib.hid (show keepB P j = false by simp only [keepB, hb]; simp)
                  clear hb htm
                  go_wp2
                  refine ⟨⟨k + 1, j + 1, L, by omega, by go_num, by go_num, by rw [HT.out, rcStep, if_neg (by simp), if_neg HCV.out, if_neg (by rw [HKP.out]; decide)]; simp, below_alloc HB.out _, Kd.R_below HR.out (below_alloc (Below.refl _ _) _), HO.out⟩, by simp [intOf]; omega⟩
              · have e3 : ¬ (j : Int) < 64 := by omega
                have e4 : decide ((j : Int) < 64) = false := by simpa using e3
                have HKP := Lib.hid (show keepB P j = false by simp [keepB, h64])
                go_wp2
                refine ⟨⟨k + 1, j + 1, L, by omega, by go_num, by go_num, by rw [HT.out, rcStep, if_neg (by simp), if_neg HCV.out, if_neg (by rw [HKP.out]; decide)]; simp, below_alloc HB.out _, Kd.R_below HR.out (below_alloc (Below.refl _ _) _), HO.out⟩, by simp [intOf]; omega⟩
        · obtain rfl : k = n := by omega
          have b1 := (HB.out.block x (Nat.lt_of_lt_of_le (blt HX.out) Q3.out.size)).trans Q1.out
          have e3 : wr.cell? ⟨x, 3, none⟩ = some (.slice A k c) := bcell b1 3
          have f3 : wr.frozen? ⟨x, 3, none⟩ = false := bfrozen b1 3
          have B1 := Lib.hid b1
          clear b1
          go_wp2
          go_end0
          have hL2 : (rcTo s.2.2 P ps).1 = L := by
            have h := HST.out
            rw [List.take_of_length_le (by have := HN.out; omega)] at h
            rw [h]
          refine ⟨rfl, by rw [hL2]; exact ref_end HXX.out.base (.inl HXX.out.okx) B1.out HR.out, (Upd.ofBelow (Q3.out.trans (HB.out.mono Q3.out.size)) _).trans (Upd.setCell wr (p := ⟨x, 3, none⟩) (mut_of HXX.out.okx HX.out (by decide)) _) (fun _ h _ => h)⟩
end
end Go.Proofs.Ytkmanjfmffdcbaa.Fl
