/- The parts of this proof, one after the other (wip/tools/packfl.py). -/
import Derived.Test.YtkmanjfmffdcbaaPkCrashAfterA
import Derived.Deep.DeepCutAuto
import Derived.ProofKit
import Derived.Lib.SmallJoins
import Derived.Test.YtkmanjfmffdcbaaWMore
import Derived.Deep.Slices
import Derived.Deep.QuietTactic
import Derived.BigQuiet
import Derived.Lib.Bytes
/- The document's device: a crash, walked. No condition. -/
namespace Go.Proofs.Ytkmanjfmffdcbaa.Fl
open Go.RowKit Go.Proofs.YtkmanjfmffdcbaaW.PrintWords Go.Proofs.YtkmanjfmffdcbaaW.PrintMore Go.Maps
set_option linter.unusedSimpArgs false
set_option linter.unusedVariables false
/-- Whether the plan keeps page number i, by the document. -/
def keepB (P : PlanT) (i : Nat) : Bool := (!decide ((i : Int) = P.torn)) && (decide (i < 64) && decide (P.keep / 2 ^ i % 2 = 1))
def rcStep (n : Int) (P : PlanT) (st : List Pg × Nat) (p : Pg) : List Pg × Nat :=
  if p.2.2 = false then (st.1 ++ [p], st.2)
  else ((st.1 ++ if (st.2 : Int) = P.torn ∧ 0 < cutV n P then [(p.1, fullT n.toNat (p.2.1.take (cutV n P).toNat), false)] else []) ++ (if keepB P st.2 then [(p.1, p.2.1, false)] else []), st.2 + 1)
def rcTo (n : Int) (P : PlanT) (ps : List Pg) : List Pg × Nat := ps.foldl (rcStep n P) ([], 0)
theorem rcTo_snoc (n : Int) (P : PlanT) (ps : List Pg) (p : Pg) : rcTo n P (ps ++ [p]) = rcStep n P (rcTo n P ps) p := by
  simp [rcTo, List.foldl_append]
theorem rcStep_len (n : Int) (P : PlanT) (st : List Pg × Nat) (p : Pg) : (rcStep n P st p).1.length ≤ st.1.length + 2 ∧ (rcStep n P st p).2 ≤ st.2 + 1 := by
  unfold rcStep
  split
  · simp only [List.length_append, List.length_singleton]
    omega
  · simp only [List.length_append]
    split <;> split <;> simp <;> omega
theorem rcFold_len (n : Int) (P : PlanT) : ∀ (ps : List Pg) (st : List Pg × Nat), (ps.foldl (rcStep n P) st).1.length ≤ st.1.length + 2 * ps.length ∧ (ps.foldl (rcStep n P) st).2 ≤ st.2 + ps.length
  | [], st => ⟨Nat.le_refl _, Nat.le_refl _⟩
  | p :: ps, st => by
    have h1 := rcStep_len n P st p
    have h2 := rcFold_len n P ps (rcStep n P st p)
    rw [List.foldl_cons, List.length_cons]
    omega
theorem rcTo_len (n : Int) (P : PlanT) (ps : List Pg) : (rcTo n P ps).1.length ≤ 2 * ps.length ∧ (rcTo n P ps).2 ≤ ps.length := by
  have := rcFold_len n P ps ([], 0)
  simpa [rcTo] using this
section
variable {N0 x : Nat} {s : Int × Int × Int} {ps : List Pg} {ok : Nat → Prop} {w : World}
set_option maxHeartbeats 8000000 in
set_option maxRecDepth 100000 in
theorem RCrash_any (hX : RefIs N0 x s ps ok w) (hs : ShapeOk s) (hl : ps.length < 1000000) (hlen : ∀ p ∈ ps, p.2.1.length = s.2.2.toNat) (P : PlanT) (hk0 : 0 ≤ P.keep) :
    Calls Try.prog 37 #[.pointer (some ⟨x, 0, none⟩), .agg #[.int .u64 P.keep, .int .i64 P.torn, .int .i64 P.cut]] w fun e w' => e = .returned (.tuple #[]) ∧ RefIs N0 x s (rcTo s.2.2 P ps).1 (fun k => ok k ∨ w.heap.size ≤ k) w' ∧ Upd (Mut ok w) w w' := by
  obtain ⟨A, c, hx, hrow, hR⟩ := ref_open hX
  have hN : N0 ≤ w.heap.size := Nat.le_of_lt (Nat.lt_of_le_of_lt hX.base (blt hx))
  obtain ⟨W, hW⟩ : ∃ W, W = w.alloc (.cells #[.int .u64 P.keep, .int .i64 P.torn, .int .i64 P.cut] 59) := ⟨_, rfl⟩
  have q3 : Below w.heap.size w W := by rw [hW]; exact below_alloc (Below.refl _ _) _
  have q2 : W.heap[w.heap.size]? = some (.cells #[.int .u64 P.keep, .int .i64 P.torn, .int .i64 P.cut] 59 (0, 0)) := by rw [hW]; exact blk_new w _
  have q1 := (q3.block x (blt hx)).trans hx
  obtain ⟨n, hn⟩ : ∃ n, n = ps.length := ⟨_, rfl⟩
  rw [← hn] at hx hrow hl q1
  have k1 : W.cell? ⟨x, 3, none⟩ = some (.slice A n c) := bcell q1 3
  have k2 : W.cell? ⟨x, 2, none⟩ = some (.int .i64 s.2.2) := bcell q1 2
  have k3 : W.cell? ⟨w.heap.size, 2, none⟩ = some (.int .i64 P.cut) := bcell q2 2
  have HR1 := Lib.hid hrow
  have HN := Lib.hid hn
  have HX := Lib.hid hx
  have HXX := Aside0.mk hX
  have HN0 := Lib.hid hN
  have HW := Lib.hid hW
  have Q1 := Lib.hid q1
  have Q2 := Lib.hid q2
  have Q3 := Aside0.mk q3
  have HS := Lib.hid hs
  have HLN := Lib.hid hlen
  clear hx hrow hn hX hR hN hW q1 q2 q3 hs hlen
  go_enter Try.func37, Try.ntmps37
  go_upto_if 12 with (fail)
  rw [← HW.out]
  go_cut [6] (fun s6 wx => s6 = .int .i64 (if P.cut < 0 then 0 else P.cut) ∧ wx = W)
  case first =>
    by_cases h : P.cut < 0
    · go_wp2_with fail
      go_meet
      exact ⟨by rw [if_pos h], rfl⟩
    · go_wp2_with fail
      go_meet
      exact ⟨by rw [if_neg (by omega)], rfl⟩
  case rest =>
    obtain ⟨rfl, rfl⟩ := hcut
    obtain ⟨r, hr⟩ : ∃ r, r = (if P.cut < 0 then 0 else P.cut) := ⟨_, rfl⟩
    have HRR := Lib.hid hr
    rw [← hr]
    clear hr
    go_upto_if 19 with (fail)
    go_cut [6] (fun s6 wx => s6 = .int .i64 (cutV s.2.2 P) ∧ wx = wc)
    case first =>
      by_cases h : s.2.2 < r
      · go_wp2_with fail
        go_meet
        exact ⟨by rw [cutV, ← HRR.out, if_pos h], rfl⟩
      · go_wp2_with fail
        go_meet
        exact ⟨by rw [cutV, ← HRR.out, if_neg (by omega)], rfl⟩
    case rest =>
      obtain ⟨rfl, rfl⟩ := hcut
      obtain ⟨q, hq⟩ : ∃ q, q = cutV s.2.2 P := ⟨_, rfl⟩
      have hqn : q ≤ s.2.2 := by rw [hq]; unfold cutV; split <;> omega
      have hq0 : 0 ≤ q := by
        have := HS.out.c0
        rw [hq]; unfold cutV; split
        · omega
        · split <;> omega
      have HQ := Lib.hid hq
      rw [← hq]
      clear hq k2 k3 HRR
      go_wp2
      go_loopw [4, 5, 30] (fun v4 v5 v30 wr => ∃ (k j : Nat) (L : List Pg), k ≤ n ∧ v30 = .int .i64 (k : Int) ∧ v5 = .int .i64 (j : Int) ∧ rcTo s.2.2 P (ps.take k) = (L, j) ∧ Below wc.heap.size wc wr ∧ kPage.R TP wr N0 (fun i => ok i ∨ w.heap.size ≤ i) v4 L ∧ ∀ i, v4.ownBlock = some i → wc.heap.size ≤ i) (fun _ _ v30 _ => n - (intOf v30).toNat)
      case atStart => exact ⟨0, 0, [], Nat.zero_le _, rfl, rfl, rfl, Below.refl _ _, Kd.R_nil _ _ _ _ _, fun j hj => by simp [Value.ownBlock] at hj⟩
      case round =>
        obtain ⟨k, j, L, hk, rfl, rfl, hst, hb, hR, hown⟩ := hrel
        obtain ⟨A4, c4, rfl⟩ := Kd.R_slice hR
        have hlens := rcTo_len s.2.2 P (ps.take k)
        rw [hst] at hlens
        have htl : (ps.take k).length ≤ k := List.length_take_le _ _
        have hj1 : j ≤ k := by have := hlens.2; simp only at this; omega
        have hL1 : L.length ≤ 2 * k := by have := hlens.1; simp only at this; omega
        have HB := Aside0.mk hb
        have HR := Aside0.mk hR
        have HO := Lib.hid hown
        have HST := Lib.hid hst
        clear hb hR hown hst hlens htl
        by_cases hlt : k < n
        · obtain ⟨p, hp⟩ : ∃ p, ps[k]? = some p := ⟨_, List.getElem?_eq_getElem (by have := HN.out; omega)⟩
          obtain ⟨g, rfl, _, _, hrow⟩ := HR1.out (by omega)
          obtain ⟨A1, c1, hc⟩ := ((hrow.below Q3.out).below HB.out).cell hp
          have d0 := hc.c0; have d1 := hc.c1; have d2 := hc.c2; have d3 := hc.c3
          have HROW := Aside0.mk hc.row
          have ht : rcTo s.2.2 P (ps.take (k + 1)) = rcStep s.2.2 P (L, j) p := by
            rw [← HST.out, ← rcTo_snoc, List.take_add_one, hp]
            rfl
          have hpl := HLN.out p (List.mem_of_getElem? hp)
          obtain ⟨⟨pa, pb⟩, pl, px⟩ := p
          simp only at d0 d1 d2 d3 ht HROW hpl
          have HT := Lib.hid ht
          have HPL := Lib.hid hpl
          have z0 := (HB.out.block _ (blt Q2.out)).trans Q2.out
          have z1 : wr.cell? ⟨w.heap.size, 0, none⟩ = some (.int .u64 P.keep) := bcell z0 0
          have z2 : wr.cell? ⟨w.heap.size, 1, none⟩ = some (.int .i64 P.torn) := bcell z0 1
          have y1 : (wr.alloc (.cells #[.int .i64 pa, .int .i64 pb, .slice A1 pl.length c1, .bool px] TP)).cell? ⟨w.heap.size, 0, none⟩ = some (.int .u64 P.keep) := (World.cell?_alloc_lt wr _ _ (blt z0)).trans z1
          have y2 : (wr.alloc (.cells #[.int .i64 pa, .int .i64 pb, .slice A1 pl.length c1, .bool px] TP)).cell? ⟨w.heap.size, 1, none⟩ = some (.int .i64 P.torn) := (World.cell?_alloc_lt wr _ _ (blt z0)).trans z2
          have k0 : (0 : Int) ≤ (k : Int) := by omega
          have k4 : (k : Int) < (n : Int) := by omega
          have j0 : (0 : Int) ≤ (j : Int) := by omega
          have j4 : (j : Int) ≤ (k : Int) := by omega
          clear hc hp hrow ht z0 hpl z1 z2
          cases px with
          | false =>
            have hR2 := Kd.R_below HR.out (below_alloc (Below.refl _ wr) (.cells #[.int .i64 pa, .int .i64 pb, .slice A1 pl.length c1, .bool false] TP (0, 0)))
            obtain ⟨okp, hM, hokp⟩ := page_app hR2 ((HROW.out.below (below_alloc (Below.refl _ wr) (.cells #[.int .i64 pa, .int .i64 pb, .slice A1 pl.length c1, .bool false] TP (0, 0)))).mono (fun k hk => .inl hk)) pa pb false
            have HR2 := Aside0.mk hR2
            have HM := Aside0.mk hM
            have HOK := Lib.hid hokp
            have HB2 := Aside0.mk (below_alloc HB.out (.cells #[.int .i64 pa, .int .i64 pb, .slice A1 pl.length c1, .bool false] TP (0, 0)))
            have hWs : w.heap.size ≤ wc.heap.size := Q3.out.size
            have HWS := Lib.hid hWs
            clear hR2 hM hokp hWs
            go_wp2_with (at_builtin; refine Kd.R_append kPage (w0 := wc) N0 rfl (.tmp 37) (.tmp 39) 66 TP (.agg #[.int .i64 0, .int .i64 0, .slice none 0 0, .bool false]) 48 rfl Try.underlying66 info_page rfl (by decide) (by decide) (.slice A4 L.length c4) L ((pa, pb), pl, false) [.int .i64 pa, .int .i64 pb, .slice A1 pl.length c1, .bool false] (fun j => ok j ∨ w.heap.size ≤ j) okp rfl (by simp [Act.eval]) HM.out HOK.out (fun j hj => .inr (Nat.le_trans HWS.out (Nat.le_trans HB2.out.size hj))) HR2.out (HB2.out.mono (Nat.le_trans HN0.out HWS.out)) (Nat.le_trans HN0.out (Nat.le_trans HWS.out HB2.out.size)) (by omega) ?_; intro v1 w1 hr1 _ hg hat; have HR3 := Aside0.mk hr1; have HG := Aside0.mk hg; have HAT := Lib.hid hat; clear hr1 hg hat)
            refine ⟨⟨k + 1, j, L ++ [((pa, pb), pl, false)], by omega, by go_num, rfl, by rw [HT.out, rcStep, if_pos rfl], HB2.out.grown HG.out HB2.out.size HO.out, HR3.out, fun i hi => ?_⟩, by simp [intOf]; omega⟩
            rcases HAT.out with h2 | ⟨b, h2, h3⟩
            · exact HO.out i (by rw [← h2]; exact hi)
            · have : b = i := by rw [h2] at hi; exact Option.some.inj hi
              have h5 : wc.heap.size ≤ b := Nat.le_trans HB2.out.size h3
              omega
          | true =>
            by_cases hT : (j : Int) = P.torn
            · have e1 : ((j : Int) == P.torn) = true := by simp [hT]
              have e2 : ((j : Int) != P.torn) = false := by simp [hT]
              have hkp : keepB P j = false := by simp [keepB, hT]
              have HTT := Lib.hid hT
              have HKP := Lib.hid hkp
              clear hT hkp
              by_cases hq1 : 0 < q
              · obtain ⟨qn, hqe⟩ := Int.eq_ofNat_of_zero_le hq0
                subst hqe
                have hq3 : qn ≤ pl.length := by have := HPL.out; omega
                obtain ⟨X, hX⟩ : ∃ X, X = wr.alloc (.cells #[.int .i64 pa, .int .i64 pb, .slice A1 pl.length c1, .bool true] TP) := ⟨_, rfl⟩
                have x0 : X.heap[wr.heap.size]? = some (.cells #[.int .i64 pa, .int .i64 pb, .slice A1 pl.length c1, .bool true] TP (0, 0)) := by rw [hX]; exact blk_new wr _
                have hBX0 : Below wr.heap.size wr X := by rw [hX]; exact below_alloc (Below.refl _ _) _
                have hBX : Below wc.heap.size wc X := HB.out.trans (hBX0.mono HB.out.size)
                have hRX := Kd.R_below HR.out hBX0
                obtain ⟨A5, c5, e5, hlc, hC⟩ := (HROW.out.below hBX0).reads
                injection e5 with e5 e6 e7
                subst e5 e7
                have hRefX := (HXX.out.below (Q3.out.trans (hBX.mono Q3.out.size)))
                have hcall := RFull_any (w := X.drew) (hRefX.step (fun _ _ _ => rfl)) HS.out A1 c1 (pl.take qn) (by rw [List.length_take, Nat.min_eq_left hq3]; exact C_take hC qn hq3) (by rw [List.length_take]; have := HS.out.c1; have := HPL.out; omega)
                rw [List.length_take, Nat.min_eq_left hq3] at hcall
                have x1 : X.cell? ⟨wr.heap.size, 0, none⟩ = some (.int .i64 pa) := bcell x0 0
                have x2 : X.cell? ⟨wr.heap.size, 1, none⟩ = some (.int .i64 pb) := bcell x0 1
                have x3 : X.cell? ⟨wr.heap.size, 2, none⟩ = some (.slice A1 pl.length c1) := bcell x0 2
                have x4 : X.cell? ⟨wr.heap.size, 3, none⟩ = some (.bool true) := bcell x0 3
                have X0 := Lib.hid x0
                have HX1 := Lib.hid hX
                have HBX := Aside0.mk hBX
                have HRX := Aside0.mk hRX
                have HCALL := Lib.hid hcall
                have hol : ∀ i, (Value.slice A4 L.length c4).ownBlock = some i → some wr.heap.size ≠ some i := fun i hi e => by
                  obtain ⟨cs', hc'⟩ := own_typed (Kd.R_own HR.out).choose_spec i hi
                  have h1 := blt hc'
                  have h2 : wr.heap.size = i := Option.some.inj e
                  omega
                have HOL : Hid (some wr.heap.size ≠ (Value.slice A4 L.length c4).ownBlock) := Lib.hid (fun e => hol _ e.symm rfl)
                clear hol
                have q5 : (qn : Int) ≤ (c1 : Int) := by omega
                have q6 : (qn : Int) ≤ (pl.length : Int) := by omega
                have hcv : ((j : Int) = P.torn ∧ 0 < cutV s.2.2 P) := ⟨HTT.out, by rw [← HQ.out]; exact hq1⟩
                have HCV := Lib.hid hcv
                have HWS := Lib.hid (show w.heap.size ≤ wc.heap.size from Q3.out.size)
                clear hX hBX0 hBX hRX hC hRefX hcall hcv x0 hlc
                go_wp2_with fail
                rw [← HX1.out]
                clear y1 y2
                go_region_held3 (fun w' => w'.cell? ⟨wr.heap.size, 0, none⟩ = some (.int .i64 pa) ∧ w'.cell? ⟨wr.heap.size, 1, none⟩ = some (.int .i64 pb) ∧ w'.cell? ⟨wr.heap.size, 2, none⟩ = some (.slice A1 pl.length c1)) (first | go_keep | exact ⟨k4, k5, k6⟩ | exact ⟨k7, k8, k9⟩)
                  (first
                    | (go_at_call 44; refine HCALL.out.mono ?_; rintro e w1 ⟨v1, rfl, hr1, hbel⟩; obtain ⟨A6, c6, rfl⟩ := Kd.R_slice hr1; have hb0 : Below X.heap.size X w1 := undrew hbel; obtain ⟨okp, hM, hokp⟩ := page_app (Kd.R_below HRX.out hb0) (((Row.ofR hr1).lower (Nat.le_trans HN0.out (Nat.le_trans HWS.out HBX.out.size))).mono (fun k hk => .inr (Nat.le_trans HWS.out (Nat.le_trans HBX.out.size hk)))) pa pb false; have HM := Aside0.mk hM; have HOK := Lib.hid hokp; have HB0 := Aside0.mk hb0; have k4 : w1.cell? ⟨wr.heap.size, 0, none⟩ = some (.int .i64 pa) := (hb0.cell (p := ⟨wr.heap.size, 0, none⟩) (blt X0.out)).trans x1; have k5 : w1.cell? ⟨wr.heap.size, 1, none⟩ = some (.int .i64 pb) := (hb0.cell (p := ⟨wr.heap.size, 1, none⟩) (blt X0.out)).trans x2; have k6 : w1.cell? ⟨wr.heap.size, 2, none⟩ = some (.slice A1 pl.length c1) := (hb0.cell (p := ⟨wr.heap.size, 2, none⟩) (blt X0.out)).trans x3; clear hr1 hM hokp hb0 hbel)
                    | (refine Kd.R_append_step kPage (w0 := wc) (W := w1) N0 (by rfl) (.tmp 49) (.tmp 59) 66 TP (.agg #[.int .i64 0, .int .i64 0, .slice none 0 0, .bool false]) 48 (by rfl) Try.underlying66 info_page rfl (by decide) (by decide) (.slice A4 L.length c4) L ((pa, pb), fullT s.2.2.toNat (pl.take qn), false) [.int .i64 pa, .int .i64 pb, .slice A6 (fullT s.2.2.toNat (pl.take qn)).length c6, .bool false] (fun j => ok j ∨ w.heap.size ≤ j) okp (by rfl) (by rfl) HM.out HOK.out (fun j hj => .inr (Nat.le_trans HWS.out (Nat.le_trans (HBX.out.trans (HB0.out.mono HBX.out.size)).size hj))) (Kd.R_below HRX.out HB0.out) ((HBX.out.trans (HB0.out.mono HBX.out.size)).mono (Nat.le_trans HN0.out HWS.out)) (Nat.le_trans HN0.out (Nat.le_trans HWS.out (HBX.out.trans (HB0.out.mono HBX.out.size)).size)) (by omega) ?_; intro v1 w2 hr1 _ hg hat; have HR3 := Aside0.mk hr1; have HG := Aside0.mk hg; have HAT := Lib.hid hat; have k7 := hg.cell (a := ⟨wr.heap.size, 0, none⟩) k4 HOL.out; have k8 := hg.cell (a := ⟨wr.heap.size, 1, none⟩) k5 HOL.out; have k9 := hg.cell (a := ⟨wr.heap.size, 2, none⟩) k6 HOL.out; clear hr1 hg hat))
                have z0 : w2.heap[w.heap.size]? = some (.cells #[.int .u64 P.keep, .int .i64 P.torn, .int .i64 P.cut] 59 (0, 0)) := ((HBX.out.trans (HB0.out.mono HBX.out.size)).grown HG.out (HBX.out.trans (HB0.out.mono HBX.out.size)).size HO.out |>.block _ (blt Q2.out)).trans Q2.out
                have z1 : w2.cell? ⟨w.heap.size, 0, none⟩ = some (.int .u64 P.keep) := bcell z0 0
                have z2 : w2.cell? ⟨w.heap.size, 1, none⟩ = some (.int .i64 P.torn) := bcell z0 1
                clear z0
                go_wp2
                refine ⟨⟨k + 1, j + 1, L ++ [((pa, pb), fullT s.2.2.toNat (pl.take qn), false)], by omega, by go_num, by go_num, ?_, (HBX.out.trans (HB0.out.mono HBX.out.size)).grown HG.out (HBX.out.trans (HB0.out.mono HBX.out.size)).size HO.out, HR3.out, fun i hi => ?_⟩, by simp [intOf]; omega⟩
                · rw [HT.out, rcStep, if_neg (by simp), if_pos HCV.out, if_neg (by rw [HKP.out]; decide), ← HQ.out]
                  simp
                · rcases HAT.out with h2 | ⟨b, h2, h3⟩
                  · exact HO.out i (by rw [← h2]; exact hi)
                  · have : b = i := by rw [h2] at hi; exact Option.some.inj hi
                    have h5 : wc.heap.size ≤ b := Nat.le_trans (HBX.out.trans (HB0.out.mono HBX.out.size)).size h3
                    omega
              · have hcv : ¬ ((j : Int) = P.torn ∧ 0 < cutV s.2.2 P) := fun h => hq1 (by rw [HQ.out]; exact h.2)
                have HCV := Lib.hid hcv
                clear hcv
                go_wp2
                refine ⟨⟨k + 1, j + 1, L, by omega, by go_num, by go_num, by rw [HT.out, rcStep, if_neg (by simp), if_neg HCV.out, if_neg (by rw [HKP.out]; decide)]; simp, below_alloc HB.out _, Kd.R_below HR.out (below_alloc (Below.refl _ _) _), HO.out⟩, by simp [intOf]; omega⟩
            · have e1 : ((j : Int) == P.torn) = false := by simp [hT]
              have e2 : ((j : Int) != P.torn) = true := by simp [hT]
              have hcv : ¬ ((j : Int) = P.torn ∧ 0 < cutV s.2.2 P) := fun h => hT h.1
              have HCV := Lib.hid hcv
              have HTT := Lib.hid hT
              clear hT hcv
              by_cases h64 : j < 64
              · have e3 : (j : Int) < 64 := by omega
                have htm : (P.keep / 2 ^ j).tmod 2 = P.keep / 2 ^ j % 2 := Int.tmod_eq_emod_of_nonneg (Int.ediv_nonneg hk0 (by have : (0 : Int) < 2 ^ j := Int.pow_pos (by decide); omega))
                cases hb : decide (P.keep / 2 ^ j % 2 = 1) with
                | true =>
                  have e5 : ((P.keep / 2 ^ j).tmod 2 == 1) = true := by rw [htm]; simpa using hb
                  have HKP := Lib.hid (show keepB P j = true by simp only [keepB, hb, HTT.out, h64]; simp)
                  clear hb htm
                  have hR2 := Kd.R_below HR.out (below_alloc (Below.refl _ wr) (.cells #[.int .i64 pa, .int .i64 pb, .slice A1 pl.length c1, .bool true] TP (0, 0)))
                  obtain ⟨okp, hM, hokp⟩ := page_app hR2 ((HROW.out.below (below_alloc (Below.refl _ wr) (.cells #[.int .i64 pa, .int .i64 pb, .slice A1 pl.length c1, .bool true] TP (0, 0)))).mono (fun k hk => .inl hk)) pa pb false
                  have HR2 := Aside0.mk hR2
                  have HM := Aside0.mk hM
                  have HOK := Lib.hid hokp
                  have HB2 := Aside0.mk (below_alloc HB.out (.cells #[.int .i64 pa, .int .i64 pb, .slice A1 pl.length c1, .bool true] TP (0, 0)))
                  have hWs : w.heap.size ≤ wc.heap.size := Q3.out.size
                  have HWS := Lib.hid hWs
                  clear hR2 hM hokp hWs
                  go_wp2_with (at_builtin; refine Kd.R_append kPage (w0 := wc) N0 rfl (.tmp 78) (.tmp 84) 66 TP (.agg #[.int .i64 0, .int .i64 0, .slice none 0 0, .bool false]) 48 rfl Try.underlying66 info_page rfl (by decide) (by decide) (.slice A4 L.length c4) L ((pa, pb), pl, false) [.int .i64 pa, .int .i64 pb, .slice A1 pl.length c1, .bool false] (fun j => ok j ∨ w.heap.size ≤ j) okp rfl (by simp [Act.eval]) HM.out HOK.out (fun j hj => .inr (Nat.le_trans HWS.out (Nat.le_trans HB2.out.size hj))) HR2.out (HB2.out.mono (Nat.le_trans HN0.out HWS.out)) (Nat.le_trans HN0.out (Nat.le_trans HWS.out HB2.out.size)) (by omega) ?_; intro v1 w1 hr1 _ hg hat; have HR3 := Aside0.mk hr1; have HG := Aside0.mk hg; have HAT := Lib.hid hat; clear hr1 hg hat)
                  refine ⟨⟨k + 1, j + 1, L ++ [((pa, pb), pl, false)], by omega, by go_num, by go_num, by rw [HT.out, rcStep, if_neg (by simp), if_neg HCV.out, if_pos HKP.out]; simp, HB2.out.grown HG.out HB2.out.size HO.out, HR3.out, fun i hi => ?_⟩, by simp [intOf]; omega⟩
                  rcases HAT.out with h2 | ⟨b, h2, h3⟩
                  · exact HO.out i (by rw [← h2]; exact hi)
                  · have : b = i := by rw [h2] at hi; exact Option.some.inj hi
                    have h5 : wc.heap.size ≤ b := Nat.le_trans HB2.out.size h3
                    omega
                | false =>
                  have e5 : ((P.keep / 2 ^ j).tmod 2 == 1) = false := by rw [htm]; simpa using hb
                  have HKP := Lib.hid (show keepB P j = false by simp only [keepB, hb]; simp)
                  clear hb htm
                  go_wp2
                  refine ⟨⟨k + 1, j + 1, L, by omega, by go_num, by go_num, by rw [HT.out, rcStep, if_neg (by simp), if_neg HCV.out, if_neg (by rw [HKP.out]; decide)]; simp, below_alloc HB.out _, Kd.R_below HR.out (below_alloc (Below.refl _ _) _), HO.out⟩, by simp [intOf]; omega⟩
              · have e3 : ¬ (j : Int) < 64 := by omega
                have e4 : decide ((j : Int) < 64) = false := by simpa using e3
                have HKP := Lib.hid (show keepB P j = false by simp [keepB, h64])
                go_wp2
                refine ⟨⟨k + 1, j + 1, L, by omega, by go_num, by go_num, by rw [HT.out, rcStep, if_neg (by simp), if_neg HCV.out, if_neg (by rw [HKP.out]; decide)]; simp, below_alloc HB.out _, Kd.R_below HR.out (below_alloc (Below.refl _ _) _), HO.out⟩, by simp [intOf]; omega⟩
        · obtain rfl : k = n := by omega
          have b1 := (HB.out.block x (Nat.lt_of_lt_of_le (blt HX.out) Q3.out.size)).trans Q1.out
          have e3 : wr.cell? ⟨x, 3, none⟩ = some (.slice A k c) := bcell b1 3
          have f3 : wr.frozen? ⟨x, 3, none⟩ = false := bfrozen b1 3
          have B1 := Lib.hid b1
          clear b1
          go_wp2
          go_end0
          have hL2 : (rcTo s.2.2 P ps).1 = L := by
            have h := HST.out
            rw [List.take_of_length_le (by have := HN.out; omega)] at h
            rw [h]
          refine ⟨rfl, by rw [hL2]; exact ref_end HXX.out.base (.inl HXX.out.okx) B1.out HR.out, (Upd.ofBelow (Q3.out.trans (HB.out.mono Q3.out.size)) _).trans (Upd.setCell wr (p := ⟨x, 3, none⟩) (mut_of HXX.out.okx HX.out (by decide)) _) (fun _ h _ => h)⟩
end
end Go.Proofs.Ytkmanjfmffdcbaa.Fl

/- Two rows of bytes told apart, walked. No condition. -/
namespace Go.Proofs.Ytkmanjfmffdcbaa.Fl
open Go.RowKit Go.Proofs.YtkmanjfmffdcbaaW.PrintWords Go.Proofs.YtkmanjfmffdcbaaW.PrintMore Go.Maps
set_option linter.unusedSimpArgs false
set_option linter.unusedVariables false
theorem take_eq_succ {l m : List Int} {k : Nat} {a b : Int} (ha : l[k]? = some a) (hb : m[k]? = some b) (h : l.take k = m.take k) (hab : a = b) : l.take (k + 1) = m.take (k + 1) := by
  rw [List.take_add_one, List.take_add_one, ha, hb, h, hab]
set_option maxHeartbeats 2000000 in
set_option maxRecDepth 100000 in
theorem Bytes_any {w : World} {A B : Option Addr} {c d : Nat} {l m : List Int} (hl : kB.C w A l.length l) (hm : kB.C w B m.length m) (h0 : l.length < 1000000) (h1 : m.length < 1000000) :
    Calls Try.prog 19 #[.slice A l.length c, .slice B m.length d] w fun e w' => e = .returned (.bool (decide (l = m))) ∧ Below w.heap.size w w' := by
  obtain ⟨n, hn⟩ : ∃ n, n = l.length := ⟨_, rfl⟩
  obtain ⟨n2, hn2⟩ : ∃ n, n = m.length := ⟨_, rfl⟩
  have HL := Aside0.mk hl
  have HM := Aside0.mk hm
  have HN := Lib.hid hn
  have HN2 := Lib.hid hn2
  rw [← hn] at h0
  rw [← hn2] at h1
  rw [← hn, ← hn2]
  clear hl hm hn hn2
  by_cases hne : n = n2
  · subst hne
    go_enter Try.func19, Try.ntmps19
    go_wp2
    go_loopw [5, 13] (fun v5 v13 wr => ∃ k : Nat, k ≤ n ∧ v13 = .int .i64 (k : Int) ∧ Below w.heap.size w wr ∧ l.take k = m.take k) (fun _ v13 _ => n - (intOf v13).toNat)
    case atStart => exact ⟨0, Nat.zero_le _, rfl, Below.refl _ _, rfl⟩
    case round =>
      obtain ⟨k, hk, rfl, hb, ht⟩ := hrel
      have HB := Aside0.mk hb
      clear hb
      have HT := Lib.hid ht
      clear ht
      by_cases hlt : k < n
      · obtain ⟨a, ha⟩ : ∃ a, l[k]? = some a := ⟨_, List.getElem?_eq_getElem (by have := HN.out; omega)⟩
        obtain ⟨b, hb⟩ : ∃ b, m[k]? = some b := ⟨_, List.getElem?_eq_getElem (by have := HN2.out; omega)⟩
        obtain ⟨ad, hA, hca⟩ := C_cells HL.out (by have := HN.out; omega)
        obtain ⟨bd, hB, hcb⟩ := C_cells HM.out (by have := HN2.out; omega)
        have ka0 := hca k (.int .u8 a) (by simp [ha])
        have ka : wr.cell? (ad.add k) = some (.int .u8 a) := (HB.out.cell (blt_of_cell ka0)).trans ka0
        have kb0 := hcb k (.int .u8 b) (by simp [hb])
        have kb : wr.cell? (bd.add k) = some (.int .u8 b) := (HB.out.cell (blt_of_cell kb0)).trans kb0
        clear ka0 kb0
        have HA := Lib.hid ha
        have HBB := Lib.hid hb
        have k0 : (0 : Int) ≤ (k : Int) := by omega
        have k2 : (k : Int) < (n : Int) := by omega
        subst hA hB
        clear ha hb hca hcb
        go_wp2_with fail
        go_region_held3 (fun w' => w'.cell? (ad.add k) = some (.int .u8 a) ∧ w'.cell? (bd.add k) = some (.int .u8 b)) (go_keep) (fail)
        by_cases hab : a = b
        · have e1 : (a != b) = false := by simp [hab]
          go_wp2
          exact ⟨⟨k + 1, by omega, by go_num, HB.out.drew, take_eq_succ HA.out HBB.out HT.out hab⟩, by simp [intOf]; omega⟩
        · have e1 : (a != b) = true := by simp [hab]
          go_wp2
          go_ret
          refine ⟨?_, HB.out.drew⟩
          rw [decide_eq_false]
          · rfl
          intro e
          have h1 := HA.out
          have h2 := HBB.out
          rw [e, h2] at h1
          exact hab (Option.some.inj h1).symm
      · obtain rfl : k = n := by omega
        go_wp2
        go_ret
        refine ⟨?_, HB.out⟩
        have h := HT.out
        rw [List.take_of_length_le (by have := HN.out; omega), List.take_of_length_le (by have := HN2.out; omega)] at h
        rw [decide_eq_true h]
        rfl
  · have e1 : ((n : Int) != (n2 : Int)) = true := by simp; omega
    have hlm : ¬ l = m := fun e => hne (by rw [HN.out, HN2.out, e])
    have HLM := Lib.hid hlm
    clear hlm hne
    go_enter Try.func19, Try.ntmps19
    go_wp2
    go_ret
    exact ⟨by rw [decide_eq_false HLM.out]; rfl, Below.refl _ _⟩
end Go.Proofs.Ytkmanjfmffdcbaa.Fl

/- The driver's device and the document's: what they have in common, and that each deed keeps it. No program in sight. -/
namespace Go.Proofs.Ytkmanjfmffdcbaa.Fl
open Go.RowKit Go.Proofs.YtkmanjfmffdcbaaW.PrintWords Go.Proofs.YtkmanjfmffdcbaaW.PrintMore Go.Maps
set_option linter.unusedSimpArgs false
set_option linter.unusedVariables false
theorem and_one (x : Nat) (h : x < 18446744073709551616) : Go.bits .and .u64 (x : Int) 1 = ((x % 2 : Nat) : Int) := by
  have h2 := bits_and_u64_nat x 1 h (by omega)
  rw [Nat.and_one_is_mod] at h2
  exact h2
def crF (n : Int) (P : PlanT) : Nat → List Adr → List (Adr × List Int) → List (Adr × List Int)
  | _, [], mp => mp
  | i, a :: d, mp => crF n P (i + 1) d (stepC n P i a mp)
theorem crF_snoc (n : Int) (P : PlanT) (a : Adr) : ∀ (d : List Adr) (i : Nat) (mp : List (Adr × List Int)), crF n P i (d ++ [a]) mp = stepC n P (i + d.length) a (crF n P i d mp)
  | [], _, _ => rfl
  | b :: d, i, mp => by
    show crF n P (i + 1) (d ++ [a]) (stepC n P i b mp) = _
    rw [crF_snoc n P a d (i + 1)]
    show _ = stepC n P (i + (d.length + 1)) a (crF n P (i + 1) d (stepC n P i b mp))
    rw [show i + 1 + d.length = i + (d.length + 1) by omega]
theorem crashTo_crF (n : Int) (P : PlanT) (d : List Adr) (mp : List (Adr × List Int)) : ∀ k, k ≤ d.length → crashTo n P d mp k = crF n P 0 (d.take k) mp
  | 0, _ => by simp [crashTo, crF]
  | k + 1, h => by
    have hk : d[k]? = some d[k] := List.getElem?_eq_getElem (by omega)
    rw [crashTo_succ hk, List.take_add_one, hk, crashTo_crF n P d mp k (by omega)]
    show _ = crF n P 0 (d.take k ++ [d[k]]) mp
    rw [crF_snoc, List.length_take, Nat.min_eq_left (by omega), Nat.zero_add]
theorem crashTo_all (n : Int) (P : PlanT) (d : List Adr) (mp : List (Adr × List Int)) : crashTo n P d mp d.length = crF n P 0 d mp := by
  rw [crashTo_crF n P d mp _ (Nat.le_refl _), List.take_of_length_le (Nat.le_refl _)]
def keepO (n : Int) (P : PlanT) (i : Nat) (l : List Int) : Option (List Int) :=
  if (i : Int) = P.torn ∧ 0 < cutV n P then some (fullT n.toNat (l.take (cutV n P).toNat)) else if keepB P i then some l else none
def rcR (n : Int) (P : PlanT) : Nat → List Pg → List Pg
  | _, [] => []
  | i, p :: ps => if p.2.2 = false then p :: rcR n P i ps else ((keepO n P i p.2.1).map (fun l => (p.1, l, false))).toList ++ rcR n P (i + 1) ps
theorem keepB_torn {P : PlanT} {i : Nat} (h : (i : Int) = P.torn) : keepB P i = false := by simp [keepB, h]
theorem rcTo_rcR (n : Int) (P : PlanT) : ∀ (ps acc : List Pg) (i : Nat), (ps.foldl (rcStep n P) (acc, i)).1 = acc ++ rcR n P i ps
  | [], acc, i => by simp [rcR]
  | p :: ps, acc, i => by
    rw [List.foldl_cons]
    by_cases h : p.2.2 = false
    · have e : rcStep n P (acc, i) p = (acc ++ [p], i) := by rw [rcStep, if_pos h]
      rw [e, rcTo_rcR n P ps]
      simp [rcR, h]
    · have e : rcStep n P (acc, i) p = (acc ++ ((keepO n P i p.2.1).map (fun l => (p.1, l, false))).toList, i + 1) := by
        rw [rcStep, if_neg h]
        by_cases h1 : (i : Int) = P.torn ∧ 0 < cutV n P
        · simp only [keepO, if_pos h1, keepB_torn h1.1]
          simp
        · simp only [keepO, if_neg h1]
          cases keepB P i <;> simp
      rw [e, rcTo_rcR n P ps, rcR, if_neg h, List.append_assoc]
theorem rcTo_eq (n : Int) (P : PlanT) (ps : List Pg) : (rcTo n P ps).1 = rcR n P 0 ps := by
  rw [rcTo, rcTo_rcR]
  rfl
def atA (c : Adr) (p : Pg) : Bool := decide (p.1 = c)
theorem atB_eq (a b : Int) : atB a b = atA (a, b) := by
  funext p
  obtain ⟨⟨x, y⟩, l, d⟩ := p
  simp [atB, atA]
def got (c : Adr) (ps : List Pg) : Option (List Int) := (ps.find? (atA c)).map (·.2.1)
theorem got_cons (c : Adr) (p : Pg) (ps : List Pg) : got c (p :: ps) = if p.1 = c then some p.2.1 else got c ps := by
  unfold got atA
  by_cases h : p.1 = c <;> simp [h]
theorem got_append (c : Adr) : ∀ (ps qs : List Pg), got c (ps ++ qs) = (got c ps).or (got c qs)
  | [], qs => by simp [got]
  | p :: ps, qs => by
    rw [List.cons_append, got_cons, got_cons, got_append c ps qs]
    by_cases h : p.1 = c <;> simp [h]
theorem got_none {c : Adr} {ps : List Pg} (h : ∀ p ∈ ps, p.1 ≠ c) : got c ps = none := by
  unfold got
  rw [List.find?_eq_none.2 (fun p hp => by simp [atA, h p hp])]
  rfl
theorem got_mem {c : Adr} : ∀ {ps : List Pg} {l : List Int}, got c ps = some l → ∃ p ∈ ps, p.1 = c ∧ p.2.1 = l
  | [], _, h => by simp [got] at h
  | p :: ps, l, h => by
    rw [got_cons] at h
    by_cases hp : p.1 = c
    · rw [if_pos hp] at h
      exact ⟨p, by simp, hp, Option.some.inj h⟩
    · rw [if_neg hp] at h
      obtain ⟨q, h1, h2⟩ := got_mem h
      exact ⟨q, by simp [h1], h2⟩
theorem mem_rcR {n : Int} {P : PlanT} {q : Pg} : ∀ {ps : List Pg} {i : Nat}, q ∈ rcR n P i ps → q.2.2 = false ∧ ∃ p ∈ ps, q.1 = p.1 ∧ (p.2.1.length = n.toNat → q.2.1.length = n.toNat)
  | [], _, h => by simp [rcR] at h
  | p :: ps, i, h => by
    rw [rcR] at h
    by_cases hd : p.2.2 = false
    · rw [if_pos hd, List.mem_cons] at h
      rcases h with rfl | h
      · exact ⟨hd, q, by simp, rfl, id⟩
      · obtain ⟨h1, p', h2, h3⟩ := mem_rcR h
        exact ⟨h1, p', by simp [h2], h3⟩
    · rw [if_neg hd, List.mem_append] at h
      rcases h with h | h
      · cases hk : keepO n P i p.2.1 with
        | none => rw [hk] at h; simp at h
        | some l =>
          rw [hk] at h
          simp at h
          subst h
          refine ⟨rfl, p, by simp, rfl, fun hl => ?_⟩
          unfold keepO at hk
          split at hk
          · rw [← Option.some.inj hk]; exact fullT_length _ _
          · split at hk
            · rw [← Option.some.inj hk]; exact hl
            · cases hk
      · obtain ⟨h1, p', h2, h3⟩ := mem_rcR h
        exact ⟨h1, p', by simp [h2], h3⟩
abbrev Nd (ps : List Pg) : Prop := ps.Pairwise (fun p q => p.1 ≠ q.1)
theorem nd_rcR {n : Int} {P : PlanT} : ∀ {ps : List Pg} {i : Nat}, Nd ps → Nd (rcR n P i ps)
  | [], _, _ => by simp [rcR, Nd]
  | p :: ps, i, h => by
    obtain ⟨h1, h2⟩ := List.pairwise_cons.1 h
    have hm : ∀ {j : Nat} {q : Pg}, q ∈ rcR n P j ps → p.1 ≠ q.1 := fun hq => by
      obtain ⟨_, p', h3, h4, _⟩ := mem_rcR hq
      rw [h4]
      exact h1 p' h3
    rw [rcR]
    split
    · exact List.pairwise_cons.2 ⟨fun q hq => hm hq, nd_rcR h2⟩
    · cases keepO n P i p.2.1 with
      | none => simpa using nd_rcR h2
      | some l => exact List.pairwise_cons.2 ⟨fun q hq => hm hq, nd_rcR h2⟩
theorem rcR_len {n : Int} {P : PlanT} : ∀ {ps : List Pg} {i : Nat}, (rcR n P i ps).length ≤ ps.length
  | [], _ => by simp [rcR]
  | p :: ps, i => by
    rw [rcR]
    split
    · have := rcR_len (n := n) (P := P) (ps := ps) (i := i); simp; omega
    · have := rcR_len (n := n) (P := P) (ps := ps) (i := i + 1)
      cases keepO n P i p.2.1 <;> simp <;> omega
structure PlanOk (P : PlanT) : Prop where
  k0 : 0 ≤ P.keep
  k1 : P.keep < 18446744073709551616
theorem bitB_iff {P : PlanT} (h : PlanOk P) (i : Nat) : bitB P.keep i = decide (P.keep / 2 ^ i % 2 = 0) := by
  obtain ⟨k, hk⟩ := Int.eq_ofNat_of_zero_le h.k0
  have hk1 := h.k1
  rw [hk] at hk1 ⊢
  have e : ((k : Int) / 2 ^ i) = ((k / 2 ^ i : Nat) : Int) := by simp
  unfold bitB
  rw [e, and_one _ (Nat.lt_of_le_of_lt (Nat.div_le_self _ _) (by omega))]
  congr 1
theorem look_step {n : Int} {P : PlanT} (hP : PlanOk P) {i : Nat} {a : Adr} {mp : List (Adr × List Int)} {l : List Int} (hn : Nodup mp) (h0 : 0 ≤ n) (hl : look a mp = some l) (hll : l.length = n.toNat) : look a (stepC n P i a mp) = keepO n P i l := by
  unfold stepC keepO
  by_cases h1 : (i : Int) = P.torn ∧ 0 < cutV n P
  · rw [if_pos h1, if_pos h1, look_put, if_pos rfl, hl]
    simp only [Option.getD_some, fullT]
    rw [List.take_take, Nat.min_eq_right]
    have : cutV n P ≤ n := by unfold cutV; split <;> omega
    omega
  · rw [if_neg h1, if_neg h1]
    by_cases ht : (i : Int) = P.torn
    · rw [if_pos (.inl ht), keepB_torn ht, look_del _ _ hn, if_pos rfl]; rfl
    · by_cases h64 : 64 ≤ i
      · have : keepB P i = false := by simp [keepB]; intro _ h; omega
        rw [if_pos (.inr (.inl h64)), this, look_del _ _ hn, if_pos rfl]; rfl
      · have hb := bitB_iff hP i
        have hmod : P.keep / 2 ^ i % 2 = 0 ∨ P.keep / 2 ^ i % 2 = 1 := by omega
        rcases hmod with h | h
        · have hk : keepB P i = false := by simp [keepB, h]
          rw [if_pos (.inr (.inr (by rw [hb, h]; rfl))), hk, look_del _ _ hn, if_pos rfl]; rfl
        · have hk : keepB P i = true := by simp [keepB, h, ht]; omega
          rw [if_neg, hk, if_pos rfl, hl]
          rintro (h2 | h2 | h2)
          · exact ht h2
          · exact h64 h2
          · rw [hb, h] at h2; cases h2
theorem look_crF {n : Int} {P : PlanT} (hP : PlanOk P) (h0 : 0 ≤ n) (c : Adr) : ∀ (ps : List Pg) (i : Nat) (mp : List (Adr × List Int)), Nodup mp → Nd ps → (∀ p ∈ ps, look p.1 mp = some p.2.1) → (∀ p ∈ ps, p.2.1.length = n.toNat) →
    look c (crF n P i ((ps.filter (·.2.2)).map (·.1)) mp) = if (∃ p ∈ ps, p.1 = c) then got c (rcR n P i ps) else look c mp
  | [], i, mp, _, _, _, _ => by simp [crF]
  | p :: ps, i, mp, hn, hd, hl, hll => by
    obtain ⟨h1, h2⟩ := List.pairwise_cons.1 hd
    have hex : (∃ q ∈ p :: ps, q.1 = c) ↔ p.1 = c ∨ ∃ q ∈ ps, q.1 = c := by simp
    by_cases hp : p.2.2 = false
    · have ih := look_crF hP h0 c ps i mp hn h2 (fun q hq => hl q (by simp [hq])) (fun q hq => hll q (by simp [hq]))
      rw [List.filter_cons_of_neg (by simp [hp]), ih, rcR, if_pos hp, got_cons]
      by_cases hc : p.1 = c
      · rw [if_neg (fun ⟨q, hq, e⟩ => h1 q hq (hc.trans e.symm)), if_pos (hex.2 (.inl hc)), if_pos hc, ← hc]
        exact hl p (by simp)
      · rw [if_neg hc]
        by_cases hq : ∃ q ∈ ps, q.1 = c
        · rw [if_pos hq, if_pos (hex.2 (.inr hq))]
        · rw [if_neg hq, if_neg (fun h => (hex.1 h).elim hc hq)]
    · have ih := look_crF hP h0 c ps (i + 1) (stepC n P i p.1 mp) (nodup_stepC hn) h2 (fun q hq => by rw [look_stepC hn (fun e => h1 q hq e.symm)]; exact hl q (by simp [hq])) (fun q hq => hll q (by simp [hq]))
      rw [List.filter_cons_of_pos (by simpa using hp), List.map_cons, crF, ih, rcR, if_neg hp, got_append]
      by_cases hc : p.1 = c
      · have hnq : ¬ ∃ q ∈ ps, q.1 = c := fun ⟨q, hq, e⟩ => h1 q hq (hc.trans e.symm)
        have hg : got c (rcR n P (i + 1) ps) = none := got_none (fun q hq e => by
          obtain ⟨_, p', h3, h4, _⟩ := mem_rcR hq
          exact hnq ⟨p', h3, h4.symm.trans e⟩)
        rw [if_neg hnq, if_pos (hex.2 (.inl hc)), hg, ← hc, look_step hP hn h0 (hl p (by simp)) (hll p (by simp))]
        cases keepO n P i p.2.1 <;> simp [got, atA]
      · have hg : got c ((keepO n P i p.2.1).map (fun l => (p.1, l, false))).toList = none := got_none (fun q hq => by
          cases hk : keepO n P i p.2.1 with
          | none => rw [hk] at hq; simp at hq
          | some l => rw [hk] at hq; simp at hq; rw [hq]; exact hc)
        rw [hg, look_stepC hn (fun e => hc e.symm)]
        by_cases hq : ∃ q ∈ ps, q.1 = c
        · rw [if_pos hq, if_pos (hex.2 (.inr hq))]; rfl
        · rw [if_neg hq, if_neg (fun h => (hex.1 h).elim hc hq)]
end Go.Proofs.Ytkmanjfmffdcbaa.Fl

/- The driver's device and the document's stay together, deed by deed. No program in sight. -/
namespace Go.Proofs.Ytkmanjfmffdcbaa.Fl
set_option linter.unusedSimpArgs false
set_option linter.unusedVariables false
structure Sim (D : PD) (s : Int × Int × Int) (ps : List Pg) : Prop where
  sh : D.s = s
  lk : ∀ c, look c D.mp = got c ps
  dirty : D.dirty = (ps.filter (·.2.2)).map (·.1)
  nd : Nd ps
  len : ∀ p ∈ ps, p.2.1.length = s.2.2.toNat
  has : ∀ p ∈ ps, hasB s p.1.1 p.1.2 = true
theorem Sim.new (s : Int × Int × Int) : Sim { s := s, mp := [], dirty := [] } s [] := ⟨rfl, fun _ => rfl, rfl, by simp [Nd], by simp, by simp⟩
theorem idxI_cases {α : Type} (q : α → Bool) (l : List α) : idxI q l = -1 ∨ ∃ (i : Nat) (a : α), idxI q l = (i : Int) ∧ l[i]? = some a := by
  have h := find_idx q l
  unfold idxI
  cases hi : idxOf q l with
  | none => exact .inl rfl
  | some i =>
    refine .inr ⟨i, ?_⟩
    rw [hi] at h
    cases hf : l[i]? with
    | some a => exact ⟨a, rfl, rfl⟩
    | none =>
      exfalso
      clear h
      revert i
      induction l with
      | nil => intro i hi; cases hi
      | cons b l ih =>
        intro i hi hf
        unfold idxOf at hi
        split at hi
        · cases hi; simp at hf
        · cases hj : idxOf q l with
          | none => rw [hj] at hi; cases hi
          | some j =>
            rw [hj] at hi
            cases hi
            exact ih j hj (by simpa using hf)
theorem findI_iff (a b : Int) (ps : List Pg) : decide (0 ≤ findI a b ps) = (got (a, b) ps).isSome := by
  unfold findI got
  rw [← atB_eq]
  rcases idxI_cases (atB a b) ps with h | ⟨i, p, h, hp⟩
  · rw [h, find_none h]; rfl
  · rw [h, find_some h hp]; simp
variable {D : PD} {s : Int × Int × Int} {ps : List Pg}
theorem Sim.used (h : Sim D s ps) (a b : Int) : usedB D a b = decide (0 ≤ findI a b ps) := by
  rw [findI_iff, usedB, h.lk, h.sh]
  cases hg : got (a, b) ps with
  | none => simp
  | some l =>
    obtain ⟨p, hp, h1, _⟩ := got_mem hg
    have := h.has p hp
    rw [h1] at this
    simp [this]
theorem Sim.writeE (h : Sim D s ps) (a b : Int) (l : List Int) : writeE D a b l = rwE s ps a b l := by
  unfold Fl.writeE rwE
  rw [h.used, h.sh]
  simp only [decide_eq_true_eq]
theorem Sim.write (h : Sim D s ps) (a b : Int) (l : List Int) : Sim (writeD D a b l) s (rwP s ps a b l) := by
  unfold writeD rwP
  rw [h.writeE]
  split
  case isFalse => exact h
  case isTrue h0 =>
    rcases rwE_cases s ps a b l with h1 | h1 | h1 | h1
    · omega
    · omega
    · omega
    · obtain ⟨h2, h3, h4⟩ : hasB s a b = true ∧ (l.length : Int) ≤ s.2.2 ∧ ¬ 0 ≤ findI a b ps := by
        unfold rwE at h0
        split at h0
        · omega
        · split at h0
          · omega
          · split at h0
            · omega
            · rename_i x y z
              exact ⟨by simpa using x, by omega, z⟩
      have hg : got (a, b) ps = none := by
        have := findI_iff a b ps
        rw [decide_eq_false h4] at this
        cases hh : got (a, b) ps with
        | none => rfl
        | some x => rw [hh] at this; cases this
      have hno : ∀ p ∈ ps, p.1 ≠ (a, b) := fun p hp e => by
        unfold got at hg
        rw [Option.map_eq_none_iff, List.find?_eq_none] at hg
        exact hg p hp (by simp [atA, e])
      refine ⟨h.sh, fun c => ?_, ?_, ?_, ?_, ?_⟩
      · show Fl.look c (put (a, b) _ D.mp) = _
        rw [look_put, got_append, h.lk, numB, h.sh]
        by_cases hc : c = (a, b)
        · subst hc
          rw [if_pos rfl, hg]
          simp [got, atA]
        · rw [if_neg hc]
          cases got c ps with
          | some x => rfl
          | none =>
            simp [got, atA]
            exact fun e => hc e.symm
      · show D.dirty ++ [(a, b)] = _
        rw [h.dirty]
        simp
      · refine List.pairwise_append.2 ⟨h.nd, by simp, fun p hp q hq => ?_⟩
        simp at hq
        rw [hq]
        exact hno p hp
      · intro p hp
        rw [List.mem_append] at hp
        rcases hp with hp | hp
        · exact h.len p hp
        · simp at hp
          rw [hp]
          exact full_length (by omega)
      · intro p hp
        rw [List.mem_append] at hp
        rcases hp with hp | hp
        · exact h.has p hp
        · simp at hp
          rw [hp]
          exact h2
theorem Sim.sync (h : Sim D s ps) : Sim { D with dirty := [] } s (syncP ps) := by
  have hm : ∀ p ∈ syncP ps, p.2.2 = false ∧ ∃ q ∈ ps, p.1 = q.1 ∧ p.2.1 = q.2.1 := fun p hp => by
    simp only [syncP, List.mem_map] at hp
    obtain ⟨q, hq, rfl⟩ := hp
    exact ⟨rfl, q, hq, rfl, rfl⟩
  refine ⟨h.sh, fun c => ?_, ?_, ?_, fun p hp => ?_, fun p hp => ?_⟩
  · rw [show Fl.look c ({ D with dirty := [] } : PD).mp = Fl.look c D.mp from rfl, h.lk]
    have : ∀ ps : List Pg, got c ps = got c (syncP ps) := by
      intro ps
      induction ps with
      | nil => rfl
      | cons p ps ih =>
        show _ = got c ((p.1, p.2.1, false) :: syncP ps)
        rw [got_cons, got_cons, ih]
    exact this ps
  · symm
    show List.map _ (List.filter _ (syncP ps)) = []
    rw [List.filter_eq_nil_iff.2 (fun p hp => by rw [(hm p hp).1]; decide)]
    rfl
  · exact List.pairwise_map.2 h.nd
  · obtain ⟨_, q, h1, h2, h3⟩ := hm p hp
    rw [h3]; exact h.len q h1
  · obtain ⟨_, q, h1, h2, h3⟩ := hm p hp
    rw [h2]; exact h.has q h1
theorem got_filter (c : Adr) (a : Int) : ∀ ps : List Pg, got c (eraseP a ps) = if c.1 = a then none else got c ps
  | [] => by simp [eraseP, got]
  | p :: ps => by
    have ih := got_filter c a ps
    unfold eraseP at ih ⊢
    by_cases hp : p.1.1 = a
    · rw [List.filter_cons_of_neg (by simp [hp]), ih, got_cons]
      by_cases hc : c.1 = a
      · simp [hc]
      · rw [if_neg hc, if_neg hc, if_neg (fun e => hc (by rw [← e]; exact hp))]
    · rw [List.filter_cons_of_pos (by simp [hp]), got_cons, got_cons, ih]
      by_cases hc : p.1 = c
      · subst hc
        simp [hp]
      · simp [hc]
theorem Sim.erase (h : Sim D s ps) (hn : Nodup D.mp) (a : Int) (ha : hasB s a 0 = true) : Sim (erasedD D a) s (eraseP a ps) := by
  unfold erasedD
  rw [h.sh, if_pos ha]
  have h0 := (hasB_iff s a 0).1 ha
  have hsub : ∀ p ∈ eraseP a ps, p ∈ ps := fun p hp => (List.mem_filter.1 hp).1
  refine ⟨h.sh, fun c => ?_, ?_, h.nd.filter _, fun p hp => h.len p (hsub p hp), fun p hp => h.has p (hsub p hp)⟩
  · show Fl.look c (delTo a D.s.2.1.toNat D.mp) = _
    rw [look_delTo _ _ _ hn, h.lk, got_filter, h.sh]
    by_cases hc : c.1 = a
    · rw [if_pos hc]
      split
      · rfl
      · rename_i hx
        refine got_none (fun p hp e => ?_)
        have := (hasB_iff _ _ _).1 (h.has p hp)
        rw [e] at this
        exact hx ⟨hc, by omega, by omega⟩
    · rw [if_neg (fun e => hc e.1), if_neg hc]
  · show keepF _ D.dirty = _
    rw [h.dirty, keepF, List.filter_map, eraseP, List.filter_filter, List.filter_filter]
    congr 1
    refine List.filter_congr (fun p _ => ?_)
    simp [bne, Bool.and_comm]
    try rfl
theorem Sim.crash (h : Sim D s ps) (hn : Nodup D.mp) (hs : ShapeOk s) {P : PlanT} (hP : PlanOk P) : Sim (crashD D P) s (rcTo s.2.2 P ps).1 := by
  rw [rcTo_eq]
  have h0 := hs.c0
  refine ⟨h.sh, fun c => ?_, ?_, nd_rcR h.nd, fun p hp => ?_, fun p hp => ?_⟩
  · show Fl.look c (crashTo D.s.2.2 P D.dirty D.mp D.dirty.length) = _
    rw [crashTo_all, h.dirty, h.sh, look_crF hP (by omega) c ps 0 D.mp hn h.nd (fun p hp => ?_) h.len, h.lk]
    · split
      · rfl
      · rename_i hx
        rw [got_none (fun p hp e => hx ⟨p, hp, e⟩), got_none (fun p hp e => by
          obtain ⟨_, q, h1, h2, _⟩ := mem_rcR hp
          exact hx ⟨q, h1, h2.symm.trans e⟩)]
    · rw [h.lk]
      have : ∀ {ps : List Pg}, Nd ps → p ∈ ps → got p.1 ps = some p.2.1 := by
        intro ps hd hp
        induction ps with
        | nil => cases hp
        | cons q ps ih =>
          obtain ⟨h1, h2⟩ := List.pairwise_cons.1 hd
          rw [got_cons]
          rcases List.mem_cons.1 hp with rfl | hp
          · rw [if_pos rfl]
          · rw [if_neg (h1 p hp), ih h2 hp]
      exact this h.nd hp
  · symm
    show List.map _ (List.filter _ (rcR _ P 0 ps)) = []
    rw [List.filter_eq_nil_iff.2 (fun p hp => by rw [(mem_rcR hp).1]; decide)]
    rfl
  · obtain ⟨_, q, h1, h2, h3⟩ := mem_rcR hp
    exact h3 (h.len q h1)
  · obtain ⟨_, q, h1, h2, h3⟩ := mem_rcR hp
    rw [h2]; exact h.has q h1
theorem full_self {n : Nat} {l : List Int} (h : l.length = n) : full n l = l := by simp [full, h]
theorem Sim.read (h : Sim D s ps) (a b : Int) : readD D a b = readP s.2.2.toNat a b ps := by
  unfold readD readP numB
  rw [h.lk, h.sh, atB_eq]
  unfold got
  cases hf : ps.find? (atA (a, b)) with
  | none => simp [fullT]
  | some p => simp [full_self (h.len p (List.mem_of_find?_eq_some hf))]
theorem Sim.dirtyN (h : Sim D s ps) : D.dirty.length = dirtyN ps := by rw [h.dirty, Fl.dirtyN, List.length_map]
theorem Sim.dirtyLe (h : Sim D s ps) : D.dirty.length ≤ ps.length := by rw [h.dirty, List.length_map]; exact List.length_filter_le _ _
theorem Sim.dirtyNd (h : Sim D s ps) : D.dirty.Pairwise (· ≠ ·) := by
  rw [h.dirty, List.pairwise_map]
  exact h.nd.filter _
theorem Sim.dirtyIn (h : Sim D s ps) : ∀ a ∈ D.dirty, (Fl.look a D.mp).isSome = true := fun a ha => by
  rw [h.dirty, List.mem_map] at ha
  obtain ⟨p, hp, rfl⟩ := ha
  have hp := (List.mem_filter.1 hp).1
  rw [h.lk]
  cases hg : got p.1 ps with
  | some x => rfl
  | none =>
    unfold got at hg
    rw [Option.map_eq_none_iff, List.find?_eq_none] at hg
    exact absurd (by simp [atA]) (hg p hp)
theorem DevIs.nodup {N0 p : Nat} {D : PD} {ok : Nat → Prop} {w : World} (h : DevIs N0 p D ok w) : Nodup D.mp := by
  obtain ⟨m, v, es, ck, h⟩ := h
  exact h.nodup
end Go.Proofs.Ytkmanjfmffdcbaa.Fl

/- The two devices side by side in one memory: each call on one leaves the other. -/
namespace Go.Proofs.Ytkmanjfmffdcbaa.Fl
open Go.RowKit Go.Proofs.YtkmanjfmffdcbaaW.PrintWords Go.Proofs.YtkmanjfmffdcbaaW.PrintMore Go.Maps
set_option linter.unusedSimpArgs false
set_option linter.unusedVariables false
structure DeedT where
  op : Int
  a : Int
  b : Int
  l : List Int
  P : PlanT
structure DCell (w : World) (ad : Addr) (i : Nat) (d : DeedT) (A : Option Addr) (c : Nat) : Prop where
  c0 : w.cell? (ad.add (i * 7)) = some (.int .i64 d.op)
  c1 : w.cell? ⟨(ad.add (i * 7)).block, (ad.add (i * 7)).off + 1, none⟩ = some (.int .i64 d.a)
  c2 : w.cell? ⟨(ad.add (i * 7)).block, (ad.add (i * 7)).off + 2, none⟩ = some (.int .i64 d.b)
  c3 : w.cell? ⟨(ad.add (i * 7)).block, (ad.add (i * 7)).off + 3, none⟩ = some (.slice A d.l.length c)
  c4 : w.cell? ⟨(ad.add (i * 7)).block, (ad.add (i * 7)).off + 4, none⟩ = some (.int .u64 d.P.keep)
  c5 : w.cell? ⟨(ad.add (i * 7)).block, (ad.add (i * 7)).off + 5, none⟩ = some (.int .i64 d.P.torn)
  c6 : w.cell? ⟨(ad.add (i * 7)).block, (ad.add (i * 7)).off + 6, none⟩ = some (.int .i64 d.P.cut)
  row : kB.C w A d.l.length d.l
def DRow (w : World) (A : Option Addr) (ds : List DeedT) : Prop := ∀ (i : Nat) (d : DeedT), ds[i]? = some d → ∃ ad A1 c1, A = some ad ∧ DCell w ad i d A1 c1
theorem DCell.below {w w' : World} {ad : Addr} {i : Nat} {d : DeedT} {A : Option Addr} {c : Nat} (h : DCell w ad i d A c) (hb : Below w.heap.size w w') : DCell w' ad i d A c :=
  have f : ∀ {a : Addr} {v : Value}, w.cell? a = some v → w'.cell? a = some v := fun h => (hb.cell (blt_of_cell h)).trans h
  ⟨f h.c0, f h.c1, f h.c2, f h.c3, f h.c4, f h.c5, f h.c6, Kd.C_below h.row hb⟩
theorem DRow.below {w w' : World} {A : Option Addr} {ds : List DeedT} (h : DRow w A ds) (hb : Below w.heap.size w w') : DRow w' A ds := fun i d hi => by
  obtain ⟨ad, A1, c1, h1, h2⟩ := h i d hi
  exact ⟨ad, A1, c1, h1, h2.below hb⟩
/-- The two in one memory, all above N0, no block of the one a block of the other. -/
def Two (K : Nat → Prop) (N0 p x : Nat) (D : PD) (s : Int × Int × Int) (ps : List Pg) (w : World) : Prop :=
  ∃ okD okX : Nat → Prop, DevIs N0 p D okD w ∧ RefIs N0 x s ps okX w ∧ (∀ k, okD k → okX k → False) ∧ (∀ k, okD k → N0 ≤ k) ∧ (∀ k, okX k → N0 ≤ k) ∧ N0 ≤ w.heap.size ∧ (∀ k, K k → k < w.heap.size ∧ (¬ okD k ∧ ¬ okX k ∨ ∃ cs fr, w.heap[k]? = some (.cells cs TB fr)))
def Kept (K : Nat → Prop) (w w' : World) : Prop := ∀ k, K k → w'.heap[k]? = w.heap[k]?
section
variable {K : Nat → Prop} {N0 p x : Nat} {D D' : PD} {s : Int × Int × Int} {ps ps' : List Pg} {w w' : World} {f : FuncId} {args : Array Value} {res : Ending}
theorem upd_below {ok : Nat → Prop} (hu : Upd (Mut ok w) w w') (h0 : N0 ≤ w.heap.size) (hk : ∀ k, ok k → N0 ≤ k) : Below N0 w w' := hu.below h0 (fun k h => hk k h.1)
theorem Two.dev (h : Two K N0 p x D s ps w) (hc : ∀ ok, DevIs N0 p D ok w → Calls Try.prog f args w fun e w' => e = res ∧ DevIs N0 p D' (fun k => ok k ∨ w.heap.size ≤ k) w' ∧ Upd (Mut ok w) w w') :
    Calls Try.prog f args w fun e w' => e = res ∧ Two K N0 p x D' s ps w' ∧ Below N0 w w' ∧ Kept K w w' := by
  obtain ⟨okD, okX, hD, hX, hd, h1, h2, h0, hK⟩ := h
  refine (hc okD hD).mono fun e w1 ⟨he, hD1, hu⟩ => ⟨he, ⟨_, _, hD1, (hX.bound).upd hu ?_, ?_, ?_, ?_, ?_, ?_⟩, upd_below hu h0 h1, fun k hk => hu.block k (hK k hk).1 (fun h => (hK k hk).2.elim (fun h2 => h2.1 h.1) (fun ⟨cs, fr, e⟩ => h.2 cs fr e))⟩
  · exact fun k hk hm => hd k hm.1 hk.1
  · exact fun k hk hx => hk.elim (fun h => hd k h hx.1) (fun h => by have := hx.2.2; omega)
  · exact fun k hk => hk.elim (h1 k) (fun h => Nat.le_trans h0 h)
  · exact fun k hk => hk.2.1
  · exact Nat.le_trans h0 hu.size
  · exact fun k hk => ⟨Nat.lt_of_lt_of_le (hK k hk).1 hu.size, (hK k hk).2.elim (fun h2 => .inl ⟨fun h => h.elim h2.1 (fun h => by have := (hK k hk).1; omega), fun h => h2.2 h.1⟩) (fun ⟨cs, fr, e⟩ => .inr ⟨cs, fr, (hu.block k (hK k hk).1 (fun h => h.2 cs fr e)).trans e⟩)⟩
theorem Two.ref (h : Two K N0 p x D s ps w) (hc : ∀ ok, RefIs N0 x s ps ok w → Calls Try.prog f args w fun e w' => e = res ∧ RefIs N0 x s ps' (fun k => ok k ∨ w.heap.size ≤ k) w' ∧ Upd (Mut ok w) w w') :
    Calls Try.prog f args w fun e w' => e = res ∧ Two K N0 p x D s ps' w' ∧ Below N0 w w' ∧ Kept K w w' := by
  obtain ⟨okD, okX, hD, hX, hd, h1, h2, h0, hK⟩ := h
  refine (hc okX hX).mono fun e w1 ⟨he, hX1, hu⟩ => ⟨he, ⟨_, _, (hD.bound).upd hu ?_, hX1, ?_, ?_, ?_, ?_, ?_⟩, upd_below hu h0 h2, fun k hk => hu.block k (hK k hk).1 (fun h => (hK k hk).2.elim (fun h2 => h2.2 h.1) (fun ⟨cs, fr, e⟩ => h.2 cs fr e))⟩
  · exact fun k hk hm => hd k hk.1 hm.1
  · exact fun k hk hx => hx.elim (fun h => hd k hk.1 h) (fun h => by have := hk.2.2; omega)
  · exact fun k hk => hk.2.1
  · exact fun k hk => hk.elim (h2 k) (fun h => Nat.le_trans h0 h)
  · exact Nat.le_trans h0 hu.size
  · exact fun k hk => ⟨Nat.lt_of_lt_of_le (hK k hk).1 hu.size, (hK k hk).2.elim (fun h2 => .inl ⟨fun h => h2.1 h.1, fun h => h.elim h2.2 (fun h => by have := (hK k hk).1; omega)⟩) (fun ⟨cs, fr, e⟩ => .inr ⟨cs, fr, (hu.block k (hK k hk).1 (fun h => h.2 cs fr e)).trans e⟩)⟩
theorem Two.below (h : Two K N0 p x D s ps w) (hb : Below w.heap.size w w') : Two K N0 p x D s ps w' := by
  obtain ⟨okD, okX, hD, hX, hd, h1, h2, h0, hK⟩ := h
  exact ⟨okD, okX, hD.below hb, hX.below hb, hd, h1, h2, Nat.le_trans h0 hb.size, fun k hk => ⟨Nat.lt_of_lt_of_le (hK k hk).1 hb.size, (hK k hk).2.imp id (fun ⟨cs, fr, e⟩ => ⟨cs, fr, (hb.block k (hK k hk).1).trans e⟩)⟩⟩
/-- What is new beside the two is kept. -/
theorem Two.keep (h : Two K N0 p x D s ps w) (hb : Below w.heap.size w w') : Two (fun k => K k ∨ (w.heap.size ≤ k ∧ k < w'.heap.size)) N0 p x D s ps w' := by
  obtain ⟨okD, okX, hD, hX, hd, h1, h2, h0, hK⟩ := h
  refine ⟨_, _, hD.bound.below hb, hX.bound.below hb, fun k h1 h2 => hd k h1.1 h2.1, fun k h => h1 k h.1, fun k h => h2 k h.1, Nat.le_trans h0 hb.size, fun k hk => ?_⟩
  rcases hk with hk | hk
  · exact ⟨Nat.lt_of_lt_of_le (hK k hk).1 hb.size, (hK k hk).2.imp (fun h2 => ⟨fun h => h2.1 h.1, fun h => h2.2 h.1⟩) (fun ⟨cs, fr, e⟩ => ⟨cs, fr, (hb.block k (hK k hk).1).trans e⟩)⟩
  · exact ⟨hk.2, .inl ⟨fun h => by have := h.2.2; omega, fun h => by have := h.2.2; omega⟩⟩
theorem Two.less {K' : Nat → Prop} (h : Two K N0 p x D s ps w) (hk : ∀ k, K' k → K k) : Two K' N0 p x D s ps w := by
  obtain ⟨okD, okX, hD, hX, hd, h1, h2, h0, hK⟩ := h
  exact ⟨okD, okX, hD, hX, hd, h1, h2, h0, fun k h => hK k (hk k h)⟩
theorem Two.free (h : Two K N0 p x D s ps w) : Two (fun _ => False) N0 p x D s ps w := h.less (fun _ h => h.elim)
theorem Two.drew (h : Two K N0 p x D s ps w) : Two K N0 p x D s ps w.drew := h.below ((Below.refl _ w).drew)
theorem Two.size (h : Two K N0 p x D s ps w) : N0 ≤ w.heap.size := by
  obtain ⟨okD, okX, hD, hX, hd, h1, h2, h0, hK⟩ := h
  exact h0
theorem Two.shape (h : Two K N0 p x D s ps w) : ShapeOk D.s := by
  obtain ⟨okD, okX, ⟨_, _, _, _, hD⟩, hX, hd, h1, h2, h0, hK⟩ := h
  exact hD.shape
theorem Two.nodup (h : Two K N0 p x D s ps w) : Nodup D.mp := by
  obtain ⟨okD, okX, hD, hX, hd, h1, h2, h0, hK⟩ := h
  exact hD.nodup
theorem Two.write (h : Two K N0 p x D s ps w) (a b : Int) (A : Option Addr) (c : Nat) (l : List Int) (hl : kB.C w A l.length l) (hm : D.dirty.length < 1000000) :
    Calls Try.prog 34 #[.pointer (some ⟨p, 0, none⟩), .int .i64 a, .int .i64 b, .slice A l.length c] w fun e w' => e = .returned (.int .i64 (writeE D a b l)) ∧ Two K N0 p x (writeD D a b l) s ps w' ∧ Below N0 w w' ∧ Kept K w w' :=
  h.dev (fun ok hD => Write_any hD a b A c l hl hm)
theorem Two.rwrite (h : Two K N0 p x D s ps w) (hs : ShapeOk s) (a b : Int) (A : Option Addr) (c : Nat) (l : List Int) (hl : kB.C w A l.length l) (hm : ps.length < 1000000) :
    Calls Try.prog 35 #[.pointer (some ⟨x, 0, none⟩), .int .i64 a, .int .i64 b, .slice A l.length c] w fun e w' => e = .returned (.int .i64 (rwE s ps a b l)) ∧ Two K N0 p x D s (rwP s ps a b l) w' ∧ Below N0 w w' ∧ Kept K w w' :=
  h.ref (fun ok hX => RWrite_any hX hs hm a b A c l hl)
theorem Two.sync (h : Two K N0 p x D s ps w) :
    Calls Try.prog 31 #[.pointer (some ⟨p, 0, none⟩)] w fun e w' => e = .returned (.tuple #[]) ∧ Two K N0 p x { D with dirty := [] } s ps w' ∧ Below N0 w w' ∧ Kept K w w' :=
  h.dev (fun ok hD => (Sync_any hD).mono fun e w' ⟨h1, h2, h3⟩ => ⟨h1, h2.mono (fun _ h => .inl h), h3⟩)
theorem Two.rsync (h : Two K N0 p x D s ps w) (hm : ps.length < 1000000) :
    Calls Try.prog 32 #[.pointer (some ⟨x, 0, none⟩)] w fun e w' => e = .returned (.tuple #[]) ∧ Two K N0 p x D s (syncP ps) w' ∧ Below N0 w w' ∧ Kept K w w' :=
  h.ref (fun ok hX => (RSync_any hX hm).mono fun e w' ⟨h1, h2, h3⟩ => ⟨h1, h2.mono (fun _ h => .inl h), h3⟩)
theorem Two.erase (h : Two K N0 p x D s ps w) (a : Int) (hm : D.dirty.length < 1000000) :
    Calls Try.prog 41 #[.pointer (some ⟨p, 0, none⟩), .int .i64 a] w fun e w' => e = .returned (.int .i64 (eraseE D a)) ∧ Two K N0 p x (erasedD D a) s ps w' ∧ Below N0 w w' ∧ Kept K w w' :=
  h.dev (fun ok hD => Erase_any hD a hm)
theorem Two.rerase (h : Two K N0 p x D s ps w) (a : Int) (hm : ps.length < 1000000) :
    Calls Try.prog 66 #[.pointer (some ⟨x, 0, none⟩), .int .i64 a] w fun e w' => e = .returned (.tuple #[]) ∧ Two K N0 p x D s (eraseP a ps) w' ∧ Below N0 w w' ∧ Kept K w w' :=
  h.ref (fun ok hX => RErase_any hX hm a)
theorem Two.crash (h : Two K N0 p x D s ps w) (P : PlanT) (hP : PlanOk P) (hm : D.dirty.length < 1000000) (hdn : D.dirty.Pairwise (· ≠ ·)) (hdk : ∀ a ∈ D.dirty, (look a D.mp).isSome = true) :
    Calls Try.prog 36 #[.pointer (some ⟨p, 0, none⟩), .agg #[.int .u64 P.keep, .int .i64 P.torn, .int .i64 P.cut]] w fun e w' => e = .returned (.tuple #[]) ∧ Two K N0 p x (crashD D P) s ps w' ∧ Below N0 w w' ∧ Kept K w w' :=
  h.dev (fun ok hD => Crash_any hD P hP.k0 hP.k1 hm hdn hdk)
theorem Two.rcrash (h : Two K N0 p x D s ps w) (hs : ShapeOk s) (P : PlanT) (hP : PlanOk P) (hm : ps.length < 1000000) (hlen : ∀ q ∈ ps, q.2.1.length = s.2.2.toNat) :
    Calls Try.prog 37 #[.pointer (some ⟨x, 0, none⟩), .agg #[.int .u64 P.keep, .int .i64 P.torn, .int .i64 P.cut]] w fun e w' => e = .returned (.tuple #[]) ∧ Two K N0 p x D s (rcTo s.2.2 P ps).1 w' ∧ Below N0 w w' ∧ Kept K w w' :=
  h.ref (fun ok hX => RCrash_any hX hs hm hlen P hP.k0)
theorem Two.rhas (h : Two K N0 p x D s ps w) (a b : Int) : Calls Try.prog 65 #[.pointer (some ⟨x, 0, none⟩), .int .i64 a, .int .i64 b] w fun e w' => e = .returned (.bool (hasB s a b)) ∧ w = w' := by
  obtain ⟨okD, okX, hD, hX, _⟩ := h
  exact RHas_any hX a b
end
end Go.Proofs.Ytkmanjfmffdcbaa.Fl

/- Few: walked. No condition. -/
namespace Go.Proofs.Ytkmanjfmffdcbaa.Fl
open Go.RowKit Go.Proofs.YtkmanjfmffdcbaaW.PrintWords Go.Proofs.YtkmanjfmffdcbaaW.PrintMore Go.Maps
set_option linter.unusedSimpArgs false
set_option linter.unusedVariables false
def fewB (ds : List DeedT) : Bool := ds.all (fun d => decide (d.l.length ≤ 300)) && decide (ds.length ≤ 60)
theorem all_take_succ {q : DeedT → Bool} {ds : List DeedT} {k : Nat} {d : DeedT} (h : ds[k]? = some d) : (ds.take (k + 1)).all q = ((ds.take k).all q && q d) := by
  rw [List.take_add_one, h, List.all_append]
  simp
set_option maxHeartbeats 2000000 in
set_option maxRecDepth 100000 in
theorem Few_any {w : World} {A : Option Addr} {c : Nat} {ds : List DeedT} (hr : DRow w A ds) (h0 : ds.length ≤ 9223372036854775807) :
    Calls Try.prog 25 #[.slice A ds.length c] w fun e w' => e = .returned (.bool (fewB ds)) ∧ Below w.heap.size w w' := by
  obtain ⟨n, hn⟩ : ∃ n, n = ds.length := ⟨_, rfl⟩
  have HR := Lib.hid hr
  have HN := Lib.hid hn
  rw [← hn] at h0
  rw [← hn]
  clear hr hn
  go_enter Try.func25, Try.ntmps25
  go_wp2
  go_loopw [4, 7] (fun v4 v7 wr => ∃ k : Nat, k ≤ n ∧ v7 = .int .i64 (k : Int) ∧ Below w.heap.size w wr ∧ (ds.take k).all (fun d => decide (d.l.length ≤ 300)) = true) (fun _ v7 _ => n - (intOf v7).toNat)
  case atStart => exact ⟨0, Nat.zero_le _, rfl, Below.refl _ _, rfl⟩
  case round =>
    obtain ⟨k, hk, rfl, hb, ht⟩ := hrel
    have HB := Aside0.mk hb
    have HT := Lib.hid ht
    clear hb ht
    by_cases hlt : k < n
    · obtain ⟨d, hd⟩ : ∃ d, ds[k]? = some d := ⟨_, List.getElem?_eq_getElem (by have := HN.out; omega)⟩
      obtain ⟨ad, A1, c1, hA, hc⟩ := HR.out k d hd
      have hc := hc.below HB.out
      subst hA
      have d0 := hc.c0; have d1 := hc.c1; have d2 := hc.c2; have d3 := hc.c3; have d4 := hc.c4; have d5 := hc.c5; have d6 := hc.c6
      have HD := Lib.hid hd
      have k0 : (0 : Int) ≤ (k : Int) := by omega
      have k2 : (k : Int) < (n : Int) := by omega
      clear hd hc
      obtain ⟨dop, da, db, dl, ⟨p0, p1, p2⟩⟩ := d
      simp only at d0 d1 d2 d3 d4 d5 d6
      by_cases hg : dl.length ≤ 300
      · have e1 : decide (300 < (dl.length : Int)) = false := by simp; omega
        go_wp2
        refine ⟨⟨k + 1, by omega, by go_num, below_alloc HB.out _, ?_⟩, by simp [intOf]; omega⟩
        rw [all_take_succ HD.out, HT.out]
        simpa using hg
      · have e1 : decide (300 < (dl.length : Int)) = true := by simp; omega
        go_wp2
        go_ret
        refine ⟨?_, below_alloc HB.out _⟩
        have : fewB ds = false := by
          unfold fewB
          rw [List.all_eq_false.2 ⟨_, List.mem_of_getElem? HD.out, by simpa using hg⟩]
          rfl
        rw [this]
        rfl
    · obtain rfl : k = n := by omega
      have ha : fewB ds = decide ((k : Int) ≤ 60) := by
        have h := HT.out
        rw [List.take_of_length_le (by have := HN.out; omega)] at h
        unfold fewB
        rw [h, ← HN.out]
        simp only [Bool.true_and, decide_eq_decide]
        omega
      have HA := Lib.hid ha
      clear ha
      go_wp2
      go_ret
      exact ⟨by rw [HA.out]; rfl, HB.out⟩
end Go.Proofs.Ytkmanjfmffdcbaa.Fl

/- All that a device holds are bytes, whatever is done to it. No program in sight. -/
namespace Go.Proofs.Ytkmanjfmffdcbaa.Fl
set_option linter.unusedSimpArgs false
set_option linter.unusedVariables false
def Byt (l : List Int) : Prop := ∀ x ∈ l, 0 ≤ x ∧ x ≤ 255
def BytP (ps : List Pg) : Prop := ∀ q ∈ ps, Byt q.2.1
def BytIf (ds : List DeedT) (ps : List Pg) : Prop := (∀ d ∈ ds, Byt d.l) → BytP ps
theorem Byt.nil : Byt [] := fun _ h => by cases h
theorem Byt.append {a b : List Int} (h : Byt a) (k : Byt b) : Byt (a ++ b) := fun x hx => (List.mem_append.1 hx).elim (h x) (k x)
theorem Byt.take {a : List Int} (h : Byt a) (n : Nat) : Byt (a.take n) := fun x hx => h x (List.mem_of_mem_take hx)
theorem Byt.drop {a : List Int} (h : Byt a) (n : Nat) : Byt (a.drop n) := fun x hx => h x (List.mem_of_mem_drop hx)
theorem Byt.full {n : Nat} {l : List Int} (h : Byt l) : Byt (full n l) := Byt.append h (fun x hx => by rw [List.eq_of_mem_replicate hx]; omega)
theorem Byt.fullT {n : Nat} {l : List Int} (h : Byt l) : Byt (fullT n l) := Byt.full (h.take n)
theorem BytP.nil : BytP [] := fun _ h => by cases h
theorem BytP.write {s : Int × Int × Int} {ps : List Pg} (h : BytP ps) (a b : Int) {l : List Int} (hl : Byt l) : BytP (rwP s ps a b l) := by
  unfold rwP
  split
  · intro q hq
    rcases List.mem_append.1 hq with hq | hq
    · exact h q hq
    · rw [List.mem_singleton.1 hq]
      exact Byt.full hl
  · exact h
theorem BytP.sync {ps : List Pg} (h : BytP ps) : BytP (syncP ps) := by
  intro q hq
  simp only [syncP, List.mem_map] at hq
  obtain ⟨p, hp, rfl⟩ := hq
  exact h p hp
theorem BytP.erase {ps : List Pg} (h : BytP ps) (a : Int) : BytP (eraseP a ps) := fun q hq => h q (List.mem_filter.1 hq).1
theorem bytP_rcR {n : Int} {P : PlanT} : ∀ {ps : List Pg} {i : Nat}, BytP ps → BytP (rcR n P i ps)
  | [], _, _ => BytP.nil
  | p :: ps, i, h => by
    have h1 : Byt p.2.1 := h p (by simp)
    have h2 : BytP ps := fun q hq => h q (by simp [hq])
    rw [rcR]
    split
    · intro q hq
      rcases List.mem_cons.1 hq with rfl | hq
      · exact h1
      · exact bytP_rcR h2 q hq
    · intro q hq
      rcases List.mem_append.1 hq with hq | hq
      · cases hk : keepO n P i p.2.1 with
        | none => rw [hk] at hq; simp at hq
        | some l =>
          rw [hk] at hq
          simp at hq
          subst hq
          unfold keepO at hk
          split at hk
          · rw [← Option.some.inj hk]; exact Byt.fullT (h1.take _)
          · split at hk
            · rw [← Option.some.inj hk]; exact h1
            · cases hk
      · exact bytP_rcR h2 q hq
theorem BytP.crash {ps : List Pg} (h : BytP ps) (n : Int) (P : PlanT) : BytP (rcTo n P ps).1 := by
  rw [rcTo_eq]
  exact bytP_rcR h
theorem BytIf.nil (ds : List DeedT) : BytIf ds [] := fun _ => BytP.nil
theorem BytIf.write {ds : List DeedT} {s : Int × Int × Int} {ps : List Pg} (h : BytIf ds ps) (a b : Int) {l : List Int} (hl : (∀ d ∈ ds, Byt d.l) → Byt l) : BytIf ds (rwP s ps a b l) := fun k => (h k).write a b (hl k)
theorem BytIf.sync {ds : List DeedT} {ps : List Pg} (h : BytIf ds ps) : BytIf ds (syncP ps) := fun k => (h k).sync
theorem BytIf.erase {ds : List DeedT} {ps : List Pg} (h : BytIf ds ps) (a : Int) : BytIf ds (eraseP a ps) := fun k => (h k).erase a
theorem BytIf.crash {ds : List DeedT} {ps : List Pg} (h : BytIf ds ps) (n : Int) (P : PlanT) : BytIf ds (rcTo n P ps).1 := fun k => (h k).crash n P
end Go.Proofs.Ytkmanjfmffdcbaa.Fl

/- Made: walked. No condition. -/
namespace Go.Proofs.Ytkmanjfmffdcbaa.Fl
open Go.RowKit Go.Proofs.YtkmanjfmffdcbaaW.PrintWords Go.Proofs.YtkmanjfmffdcbaaW.PrintMore Go.Maps
set_option linter.unusedSimpArgs false
set_option linter.unusedVariables false
theorem Ref_new {w1 : World} {N0 : Nat} (s : Int × Int × Int) (h : N0 ≤ w1.heap.size) : RefIs N0 w1.heap.size s [] (fun k => w1.heap.size ≤ k) (w1.alloc (.cells #[.int .i64 s.1, .int .i64 s.2.1, .int .i64 s.2.2, .slice none 0 0] TX (0, 0))) :=
  ⟨h, Nat.le_refl _, .slice none 0 0, blk_new w1 _, Kd.R_nil _ _ _ _ _⟩
theorem Two_new {w0 w1 : World} {N0 p : Nat} (s : Int × Int × Int) (h0 : N0 ≤ w0.heap.size) (hD : DevIs N0 p ⟨s, [], []⟩ (fun k => w0.heap.size ≤ k) w1) (hb : Below w0.heap.size w0 w1) :
    Two (fun _ => False) N0 p w1.heap.size ⟨s, [], []⟩ s [] (w1.alloc (.cells #[.int .i64 s.1, .int .i64 s.2.1, .int .i64 s.2.2, .slice none 0 0] TX (0, 0))) := by
  have hs := hb.size
  refine ⟨_, _, (hD.bound).below (below_alloc (Below.refl _ _) _), Ref_new s (by omega), fun k h1 h2 => ?_, fun k h1 => h1.2.1, fun k h1 => ?_, ?_, fun k h1 => h1.elim⟩
  · have := h1.2.2; omega
  · omega
  · simp; omega
theorem rwP_len (s : Int × Int × Int) (ps : List Pg) (a b : Int) (l : List Int) : (rwP s ps a b l).length ≤ ps.length + 1 := by
  unfold rwP
  split <;> simp
set_option maxHeartbeats 4000000 in
set_option maxRecDepth 100000 in
theorem Made_byt {w : World} {A : Option Addr} {c : Nat} {s : Int × Int × Int} {ds : List DeedT} (hs : shapeB s = true) (hr : DRow w A ds) (hf : ds.length ≤ 60) (hp : ∀ d ∈ ds, PlanOk d.P) :
    Calls Try.prog 29 #[.agg #[.int .i64 s.1, .int .i64 s.2.1, .int .i64 s.2.2], .slice A ds.length c] w fun e w' => ∃ p x D ps, e = .returned (.tuple #[.pointer (some ⟨p, 0, none⟩), .pointer (some ⟨x, 0, none⟩), .bool true]) ∧ Two (fun _ => False) w.heap.size p x D s ps w' ∧ Sim D s ps ∧ ps.length ≤ 60 ∧ Below w.heap.size w w' ∧ BytIf ds ps := by
  obtain ⟨n, hn⟩ : ∃ n, n = ds.length := ⟨_, rfl⟩
  have hnew : ∀ W : World, w.heap.size ≤ W.heap.size → Calls Try.prog 27 #[.agg #[.int .i64 s.1, .int .i64 s.2.1, .int .i64 s.2.2]] W fun e w' => ∃ p, e = .returned (.tuple #[.pointer (some ⟨p, 0, none⟩), .int .i64 0]) ∧ DevIs w.heap.size p ⟨s, [], []⟩ (fun k => W.heap.size ≤ k) w' ∧ Below W.heap.size W w' := fun W hW => New_ok s hs W _ hW
  have HR := Lib.hid hr
  have HN := Lib.hid hn
  have HS := Lib.hid (shapeB_ok hs)
  have HP := Lib.hid hp
  have HNEW := Lib.hid hnew
  rw [← hn] at hf
  rw [← hn]
  clear hr hn hs hp hnew
  obtain ⟨W, hW⟩ : ∃ W, W = w.alloc (.cells #[.int .i64 s.1, .int .i64 s.2.1, .int .i64 s.2.2] 46) := ⟨_, rfl⟩
  have q0 : W.heap[w.heap.size]? = some (.cells #[.int .i64 s.1, .int .i64 s.2.1, .int .i64 s.2.2] 46 (0, 0)) := by rw [hW]; exact blk_new w _
  have qb : Below w.heap.size w W := by rw [hW]; exact below_alloc (Below.refl _ _) _
  have k1 : W.cell? ⟨w.heap.size, 0, none⟩ = some (.int .i64 s.1) := bcell q0 0
  have k2 : W.cell? ⟨w.heap.size, 1, none⟩ = some (.int .i64 s.2.1) := bcell q0 1
  have k3 : W.cell? ⟨w.heap.size, 2, none⟩ = some (.int .i64 s.2.2) := bcell q0 2
  have HW := Lib.hid hW
  have Q0 := Lib.hid q0
  have QB := Aside0.mk qb
  clear hW q0 qb
  go_enter Try.func29, Try.ntmps29
  go_wp2_with fail
  rw [← HW.out]
  go_wp2_with (go_at_call 27; (with_reducible refine (HNEW.out _ QB.out.size).mono ?_); rintro e w1 ⟨p, rfl, hD, hb⟩; have k1 : w1.cell? ⟨w.heap.size, 0, none⟩ = some (.int .i64 s.1) := (hb.cell (p := ⟨w.heap.size, 0, none⟩) (blt Q0.out)).trans k1; have k2 : w1.cell? ⟨w.heap.size, 1, none⟩ = some (.int .i64 s.2.1) := (hb.cell (p := ⟨w.heap.size, 1, none⟩) (blt Q0.out)).trans k2; have k3 : w1.cell? ⟨w.heap.size, 2, none⟩ = some (.int .i64 s.2.2) := (hb.cell (p := ⟨w.heap.size, 2, none⟩) (blt Q0.out)).trans k3; have HD := Aside0.mk hD; have HB := Aside0.mk hb; clear hD hb)
  go_loopw [25] (fun v25 wr => ∃ (k : Nat) (D : PD) (ps : List Pg), k ≤ n ∧ v25 = .int .i64 (k : Int) ∧ Two (fun _ => False) w.heap.size p w1.heap.size D s ps wr ∧ Sim D s ps ∧ ps.length ≤ k ∧ Below w.heap.size w wr ∧ BytIf ds ps) (fun v25 _ => n - (intOf v25).toNat)
  case atStart => exact ⟨0, _, _, Nat.zero_le _, rfl, Two_new s QB.out.size HD.out HB.out, Sim.new s, Nat.le_refl _, (QB.out.trans (HB.out.mono QB.out.size)).alloc (Nat.le_trans QB.out.size HB.out.size) _, BytIf.nil ds⟩
  case round =>
    obtain ⟨k, D, ps, hk, rfl, ht, hsim, hl, hb, hby⟩ := hrel
    have HT := Aside0.mk ht
    have HSIM := Aside0.mk hsim
    have HBB := Aside0.mk hb
    have HBY := Aside0.mk hby
    clear ht hsim hb hby
    by_cases hlt : k < n
    · obtain ⟨d, hd⟩ : ∃ d, ds[k]? = some d := ⟨_, List.getElem?_eq_getElem (by have := HN.out; omega)⟩
      obtain ⟨ad, A1, c1, hA, hc⟩ := HR.out k d hd
      have ROWW0 := Aside0.mk hc.row
      have hc := hc.below HBB.out
      subst hA
      have d0 := hc.c0; have d1 := hc.c1; have d2 := hc.c2; have d3 := hc.c3; have d4 := hc.c4; have d5 := hc.c5; have d6 := hc.c6
      have ROW := Aside0.mk hc.row
      have HDP := Lib.hid (HP.out d (List.mem_of_getElem? hd))
      have hdb : (∀ d ∈ ds, Byt d.l) → Byt d.l := fun h => h d (List.mem_of_getElem? hd)
      have k0 : (0 : Int) ≤ (k : Int) := by omega
      have k2 : (k : Int) < (n : Int) := by omega
      clear hd hc
      obtain ⟨dop, da, db, dl, P⟩ := d
      simp only at d0 d1 d2 d3 d4 d5 d6 ROW HDP ROWW0 hdb
      have HDB := Lib.hid hdb
      clear hdb
      obtain ⟨Y, hY⟩ : ∃ Y, Y = wr.alloc (.cells #[.int .i64 dop, .int .i64 da, .int .i64 db, .slice A1 dl.length c1, .int .u64 P.keep, .int .i64 P.torn, .int .i64 P.cut] 62) := ⟨_, rfl⟩
      have y0 : Y.heap[wr.heap.size]? = some (.cells #[.int .i64 dop, .int .i64 da, .int .i64 db, .slice A1 dl.length c1, .int .u64 P.keep, .int .i64 P.torn, .int .i64 P.cut] 62 (0, 0)) := by rw [hY]; exact blk_new wr _
      have yb : Below wr.heap.size wr Y := by rw [hY]; exact below_alloc (Below.refl _ _) _
      have hT2 := HT.out.keep yb
      have HY := Lib.hid hY
      have Y0 := Lib.hid y0
      have YB := Aside0.mk (HBB.out.trans (yb.mono HBB.out.size))
      have ROWY := Aside0.mk (Kd.C_below ROW.out yb)
      have HK := Lib.hid (show False ∨ (wr.heap.size ≤ wr.heap.size ∧ wr.heap.size < Y.heap.size) from .inr ⟨Nat.le_refl _, blt y0⟩)
      have HT2 := Aside0.mk hT2
      clear hY y0 yb hT2
      have HL := Lib.hid hl
      have HM := Lib.hid (show ps.length < 1000000 by omega)
      have HMD := Lib.hid (show D.dirty.length < 1000000 from Nat.lt_of_le_of_lt HSIM.out.dirtyLe HM.out)
      clear hl
      by_cases o1 : dop = 1
      · subst o1
        go_wp2_with fail
        rw [← HY.out]
        go_wp2_with (first
          | (go_at_call 31; (with_reducible refine (HT2.out.sync).mono ?_); rintro e w2 ⟨rfl, ht2, hb2, hk2⟩; have HT3 := Aside0.mk ht2; have HB3 := Aside0.mk hb2; clear ht2 hb2 hk2)
          | (go_at_call 32; (with_reducible refine (HT3.out.rsync HM.out).mono ?_); rintro e w3 ⟨rfl, ht2, hb2, hk2⟩; have HT4 := Aside0.mk ht2; have HB4 := Aside0.mk hb2; clear ht2 hb2 hk2))
        exact ⟨⟨k + 1, _, _, by omega, by go_num, HT4.out.free, HSIM.out.sync, by have := HL.out; simp [syncP]; omega, (YB.out.trans HB3.out).trans HB4.out, HBY.out.sync⟩, by simp [intOf]; omega⟩
      · have e1 : (dop == 1) = false := by simpa using o1
        by_cases o2 : dop = 2
        · subst o2
          have hy0 := Y0.out
          have y0 : Y.cell? ⟨wr.heap.size, 0, none⟩ = some (.int .i64 2) := bcell hy0 0
          have y1 : Y.cell? ⟨wr.heap.size, 1, none⟩ = some (.int .i64 da) := bcell hy0 1
          have y2 : Y.cell? ⟨wr.heap.size, 2, none⟩ = some (.int .i64 db) := bcell hy0 2
          have y3 : Y.cell? ⟨wr.heap.size, 3, none⟩ = some (.slice A1 dl.length c1) := bcell hy0 3
          have y4 : Y.cell? ⟨wr.heap.size, 4, none⟩ = some (.int .u64 P.keep) := bcell hy0 4
          have y5 : Y.cell? ⟨wr.heap.size, 5, none⟩ = some (.int .i64 P.torn) := bcell hy0 5
          have y6 : Y.cell? ⟨wr.heap.size, 6, none⟩ = some (.int .i64 P.cut) := bcell hy0 6
          clear hy0
          cases hh : hasB s da 0 with
          | true =>
            have HH := Lib.hid hh
            have hcE := HT2.out.erase da HMD.out
            rw [eraseE, HSIM.out.sh, if_pos hh] at hcE
            have HCE := Lib.hid hcE
            clear hh hcE
            go_wp2_with fail
            rw [← HY.out]
            go_wp2_with (first
              | (go_at_call 41; (with_reducible refine (HCE.out).mono ?_); rintro e w2 ⟨rfl, ht2, hb2, hk2⟩; have hx2 := (hk2 wr.heap.size HK.out).trans Y0.out; have z1 : w2.cell? ⟨wr.heap.size, 1, none⟩ = some (.int .i64 da) := bcell hx2 1; have HX2 := Lib.hid hx2; have HT3 := Aside0.mk ht2; have HB3 := Aside0.mk hb2; clear ht2 hb2 hk2 hx2)
              | (go_at_call 65; (with_reducible refine (HT3.out.rhas da 0).mono ?_); rw [HH.out]; rintro e w4 ⟨rfl, rfl⟩)
              | (go_at_call 66; (with_reducible refine (HT3.out.rerase da HM.out).mono ?_); rintro e w3 ⟨rfl, ht2, hb2, hk2⟩; have HT4 := Aside0.mk ht2; have HB4 := Aside0.mk hb2; clear ht2 hb2 hk2))
            exact ⟨⟨k + 1, _, _, by omega, by go_num, HT4.out.free, HSIM.out.erase HT2.out.nodup da HH.out, by have := HL.out; exact Nat.le_trans (List.length_filter_le _ _) (by omega), (YB.out.trans HB3.out).trans HB4.out, HBY.out.erase da⟩, by simp [intOf]; omega⟩
          | false =>
            have HH := Lib.hid hh
            have hcE := HT2.out.erase da HMD.out
            rw [eraseE, erasedD, HSIM.out.sh, if_neg (by rw [hh]; decide), if_neg (by rw [hh]; decide)] at hcE
            have HCE := Lib.hid hcE
            clear hh hcE
            go_wp2_with fail
            rw [← HY.out]
            go_wp2_with (first
              | (go_at_call 41; (with_reducible refine (HCE.out).mono ?_); rintro e w2 ⟨rfl, ht2, hb2, hk2⟩; have hx2 := (hk2 wr.heap.size HK.out).trans Y0.out; have z1 : w2.cell? ⟨wr.heap.size, 1, none⟩ = some (.int .i64 da) := bcell hx2 1; have HX2 := Lib.hid hx2; have HT3 := Aside0.mk ht2; have HB3 := Aside0.mk hb2; clear ht2 hb2 hk2 hx2)
              | (go_at_call 65; (with_reducible refine (HT3.out.rhas da 0).mono ?_); rw [HH.out]; rintro e w4 ⟨rfl, rfl⟩))
            exact ⟨⟨k + 1, _, _, by omega, by go_num, HT3.out.free, HSIM.out, by have := HL.out; omega, YB.out.trans HB3.out, HBY.out⟩, by simp [intOf]; omega⟩
        · have e2 : (dop == 2) = false := by simpa using o2
          by_cases o3 : dop = 3
          · subst o3
            have hy0 := Y0.out
            have y0 : Y.cell? ⟨wr.heap.size, 0, none⟩ = some (.int .i64 3) := bcell hy0 0
            have y1 : Y.cell? ⟨wr.heap.size, 1, none⟩ = some (.int .i64 da) := bcell hy0 1
            have y2 : Y.cell? ⟨wr.heap.size, 2, none⟩ = some (.int .i64 db) := bcell hy0 2
            have y3 : Y.cell? ⟨wr.heap.size, 3, none⟩ = some (.slice A1 dl.length c1) := bcell hy0 3
            have y4 : Y.cell? ⟨wr.heap.size, 4, none⟩ = some (.int .u64 P.keep) := bcell hy0 4
            have y5 : Y.cell? ⟨wr.heap.size, 5, none⟩ = some (.int .i64 P.torn) := bcell hy0 5
            have y6 : Y.cell? ⟨wr.heap.size, 6, none⟩ = some (.int .i64 P.cut) := bcell hy0 6
            clear hy0
            go_wp2_with fail
            rw [← HY.out]
            go_wp2_with (first
              | (go_at_call 36; (with_reducible refine (HT2.out.crash P HDP.out HMD.out HSIM.out.dirtyNd HSIM.out.dirtyIn).mono ?_); rintro e w2 ⟨rfl, ht2, hb2, hk2⟩; have hx2 := (hk2 wr.heap.size HK.out).trans Y0.out; have z4 : w2.cell? ⟨wr.heap.size, 4, none⟩ = some (.int .u64 P.keep) := bcell hx2 4; have z5 : w2.cell? ⟨wr.heap.size, 5, none⟩ = some (.int .i64 P.torn) := bcell hx2 5; have z6 : w2.cell? ⟨wr.heap.size, 6, none⟩ = some (.int .i64 P.cut) := bcell hx2 6; have HT3 := Aside0.mk ht2; have HB3 := Aside0.mk hb2; clear ht2 hb2 hk2 hx2)
              | (go_at_call 37; (with_reducible refine (HT3.out.rcrash HS.out P HDP.out HM.out HSIM.out.len).mono ?_); rintro e w3 ⟨rfl, ht2, hb2, hk2⟩; have HT4 := Aside0.mk ht2; have HB4 := Aside0.mk hb2; clear ht2 hb2 hk2))
            exact ⟨⟨k + 1, _, _, by omega, by go_num, HT4.out.free, HSIM.out.crash HT2.out.nodup HS.out HDP.out, by have := HL.out; rw [rcTo_eq]; exact Nat.le_trans rcR_len (by omega), (YB.out.trans HB3.out).trans HB4.out, HBY.out.crash _ _⟩, by simp [intOf]; omega⟩
          · have e3 : (dop == 3) = false := by simpa using o3
            have hy0 := Y0.out
            have y0 : Y.cell? ⟨wr.heap.size, 0, none⟩ = some (.int .i64 dop) := bcell hy0 0
            have y1 : Y.cell? ⟨wr.heap.size, 1, none⟩ = some (.int .i64 da) := bcell hy0 1
            have y2 : Y.cell? ⟨wr.heap.size, 2, none⟩ = some (.int .i64 db) := bcell hy0 2
            have y3 : Y.cell? ⟨wr.heap.size, 3, none⟩ = some (.slice A1 dl.length c1) := bcell hy0 3
            have y4 : Y.cell? ⟨wr.heap.size, 4, none⟩ = some (.int .u64 P.keep) := bcell hy0 4
            have y5 : Y.cell? ⟨wr.heap.size, 5, none⟩ = some (.int .i64 P.torn) := bcell hy0 5
            have y6 : Y.cell? ⟨wr.heap.size, 6, none⟩ = some (.int .i64 P.cut) := bcell hy0 6
            have hwe := HSIM.out.writeE da db dl
            have HWE := Lib.hid hwe
            clear hy0 hwe o1 o2 o3
            have e4 : (rwE s ps da db dl != rwE s ps da db dl) = false := by simp
            have hT3 := HT2.out.drew
            have HTD := Aside0.mk hT3
            clear hT3
            go_wp2_with fail
            rw [← HY.out]
            go_region_held3 (fun w' => w'.cell? ⟨wr.heap.size, 1, none⟩ = some (.int .i64 da) ∧ w'.cell? ⟨wr.heap.size, 2, none⟩ = some (.int .i64 db) ∧ w'.cell? ⟨wr.heap.size, 3, none⟩ = some (.slice A1 dl.length c1)) (first | go_keep | exact ⟨z1, z2, z3⟩ | exact ⟨t1, t2, t3⟩)
              (first
                | (go_at_call 34; refine (HTD.out.write da db A1 c1 dl (Kd.C_drew ROWY.out) HMD.out).mono ?_; rw [HWE.out]; rintro e w2 ⟨rfl, ht2, hb2, hk2⟩; have hx2 := (hk2 wr.heap.size HK.out).trans Y0.out; have z1 : w2.cell? ⟨wr.heap.size, 1, none⟩ = some (.int .i64 da) := bcell hx2 1; have z2 : w2.cell? ⟨wr.heap.size, 2, none⟩ = some (.int .i64 db) := bcell hx2 2; have z3 : w2.cell? ⟨wr.heap.size, 3, none⟩ = some (.slice A1 dl.length c1) := bcell hx2 3; have HX2 := Lib.hid hx2; have HT3 := Aside0.mk ht2; have HB3 := Aside0.mk hb2; clear ht2 hb2 hk2 hx2)
                | (go_at_call 35; refine (HT3.out.rwrite HS.out da db A1 c1 dl (Kd.C_below ROWW0.out (YB.out.drew.trans HB3.out)) HM.out).mono ?_; rintro e w3 ⟨rfl, ht2, hb2, hk2⟩; have hx3 := (hk2 wr.heap.size HK.out).trans HX2.out; have t1 : w3.cell? ⟨wr.heap.size, 1, none⟩ = some (.int .i64 da) := bcell hx3 1; have t2 : w3.cell? ⟨wr.heap.size, 2, none⟩ = some (.int .i64 db) := bcell hx3 2; have t3 : w3.cell? ⟨wr.heap.size, 3, none⟩ = some (.slice A1 dl.length c1) := bcell hx3 3; have HT4 := Aside0.mk ht2; have HB4 := Aside0.mk hb2; clear ht2 hb2 hk2 hx3))
            go_wp2
            exact ⟨⟨k + 1, _, _, by omega, by go_num, HT4.out.free, HSIM.out.write da db dl, by have := HL.out; have := rwP_len s ps da db dl; omega, (YB.out.drew.trans HB3.out).trans HB4.out, HBY.out.write da db HDB.out⟩, by simp [intOf]; omega⟩
    · obtain rfl : k = n := by omega
      go_wp2
      go_ret3
      exact ⟨_, _, D, ps, rfl, HT.out, HSIM.out, by omega, HBB.out, HBY.out⟩
theorem Made_any {w : World} {A : Option Addr} {c : Nat} {s : Int × Int × Int} {ds : List DeedT} (hs : shapeB s = true) (hr : DRow w A ds) (hf : ds.length ≤ 60) (hp : ∀ d ∈ ds, PlanOk d.P) :
    Calls Try.prog 29 #[.agg #[.int .i64 s.1, .int .i64 s.2.1, .int .i64 s.2.2], .slice A ds.length c] w fun e w' => ∃ p x D ps, e = .returned (.tuple #[.pointer (some ⟨p, 0, none⟩), .pointer (some ⟨x, 0, none⟩), .bool true]) ∧ Two (fun _ => False) w.heap.size p x D s ps w' ∧ Sim D s ps ∧ ps.length ≤ 60 ∧ Below w.heap.size w w' :=
  (Made_byt hs hr hf hp).mono fun e w' ⟨p, x, D, ps, h1, h2, h3, h4, h5, _⟩ => ⟨p, x, D, ps, h1, h2, h3, h4, h5⟩
end Go.Proofs.Ytkmanjfmffdcbaa.Fl

/- Like: walked. No condition. -/
namespace Go.Proofs.Ytkmanjfmffdcbaa.Fl
open Go.RowKit Go.Proofs.YtkmanjfmffdcbaaW.PrintWords Go.Proofs.YtkmanjfmffdcbaaW.PrintMore Go.Maps
set_option linter.unusedSimpArgs false
set_option linter.unusedVariables false
section
variable {K : Nat → Prop} {N0 p x : Nat} {D : PD} {s : Int × Int × Int} {ps : List Pg} {w : World}
theorem Two.refblk (h : Two K N0 p x D s ps w) : ∃ v, w.heap[x]? = some (.cells #[.int .i64 s.1, .int .i64 s.2.1, .int .i64 s.2.2, v] TX (0, 0)) := by
  obtain ⟨okD, okX, hD, ⟨_, _, v, hx, _⟩, _⟩ := h
  exact ⟨v, hx⟩
theorem Two.read (h : Two K N0 p x D s ps w) (a b : Int) (hh : hasB D.s a b = true) : Calls Try.prog 38 #[.pointer (some ⟨p, 0, none⟩), .int .i64 a, .int .i64 b] w fun e w' => ∃ A c, e = .returned (.tuple #[.slice A (readD D a b).length c, .int .i64 0]) ∧ kB.C w' A (readD D a b).length (readD D a b) ∧ Below w.heap.size w w' := by
  obtain ⟨okD, okX, hD, hX, _⟩ := h
  refine (Read_any hD a b).mono fun e w' ⟨v, he, hr, hb⟩ => ?_
  rw [gotD, if_pos hh] at hr
  obtain ⟨A, c, rfl, _, hC⟩ := hr.reads
  rw [hasE, if_pos hh] at he
  exact ⟨A, c, he, hC, hb⟩
theorem Two.rread (h : Two K N0 p x D s ps w) (hs : ShapeOk s) (hl : ps.length < 1000000) (a b : Int) : Calls Try.prog 49 #[.pointer (some ⟨x, 0, none⟩), .int .i64 a, .int .i64 b] w fun e w' => ∃ A c, e = .returned (.slice A (readP s.2.2.toNat a b ps).length c) ∧ kB.C w' A (readP s.2.2.toNat a b ps).length (readP s.2.2.toNat a b ps) ∧ Below w.heap.size w w' := by
  obtain ⟨okD, okX, hD, hX, _⟩ := h
  refine (RRead_any hX hs hl a b).mono fun e w' ⟨v, he, hr, hb⟩ => ?_
  obtain ⟨A, c, rfl, _, hC⟩ := hr.reads
  exact ⟨A, c, he, hC, hb⟩
theorem Two.used (h : Two K N0 p x D s ps w) (a b : Int) : Calls Try.prog 39 #[.pointer (some ⟨p, 0, none⟩), .int .i64 a, .int .i64 b] w fun e w' => e = .returned (.bool (usedB D a b)) ∧ w = w' := by
  obtain ⟨okD, okX, hD, hX, _⟩ := h
  exact Used_any hD a b
theorem Two.rfind (h : Two K N0 p x D s ps w) (hl : ps.length < 1000000) (a b : Int) : Calls Try.prog 48 #[.pointer (some ⟨x, 0, none⟩), .int .i64 a, .int .i64 b] w fun e w' => e = .returned (.int .i64 (findI a b ps)) ∧ Below w.heap.size w w' := by
  obtain ⟨okD, okX, hD, hX, _⟩ := h
  exact RFind_any hX hl a b
theorem Two.dirty (h : Two K N0 p x D s ps w) : Calls Try.prog 40 #[.pointer (some ⟨p, 0, none⟩)] w fun e w' => e = .returned (.int .i64 (D.dirty.length : Int)) ∧ w = w' := by
  obtain ⟨okD, okX, hD, hX, _⟩ := h
  exact Dirty_any hD
theorem Two.rdirty (h : Two K N0 p x D s ps w) (hl : ps.length < 1000000) : Calls Try.prog 67 #[.pointer (some ⟨x, 0, none⟩)] w fun e w' => e = .returned (.int .i64 (dirtyN ps : Int)) ∧ Below w.heap.size w w' := by
  obtain ⟨okD, okX, hD, hX, _⟩ := h
  exact RDirty_any hX hl
theorem Two.rshape (h : Two K N0 p x D s ps w) : Calls Try.prog 43 #[.pointer (some ⟨p, 0, none⟩)] w fun e w' => e = .returned (.agg #[.int .i64 D.s.1, .int .i64 D.s.2.1, .int .i64 D.s.2.2]) ∧ Below w.heap.size w w' := by
  obtain ⟨okD, okX, hD, hX, _⟩ := h
  exact Shape_any hD
set_option maxHeartbeats 4000000 in
set_option maxRecDepth 100000 in
theorem Like_any (h : Two K N0 p x D s ps w) (hsim : Sim D s ps) (hl : ps.length < 1000000) : Calls Try.prog 30 #[.pointer (some ⟨p, 0, none⟩), .pointer (some ⟨x, 0, none⟩)] w fun e w' => e = .returned (.bool true) ∧ Below w.heap.size w w' := by
  have hs : ShapeOk s := by have := h.shape; rw [hsim.sh] at this; exact this
  obtain ⟨v, hx⟩ := h.refblk
  have k0 : w.cell? ⟨x, 0, none⟩ = some (.int .i64 s.1) := bcell hx 0
  have k1 : w.cell? ⟨x, 1, none⟩ = some (.int .i64 s.2.1) := bcell hx 1
  have k2 : w.cell? ⟨x, 2, none⟩ = some (.int .i64 s.2.2) := bcell hx 2
  have HX := Lib.hid hx
  have HT := Aside0.mk h
  have HTD := Aside0.mk h.drew
  have HSIM := Aside0.mk hsim
  have HM := Lib.hid hl
  have HS := Lib.hid hs
  clear hx h hsim hl hs
  have hcs := HTD.out.rshape
  rw [HSIM.out.sh] at hcs
  have HCS := Lib.hid hcs
  clear hcs
  go_enter Try.func30, Try.ntmps30
  go_wp2_with fail
  have hdn := HSIM.out.dirtyN
  have e1 : ((dirtyN ps : Int) != (dirtyN ps : Int)) = false := by simp
  have HDN := Lib.hid hdn
  clear hdn
  go_region_held3 (fun w' => w'.cell? ⟨x, 0, none⟩ = some (.int .i64 s.1) ∧ w'.cell? ⟨x, 1, none⟩ = some (.int .i64 s.2.1) ∧ w'.cell? ⟨x, 2, none⟩ = some (.int .i64 s.2.2)) (first | go_keep | exact ⟨z1, z2, z3⟩ | exact ⟨t1, t2, t3⟩)
    (first
      | (go_at_call 43; refine HCS.out.mono ?_; rintro e w1 ⟨rfl, hb⟩; have HB1 := Aside0.mk (undrew hb); have z1 : w1.cell? ⟨x, 0, none⟩ = some (.int .i64 s.1) := ((undrew hb).cell (p := ⟨x, 0, none⟩) (blt HX.out)).trans k0; have z2 : w1.cell? ⟨x, 1, none⟩ = some (.int .i64 s.2.1) := ((undrew hb).cell (p := ⟨x, 1, none⟩) (blt HX.out)).trans k1; have z3 : w1.cell? ⟨x, 2, none⟩ = some (.int .i64 s.2.2) := ((undrew hb).cell (p := ⟨x, 2, none⟩) (blt HX.out)).trans k2; clear hb)
      | (go_at_call 40; refine (HT.out.below HB1.out).dirty.mono ?_; rw [HDN.out]; rintro e w3 ⟨rfl, rfl⟩)
      | (go_at_call 67; refine ((HT.out.below HB1.out).rdirty HM.out).mono ?_; rintro e w2 ⟨rfl, hb⟩; have HB2 := Aside0.mk (HB1.out.trans (hb.mono HB1.out.size)); have t1 : w2.cell? ⟨x, 0, none⟩ = some (.int .i64 s.1) := (HB2.out.cell (p := ⟨x, 0, none⟩) (blt HX.out)).trans k0; have t2 : w2.cell? ⟨x, 1, none⟩ = some (.int .i64 s.2.1) := (HB2.out.cell (p := ⟨x, 1, none⟩) (blt HX.out)).trans k1; have t3 : w2.cell? ⟨x, 2, none⟩ = some (.int .i64 s.2.2) := (HB2.out.cell (p := ⟨x, 2, none⟩) (blt HX.out)).trans k2; clear hb))
  obtain ⟨n1, hn1⟩ := Int.eq_ofNat_of_zero_le (show 0 ≤ s.1 by have := HS.out.a0; omega)
  obtain ⟨n2, hn2⟩ := Int.eq_ofNat_of_zero_le (show 0 ≤ s.2.1 by have := HS.out.b0; omega)
  have HN1 := Lib.hid hn1
  have HN2 := Lib.hid hn2
  have hn3 : n1 ≤ 16 := by have := HS.out.a1; omega
  have hn4 : n2 ≤ 64 := by have := HS.out.b1; omega
  clear hn1 hn2 t1 t2 t3 z1 z2 z3 k0 k1 k2 e1
  go_wp2
  go_loopw [5] (fun v5 wr => ∃ a : Nat, a ≤ n1 ∧ v5 = .int .i64 (a : Int) ∧ Below w.heap.size w wr) (fun v5 _ => n1 - (intOf v5).toNat)
  case atStart => exact ⟨0, Nat.zero_le _, rfl, HB2.out⟩
  case round =>
    obtain ⟨a, ha, rfl, hb⟩ := hrel
    have HA := Aside0.mk hb
    have kx := (hb.block x (blt HX.out)).trans HX.out
    rw [HN1.out] at kx
    have k0 : wr.cell? ⟨x, 0, none⟩ = some (.int .i64 (n1 : Int)) := bcell kx 0
    clear hb kx
    by_cases hlt : a < n1
    · have e1 : decide ((a : Int) < (n1 : Int)) = true := by simp; omega
      have a0 : (0 : Int) ≤ (a : Int) := by omega
      have a1 : (a : Int) < (n1 : Int) := by omega
      go_wp2
      go_loopw [6] (fun v6 wi => ∃ b : Nat, b ≤ n2 ∧ v6 = .int .i64 (b : Int) ∧ Below w.heap.size w wi) (fun v6 _ => n2 - (intOf v6).toNat)
      case atStart => exact ⟨0, Nat.zero_le _, rfl, HA.out⟩
      case round =>
        obtain ⟨b, hb, rfl, hbi⟩ := hrel
        have HI := Aside0.mk hbi
        have kx := (hbi.block x (blt HX.out)).trans HX.out
        rw [HN2.out] at kx
        have k1 : wr.cell? ⟨x, 1, none⟩ = some (.int .i64 (n2 : Int)) := bcell kx 1
        have hti := HT.out.below hbi
        clear hbi kx k0
        by_cases hlt2 : b < n2
        · have b1 : (b : Int) < (n2 : Int) := by omega
          have b0 : (0 : Int) ≤ (b : Int) := by omega
          have hh : hasB D.s a b = true := by
            rw [hasB_iff, HSIM.out.sh, HN1.out, HN2.out]
            omega
          obtain ⟨R, hR⟩ : ∃ R, R = readD D a b := ⟨_, rfl⟩
          have hR2 : readP s.2.2.toNat a b ps = R := by rw [hR, HSIM.out.read]
          have hRl : R.length < 1000000 := by
            have h1 := look_len (D := D) (by obtain ⟨_, _, ⟨_, _, _, _, hD⟩, _⟩ := HT.out; exact hD.lens) (a, b)
            rw [hR, readD, numB, full_length h1, HSIM.out.sh]
            have := HS.out.c1
            omega
          have hu := HSIM.out.used a b
          obtain ⟨F, hF⟩ : ∃ F, F = findI a b ps := ⟨_, rfl⟩
          have hFl : -1 ≤ F := by
            rw [hF, findI]
            rcases idxI_cases (atB a b) ps with h | ⟨_, _, h, _⟩ <;> rw [h] <;> omega
          have hrd := hti.read a b hh
          rw [← hR] at hrd
          have hrr := fun (W : World) (hW : Below wr.heap.size wr W) => (hti.below hW).rread HS.out HM.out a b
          rw [hR2] at hrr
          have hus := fun (W : World) (hW : Below wr.heap.size wr W) => (hti.below hW).used a b
          rw [hu] at hus
          have hfi := fun (W : World) (hW : Below wr.heap.size wr W) => (hti.below hW).rfind HM.out a b
          rw [← hF] at hus hfi
          have HRD := Lib.hid hrd
          have HRR := Lib.hid hrr
          have HUS := Lib.hid hus
          have HFI := Lib.hid hfi
          have HRL := Lib.hid hRl
          have HFL := Lib.hid hFl
          clear hti hh hR hR2 hRl hu hF hFl hrd hrr hus hfi
          go_wp2_with (first
            | (go_at_call 38; (with_reducible refine HRD.out.mono ?_); rintro e w3 ⟨B1, c1, rfl, hC, hb⟩; have HC1 := Aside0.mk hC; have HB3 := Aside0.mk hb; clear hC hb)
            | (go_at_call 49; (with_reducible refine (HRR.out _ HB3.out).mono ?_); rintro e w4 ⟨B2, c2, rfl, hC, hb⟩; have HC2 := Aside0.mk hC; have HC3 := Aside0.mk (Kd.C_below HC1.out hb); have HB4 := Aside0.mk (HB3.out.trans (hb.mono HB3.out.size)); clear hC hb)
            | (go_at_call 19; (with_reducible refine (Bytes_any HC3.out HC2.out HRL.out HRL.out).mono ?_); rw [decide_eq_true rfl]; rintro e w5 ⟨rfl, hb⟩; have HB5 := Aside0.mk (HB4.out.trans (hb.mono HB4.out.size)); clear hb)
            | (go_at_call 39; (with_reducible refine (HUS.out _ HB5.out).mono ?_); rintro e w6 ⟨rfl, rfl⟩)
            | (go_at_call 48; (with_reducible refine (HFI.out _ HB5.out).mono ?_); rintro e w7 ⟨rfl, hb⟩; have HB6 := Aside0.mk (HB5.out.trans (hb.mono HB5.out.size)); clear hb))
          exact ⟨⟨b + 1, by omega, by go_num, HI.out.trans (HB6.out.mono HI.out.size)⟩, by simp [intOf]; omega⟩
        · obtain rfl : b = n2 := by omega
          clear hti
          go_wp2
          exact ⟨⟨a + 1, by omega, by go_num, HI.out⟩, by simp [intOf]; omega⟩
    · obtain rfl : a = n1 := by omega
      go_wp2
      go_ret
      exact ⟨rfl, HA.out⟩
end
end Go.Proofs.Ytkmanjfmffdcbaa.Fl

/- The law's own awake: walked. No condition. -/
namespace Go.Proofs.Ytkmanjfmffdcbaa.Fl
open Go.RowKit Go.Proofs.YtkmanjfmffdcbaaW.PrintWords Go.Proofs.YtkmanjfmffdcbaaW.PrintMore Go.Maps
set_option linter.unusedSimpArgs false
set_option linter.unusedVariables false
def aS : Int × Int × Int := (1, 1, 16)
def aD0 : PD := ⟨aS, [], []⟩
def aP : PlanT := ⟨0, -1, 0⟩
def aD1 : PD := writeD aD0 0 0 [7]
theorem a1 : writeE aD0 0 0 [7] = 0 := by decide
theorem a2 : usedB aD1 0 0 = true := by decide
theorem a3 : usedB (crashD aD1 aP) 0 0 = false := by decide
theorem a4 : aD1.dirty.length < 1000000 := by decide
theorem a5 : aD1.dirty.Pairwise (· ≠ ·) := by decide
theorem a6 : ∀ a ∈ aD1.dirty, (look a aD1.mp).isSome = true := by decide
theorem C_one {w : World} {g : Nat} {v : Int} (h : w.cell? ⟨g, 0, none⟩ = some (.int .u8 v)) : kB.C w (some ⟨g, 0, none⟩) [v].length [v] := by
  refine Kd.C_of_reads (d := 0) ⟨rfl, by simp, fun _ => ⟨_, rfl, fun j hj => ?_⟩⟩
  have : j = 0 := by simp at hj; exact hj
  subst this
  exact h
/-- One device above N0. -/
def Dev1 (N0 p : Nat) (D : PD) (w : World) : Prop := DevIs N0 p D (fun k => N0 ≤ k) w ∧ N0 ≤ w.heap.size
theorem Dev1.op {N0 p : Nat} {D D' : PD} {w : World} {f : FuncId} {args : Array Value} {res : Ending} (h : Dev1 N0 p D w) (hc : Calls Try.prog f args w fun e w' => e = res ∧ DevIs N0 p D' (fun k => N0 ≤ k ∨ w.heap.size ≤ k) w' ∧ Upd (Mut (fun k => N0 ≤ k) w) w w') :
    Calls Try.prog f args w fun e w' => e = res ∧ Dev1 N0 p D' w' ∧ Below N0 w w' :=
  hc.mono fun e w1 ⟨he, hd, hu⟩ => ⟨he, ⟨hd.mono (fun k hk => hk.elim id (fun h1 => Nat.le_trans h.2 h1)), Nat.le_trans h.2 hu.size⟩, upd_below hu h.2 (fun _ h => h)⟩
set_option maxHeartbeats 1000000 in
set_option maxRecDepth 100000 in
theorem Awake_any (w : World) : Calls Try.prog 24 #[] w fun e w' => e = .returned (.bool true) ∧ Below w.heap.size w w' := by
  have hnew : Calls Try.prog 27 #[.agg #[.int .i64 1, .int .i64 1, .int .i64 16]] w fun e w' => ∃ p, e = .returned (.tuple #[.pointer (some ⟨p, 0, none⟩), .int .i64 0]) ∧ DevIs w.heap.size p aD0 (fun k => w.heap.size ≤ k) w' ∧ Below w.heap.size w w' := New_ok aS rfl w w.heap.size (Nat.le_refl _)
  have hw : ∀ (p g : Nat) (W : World), Dev1 w.heap.size p aD0 W → W.cell? ⟨g, 0, none⟩ = some (.int .u8 7) → Calls Try.prog 34 #[.pointer (some ⟨p, 0, none⟩), .int .i64 0, .int .i64 0, .slice (some ⟨g, 0, none⟩) 1 1] W fun e w' => e = .returned (.int .i64 0) ∧ Dev1 w.heap.size p aD1 w' ∧ Below w.heap.size W w' := fun p g W hD hg => by
    have := hD.op (Write_any hD.1 0 0 (some ⟨g, 0, none⟩) 1 [7] (C_one hg) (by decide))
    rw [a1] at this
    exact this
  have hu : ∀ (p : Nat) (W : World), Dev1 w.heap.size p aD1 W → Calls Try.prog 39 #[.pointer (some ⟨p, 0, none⟩), .int .i64 0, .int .i64 0] W fun e w' => e = .returned (.bool true) ∧ W = w' := fun p W hD => by
    have := Used_any hD.1 0 0
    rw [a2] at this
    exact this
  have hc : ∀ (p : Nat) (W : World), Dev1 w.heap.size p aD1 W → Calls Try.prog 36 #[.pointer (some ⟨p, 0, none⟩), .agg #[.int .u64 0, .int .i64 (-1), .int .i64 0]] W fun e w' => e = .returned (.tuple #[]) ∧ Dev1 w.heap.size p (crashD aD1 aP) w' ∧ Below w.heap.size W w' := fun p W hD => hD.op (Crash_any hD.1 aP (by decide) (by decide) a4 a5 a6)
  have hu2 : ∀ (p : Nat) (W : World), Dev1 w.heap.size p (crashD aD1 aP) W → Calls Try.prog 39 #[.pointer (some ⟨p, 0, none⟩), .int .i64 0, .int .i64 0] W fun e w' => e = .returned (.bool false) ∧ W = w' := fun p W hD => by
    have := Used_any hD.1 0 0
    rw [a3] at this
    exact this
  have hal : ∀ (p : Nat) (W : World) (o : Obj), Dev1 w.heap.size p aD0 W → Dev1 w.heap.size p aD0 (W.alloc o) := fun p W o h => ⟨h.1.below (below_alloc (Below.refl _ _) _), by have := h.2; simp; omega⟩
  have HNEW := Lib.hid hnew
  have HW := Lib.hid hw
  have HU := Lib.hid hu
  have HC := Lib.hid hc
  have HU2 := Lib.hid hu2
  have HAL := Lib.hid hal
  clear hnew hw hu hc hu2 hal
  go_enter Try.func24, Try.ntmps24
  go_wp2_with (first
    | (go_at_call 27; (with_reducible refine HNEW.out.mono ?_); rintro e w1 ⟨p, rfl, hd, hb⟩; have HD1 := Aside0.mk (show Dev1 w.heap.size p aD0 w1 from ⟨hd, hb.size⟩); have HB1 := Aside0.mk hb; clear hd hb)
    | (go_at_call 34; (refine (HW.out _ _ _ (HAL.out _ _ _ HD1.out) (bcell (blk_new _ _) 0)).mono ?_); rintro e w2 ⟨rfl, hd, hb⟩; have HD2 := Aside0.mk hd; have HB2 := Aside0.mk ((HB1.out.alloc HB1.out.size _).trans hb); clear hd hb)
    | (go_at_call 39; (with_reducible refine (HU.out _ _ HD2.out).mono ?_); rintro e w3 ⟨rfl, rfl⟩)
    | (go_at_call 36; (refine (HC.out _ _ HD2.out).mono ?_); rintro e w4 ⟨rfl, hd, hb⟩; have HD4 := Aside0.mk hd; have HB4 := Aside0.mk (HB2.out.trans hb); clear hd hb)
    | (go_at_call 39; (with_reducible refine (HU2.out _ _ HD4.out).mono ?_); rintro e w5 ⟨rfl, rfl⟩))
  go_ret
  exact ⟨rfl, HB4.out⟩
end Go.Proofs.Ytkmanjfmffdcbaa.Fl

/- FlashDoes: walked. No condition but what every argument brings. -/
namespace Go.Proofs.Ytkmanjfmffdcbaa.Fl
open Go.RowKit Go.Proofs.YtkmanjfmffdcbaaW.PrintWords Go.Proofs.YtkmanjfmffdcbaaW.PrintMore Go.Maps
set_option linter.unusedSimpArgs false
set_option linter.unusedVariables false
theorem Right_is (s : Int × Int × Int) (w : World) : Calls Try.prog 28 #[.agg #[.int .i64 s.1, .int .i64 s.2.1, .int .i64 s.2.2]] w fun e w' => e = .returned (.bool (shapeB s)) ∧ Below w.heap.size w w' := Right_any s w
set_option maxHeartbeats 4000000 in
set_option maxRecDepth 100000 in
theorem FlashDoes_any {w : World} {A : Option Addr} {c : Nat} (s : Int × Int × Int) {ds : List DeedT} (hr : DRow w A ds) (h0 : ds.length ≤ 9223372036854775807) (hp : ∀ d ∈ ds, PlanOk d.P) :
    Calls Try.prog 7 #[.agg #[.int .i64 s.1, .int .i64 s.2.1, .int .i64 s.2.2], .slice A ds.length c] w fun e w' => e = .returned (.bool true) ∧ Below w.heap.size w w' := by
  obtain ⟨n, hn⟩ : ∃ n, n = ds.length := ⟨_, rfl⟩
  obtain ⟨W, hW⟩ : ∃ W, W = w.alloc (.cells #[.int .i64 s.1, .int .i64 s.2.1, .int .i64 s.2.2] 46) := ⟨_, rfl⟩
  have q0 : W.heap[w.heap.size]? = some (.cells #[.int .i64 s.1, .int .i64 s.2.1, .int .i64 s.2.2] 46 (0, 0)) := by rw [hW]; exact blk_new w _
  have qb : Below w.heap.size w W := by rw [hW]; exact below_alloc (Below.refl _ _) _
  have hbox : ∀ V : World, Below W.heap.size W V → V.cell? ⟨w.heap.size, 0, none⟩ = some (.int .i64 s.1) ∧ V.cell? ⟨w.heap.size, 1, none⟩ = some (.int .i64 s.2.1) ∧ V.cell? ⟨w.heap.size, 2, none⟩ = some (.int .i64 s.2.2) := fun V hV => by
    have := (hV.block w.heap.size (blt q0)).trans q0
    exact ⟨bcell this 0, bcell this 1, bcell this 2⟩
  have hfew : ∀ V : World, Below W.heap.size W V → Calls Try.prog 25 #[.slice A n c] V fun e w' => e = .returned (.bool (fewB ds)) ∧ Below W.heap.size W w' := fun V hV => by
    rw [hn]
    exact (Few_any ((hr.below qb).below hV) h0).mono fun e w' ⟨h1, h2⟩ => ⟨h1, hV.trans (h2.mono hV.size)⟩
  have hmade : shapeB s = true → fewB ds = true → ∀ V : World, Below W.heap.size W V → Calls Try.prog 29 #[.agg #[.int .i64 s.1, .int .i64 s.2.1, .int .i64 s.2.2], .slice A n c] V fun e w' => ∃ p x, e = .returned (.tuple #[.pointer (some ⟨p, 0, none⟩), .pointer (some ⟨x, 0, none⟩), .bool true]) ∧ (∃ D ps, Two (fun _ => False) V.heap.size p x D s ps w' ∧ Sim D s ps ∧ ps.length ≤ 60) ∧ Below W.heap.size W w' := fun hs hf V hV => by
    rw [hn]
    have h60 : ds.length ≤ 60 := by
      unfold fewB at hf
      simp at hf
      exact hf.2
    exact (Made_any hs ((hr.below qb).below hV) h60 hp).mono fun e w' ⟨p, x, D, ps, h1, h2, h3, h4, h5⟩ => ⟨p, x, h1, ⟨D, ps, h2, h3, h4⟩, hV.trans (h5.mono hV.size)⟩
  have HBOX := Lib.hid hbox
  have HFEW := Lib.hid hfew
  have HMADE := Lib.hid hmade
  have HW := Lib.hid hW
  have QB := Aside0.mk qb
  have HN := Lib.hid hn
  rw [← hn] at h0
  rw [← hn]
  clear hr hn hp hbox hfew hmade hW q0 qb
  cases hf : fewB ds with
  | false =>
    have HF := Lib.hid hf
    clear hf
    go_enter Try.func7, Try.ntmps7
    go_wp2_with fail
    rw [← HW.out]
    go_wp2_with (first
      | (go_at_call 24; (with_reducible refine (Awake_any _).mono ?_); rintro e w1 ⟨rfl, hb⟩; have HB1 := Aside0.mk hb; clear hb)
      | (go_at_call 25; (with_reducible refine (HFEW.out _ HB1.out).mono ?_); rw [HF.out]; rintro e w2 ⟨rfl, hb⟩; have HB2 := Aside0.mk hb; clear hb))
    go_ret
    exact ⟨rfl, QB.out.trans (HB2.out.mono QB.out.size)⟩
  | true =>
    have HF := Lib.hid hf
    clear hf
    cases hs : shapeB s with
    | false =>
      have hno := fun V => New_no s hs V
      have HNO := Lib.hid hno
      have HS := Lib.hid hs
      clear hs hno
      go_enter Try.func7, Try.ntmps7
      go_wp2_with fail
      rw [← HW.out]
      go_wp2_with (first
        | (go_at_call 24; (with_reducible refine (Awake_any _).mono ?_); rintro e w1 ⟨rfl, hb⟩; have HB1 := Aside0.mk hb; clear hb)
        | (go_at_call 25; (with_reducible refine (HFEW.out _ HB1.out).mono ?_); rw [HF.out]; rintro e w2 ⟨rfl, hb⟩; obtain ⟨k1, k2, k3⟩ := HBOX.out _ hb; have HB2 := Aside0.mk hb; clear hb)
        | (go_at_call 26; (with_reducible refine (RShape_any _ _).mono ?_); rw [HS.out]; rintro e w3 ⟨rfl, hb⟩; have HB3 := Aside0.mk (HB2.out.trans (hb.mono HB2.out.size)); clear hb; obtain ⟨j1, j2, j3⟩ := HBOX.out _ HB3.out)
        | (go_at_call 27; (with_reducible refine (HNO.out _).mono ?_); rintro e w4 ⟨rfl, hb⟩; have HB4 := Aside0.mk (HB3.out.trans (hb.mono HB3.out.size)); clear hb; obtain ⟨i1, i2, i3⟩ := HBOX.out _ HB4.out)
        | (go_at_call 28; (with_reducible refine (Right_is _ _).mono ?_); rw [HS.out]; rintro e w5 ⟨rfl, hb⟩; have HB5 := Aside0.mk (HB4.out.trans (hb.mono HB4.out.size)); clear hb))
      go_ret
      exact ⟨rfl, QB.out.trans (HB5.out.mono QB.out.size)⟩
    | true =>
      have HMD := Lib.hid (HMADE.out hs HF.out)
      have HS := Lib.hid hs
      clear hs HMADE
      go_enter Try.func7, Try.ntmps7
      go_wp2_with fail
      rw [← HW.out]
      go_wp2_with (first
        | (go_at_call 24; (with_reducible refine (Awake_any _).mono ?_); rintro e w1 ⟨rfl, hb⟩; have HB1 := Aside0.mk hb; clear hb)
        | (go_at_call 25; (with_reducible refine (HFEW.out _ HB1.out).mono ?_); rw [HF.out]; rintro e w2 ⟨rfl, hb⟩; obtain ⟨k1, k2, k3⟩ := HBOX.out _ hb; have HB2 := Aside0.mk hb; clear hb)
        | (go_at_call 26; (with_reducible refine (RShape_any _ _).mono ?_); rw [HS.out]; rintro e w3 ⟨rfl, hb⟩; have HB3 := Aside0.mk (HB2.out.trans (hb.mono HB2.out.size)); clear hb; obtain ⟨j1, j2, j3⟩ := HBOX.out _ HB3.out)
        | (go_at_call 29; (with_reducible refine (HMD.out _ HB3.out).mono ?_); rintro e w4 ⟨p, x, rfl, ht, hb⟩; have HT4 := Lib.hid ht; have HB4 := Aside0.mk hb; clear ht hb; obtain ⟨i1, i2, i3⟩ := HBOX.out _ HB4.out)
        | (go_at_call 28; (with_reducible refine (Right_is _ _).mono ?_); rw [HS.out]; rintro e w5 ⟨rfl, hb⟩; have HT5 := Lib.hid (show ∃ D ps, Two (fun _ => False) _ p x D s ps w5 ∧ Sim D s ps ∧ ps.length ≤ 60 from by obtain ⟨D, ps, h1, h2⟩ := HT4.out; exact ⟨D, ps, h1.below hb, h2⟩); have HB5 := Aside0.mk (HB4.out.trans (hb.mono HB4.out.size)); clear hb)
        | (go_at_call 30; obtain ⟨D, ps, h1, h2, h3⟩ := HT5.out; (with_reducible refine (Like_any h1 h2 (by omega)).mono ?_); rintro e w6 ⟨rfl, hb⟩; have HB6 := Aside0.mk (HB5.out.trans (hb.mono HB5.out.size)); clear hb))
      go_ret
      exact ⟨rfl, QB.out.trans (HB6.out.mono QB.out.size)⟩
end Go.Proofs.Ytkmanjfmffdcbaa.Fl

/- How arguments of a law are opened to values: small facts for the rows. -/
namespace Go.Proofs.Ytkmanjfmffdcbaa.Opens
open Go.ChangeShapes Go.WideShapes Go.ChangeAt Go.RowKit Go.Joins Go.Deep Go.Proofs.YtkmanjfmffdcbaaW.PrintWords
section
variable {H : Type} {enc : TypeId × Value → H} {P : Program} {w : World} {base : Nat} {spare : Nat → Bool} {held : Bool}
theorem open_agg5 {r : Reach} {b0 : Nat} {t : TypeId} {f0 f1 f2 f3 f4 : Field} {v : Value} {d : DataW H} {p : List MemPlace} (hs : P.underlying t = some (.struct #[f0, f1, f2, f3, f4])) (hone : oneCellFields P #[f0, f1, f2, f3, f4] = true) (hC : P.cellsOf t = 5)
    (hv : Value.okWide P w r b0 t v) (h : DataW.Trod enc P w base spare held t v d p) :
    ∃ (v0 v1 v2 v3 v4 : Value) (y0 y1 y2 y3 y4 : DataW H × List MemPlace) (n : Nat), v = .agg #[v0, v1, v2, v3, v4] ∧ d = .agg [y0.1, y1.1, y2.1, y3.1, y4.1] ∧ p = y0.2 ++ (y1.2 ++ (y2.2 ++ (y3.2 ++ y4.2))) ∧
      DataW.trod enc P w base spare held n f0.type [v0] = some y0 ∧ DataW.trod enc P w base spare held n f1.type [v1] = some y1 ∧ DataW.trod enc P w base spare held n f2.type [v2] = some y2 ∧ DataW.trod enc P w base spare held n f3.type [v3] = some y3 ∧ DataW.trod enc P w base spare held n f4.type [v4] = some y4 := by
  obtain ⟨cs, rfl, hsz⟩ := okWide_struct hs hv
  obtain ⟨l⟩ := cs
  match l, hsz.trans hC with
  | [c0, c1, c2, c3, c4], _ =>
    obtain ⟨fuel, hf⟩ := h
    obtain ⟨xs, n, _, hx, _, hlen, hg⟩ := DataW.trod_struct hs hf
    obtain ⟨o0, k0⟩ := hone_of hone 0 f0 rfl
    obtain ⟨o1, k1⟩ := hone_of hone 1 f1 rfl
    obtain ⟨o2, k2⟩ := hone_of hone 2 f2 rfl
    obtain ⟨o3, k3⟩ := hone_of hone 3 f3 rfl
    obtain ⟨o4, k4⟩ := hone_of hone 4 f4 rfl
    match xs, hlen with
    | [y0, y1, y2, y3, y4], _ =>
      simp only [Prod.mk.injEq] at hx
      exact ⟨c0, c1, c2, c3, c4, y0, y1, y2, y3, y4, n, rfl, by simpa using hx.1, by simpa using hx.2, by simpa [Value.cells, o0, k0] using hg 0 f0 rfl, by simpa [Value.cells, o1, k1] using hg 1 f1 rfl, by simpa [Value.cells, o2, k2] using hg 2 f2 rfl, by simpa [Value.cells, o3, k3] using hg 3 f3 rfl, by simpa [Value.cells, o4, k4] using hg 4 f4 rfl⟩

/-- A slice of whole numbers, laid in one cell. -/
theorem cell_ints {t e : TypeId} {k : IntKind} {fuel : Nat} {u : Value} {x : DataW H × List MemPlace} (ht : P.underlying t = some (.slice e)) (he : P.underlying e = some (.int k)) (hC : P.cellsOf e = 1)
    (h : DataW.trod enc P w base spare held fuel t [u] = some x) :
    ∃ (A : Option Addr) (c : Nat) (l : List Int), [u] = [Value.slice A l.length c] ∧ Kd.C (Kd.int k) w A l.length l ∧ l.length ≤ c ∧ l.length ≤ maxLen ∧ (∀ n ∈ l, (Lit.int k n).wf = true) := by
  rcases open_ints ht he hC h with ⟨hcs, _⟩ | ⟨a, len, cap, zs, hcs, _, hl, hm, hz, _, hcell, hwz⟩
  · refine ⟨none, 0, [], hcs, ?_, Nat.le_refl _, Nat.zero_le _, fun n hn => by cases hn⟩
    exact Kd.C_of_reads (d := (0 : Int)) (h1 := fun _ => rfl) ⟨rfl, by simp, fun h => absurd h (by simp)⟩
  · have hlz : len ≤ zs.length := by
      rw [hz]
      split
      · exact hl
      · exact Nat.le_refl _
    have e : (zs.take len).length = len := by rw [List.length_take]; omega
    refine ⟨some a, cap, zs.take len, by rw [e]; exact hcs, ?_, by omega, by rw [e]; omega, fun n hn => hwz n (List.mem_of_mem_take hn)⟩
    refine Kd.C_of_reads (d := (0 : Int)) (h1 := fun _ => rfl) ⟨rfl, by rw [e]; unfold maxLen at hm; omega, fun _ => ⟨a, rfl, fun j hj => ?_⟩⟩
    rw [e] at hj
    rw [hcell j (by omega)]
    simp [List.getD_eq_getElem?_getD, hj]

/-- An argument that is a slice of whole numbers. -/
theorem row_ints {t e : TypeId} {k : IntKind} {A : Option Addr} {len c : Nat} {d : DataW H} {p : List MemPlace} (ht : P.underlying t = some (.slice e)) (he : P.underlying e = some (.int k)) (hC : P.cellsOf e = 1)
    (h : DataW.Trod enc P w base spare held t (.slice A len c) d p) :
    ∃ l : List Int, len = l.length ∧ Kd.C (Kd.int k) w A l.length l ∧ l.length ≤ c ∧ l.length ≤ maxLen ∧ (∀ n ∈ l, (Lit.int k n).wf = true) := by
  obtain ⟨fuel, hf⟩ := h
  obtain ⟨A', c', l, hu, h1, h2, h3, h4⟩ := cell_ints (u := .slice A len c) ht he hC hf
  simp only [List.cons.injEq, Value.slice.injEq, and_true] at hu
  obtain ⟨rfl, rfl, rfl⟩ := hu
  exact ⟨l, rfl, h1, h2, h3, h4⟩
end
end Go.Proofs.Ytkmanjfmffdcbaa.Opens

/- How a slice of deeds is opened. -/
namespace Go.Proofs.Ytkmanjfmffdcbaa.Fl
open Go.ChangeShapes Go.WideShapes Go.ChangeAt Go.RowKit Go.Joins Go.Deep Go.Proofs.YtkmanjfmffdcbaaW.PrintWords Go.Proofs.Ytkmanjfmffdcbaa.Opens
section
variable {H : Type} {enc : TypeId × Value → H} {P : Program} {w : World} {base : Nat} {spare : Nat → Bool} {held : Bool}
theorem plan_of {k t c : Int} (h : (Lit.int .u64 k).wf = true) : PlanOk ⟨k, t, c⟩ := by
  unfold Lit.wf at h
  rw [Bool.and_eq_true, decide_eq_true_eq, decide_eq_true_eq] at h
  have e1 : IntKind.min .u64 = 0 := by decide
  have e2 : IntKind.max .u64 = 18446744073709551615 := by decide
  rw [e1, e2] at h
  exact ⟨h.1, by show k < _; omega⟩
theorem plan_cells {t : TypeId} {g0 g1 g2 : Field} {n : Nat} {u0 u1 u2 : Value} {y : DataW H × List MemPlace} (he : P.underlying t = some (.struct #[g0, g1, g2])) (hone : oneCellFields P #[g0, g1, g2] = true)
    (t0 : P.underlying g0.type = some (.int .u64)) (t1 : P.underlying g1.type = some (.int .i64)) (t2 : P.underlying g2.type = some (.int .i64))
    (h : DataW.trod enc P w base spare held n t [u0, u1, u2] = some y) : ∃ Q : PlanT, u0 = .int .u64 Q.keep ∧ u1 = .int .i64 Q.torn ∧ u2 = .int .i64 Q.cut ∧ PlanOk Q := by
  obtain ⟨xs, m, _, _, _, hlen, hg⟩ := DataW.trod_struct he h
  obtain ⟨o0, k0⟩ := hone_of hone 0 g0 rfl
  obtain ⟨o1, k1⟩ := hone_of hone 1 g1 rfl
  obtain ⟨o2, k2⟩ := hone_of hone 2 g2 rfl
  match xs, hlen with
  | [y0, y1, y2], _ =>
    have t0' : DataW.trod enc P w base spare held m g0.type [u0] = some y0 := by simpa [o0, k0] using hg 0 g0 rfl
    have t1' : DataW.trod enc P w base spare held m g1.type [u1] = some y1 := by simpa [o1, k1] using hg 1 g1 rfl
    have t2' : DataW.trod enc P w base spare held m g2.type [u2] = some y2 := by simpa [o2, k2] using hg 2 g2 rfl
    obtain ⟨a0, z0, _, w0⟩ := DataW.trod_int t0 t0'
    obtain ⟨a1, z1, _, _⟩ := DataW.trod_int t1 t1'
    obtain ⟨a2, z2, _, _⟩ := DataW.trod_int t2 t2'
    exact ⟨⟨a0, a1, a2⟩, List.head_eq_of_cons_eq z0, List.head_eq_of_cons_eq z1, List.head_eq_of_cons_eq z2, plan_of w0⟩
theorem byt_of {l : List Int} (h : ∀ x ∈ l, (Lit.int .u8 x).wf = true) : Byt l := fun x hx => by
  have h1 := h x hx
  unfold Lit.wf at h1
  rw [Bool.and_eq_true, decide_eq_true_eq, decide_eq_true_eq] at h1
  have e1 : IntKind.min .u8 = 0 := by decide
  have e2 : IntKind.max .u8 = 255 := by decide
  rw [e1, e2] at h1
  exact h1
theorem deed_cells {e te : TypeId} {f0 f1 f2 f3 f4 g0 g1 g2 : Field} {n : Nat} {cs : List Value} {y : DataW H × List MemPlace} (he : P.underlying e = some (.struct #[f0, f1, f2, f3, f4]))
    (o0 : f0.offset = 0) (o1 : f1.offset = 1) (o2 : f2.offset = 2) (o3 : f3.offset = 3) (o4 : f4.offset = 4)
    (k0 : P.cellsOf f0.type = 1) (k1 : P.cellsOf f1.type = 1) (k2 : P.cellsOf f2.type = 1) (k3 : P.cellsOf f3.type = 1) (k4 : P.cellsOf f4.type = 3)
    (u0 : P.underlying f0.type = some (.int .i64)) (u1 : P.underlying f1.type = some (.int .i64)) (u2 : P.underlying f2.type = some (.int .i64)) (u3 : P.underlying f3.type = some (.slice te)) (ue : P.underlying te = some (.int .u8)) (ke : P.cellsOf te = 1)
    (u4 : P.underlying f4.type = some (.struct #[g0, g1, g2])) (hone : oneCellFields P #[g0, g1, g2] = true)
    (t0 : P.underlying g0.type = some (.int .u64)) (t1 : P.underlying g1.type = some (.int .i64)) (t2 : P.underlying g2.type = some (.int .i64))
    (hl : cs.length = 7) (h : DataW.trod enc P w base spare held n e cs = some y) :
    ∃ (d : DeedT) (A : Option Addr) (c : Nat), cs = [.int .i64 d.op, .int .i64 d.a, .int .i64 d.b, .slice A d.l.length c, .int .u64 d.P.keep, .int .i64 d.P.torn, .int .i64 d.P.cut] ∧ kB.C w A d.l.length d.l ∧ PlanOk d.P ∧ Byt d.l := by
  obtain ⟨xs, m, _, _, _, hlen, hg⟩ := DataW.trod_struct he h
  match cs, hl, xs, hlen with
  | [c0, c1, c2, c3, c4, c5, c6], _, [y0, y1, y2, y3, y4], _ =>
    have s0 : DataW.trod enc P w base spare held m f0.type [c0] = some y0 := by simpa [o0, k0] using hg 0 f0 rfl
    have s1 : DataW.trod enc P w base spare held m f1.type [c1] = some y1 := by simpa [o1, k1] using hg 1 f1 rfl
    have s2 : DataW.trod enc P w base spare held m f2.type [c2] = some y2 := by simpa [o2, k2] using hg 2 f2 rfl
    have s3 : DataW.trod enc P w base spare held m f3.type [c3] = some y3 := by simpa [o3, k3] using hg 3 f3 rfl
    have s4 : DataW.trod enc P w base spare held m f4.type [c4, c5, c6] = some y4 := by simpa [o4, k4] using hg 4 f4 rfl
    obtain ⟨a0, z0, _, _⟩ := DataW.trod_int u0 s0
    obtain ⟨a1, z1, _, _⟩ := DataW.trod_int u1 s1
    obtain ⟨a2, z2, _, _⟩ := DataW.trod_int u2 s2
    obtain ⟨A, c, l, z3, hr, _, _, hw⟩ := cell_ints u3 ue ke s3
    obtain ⟨Q, e4, e5, e6, hQ⟩ := plan_cells u4 hone t0 t1 t2 s4
    refine ⟨⟨a0, a1, a2, l, Q⟩, A, c, ?_, hr, hQ, byt_of hw⟩
    rw [List.head_eq_of_cons_eq z0, List.head_eq_of_cons_eq z1, List.head_eq_of_cons_eq z2, List.head_eq_of_cons_eq z3, e4, e5, e6]
theorem row_deeds {t e te : TypeId} {f0 f1 f2 f3 f4 g0 g1 g2 : Field} {A : Option Addr} {len c : Nat} {d : DataW H} {p : List MemPlace} (ht : P.underlying t = some (.slice e)) (he : P.underlying e = some (.struct #[f0, f1, f2, f3, f4])) (hC : P.cellsOf e = 7)
    (o0 : f0.offset = 0) (o1 : f1.offset = 1) (o2 : f2.offset = 2) (o3 : f3.offset = 3) (o4 : f4.offset = 4)
    (k0 : P.cellsOf f0.type = 1) (k1 : P.cellsOf f1.type = 1) (k2 : P.cellsOf f2.type = 1) (k3 : P.cellsOf f3.type = 1) (k4 : P.cellsOf f4.type = 3)
    (u0 : P.underlying f0.type = some (.int .i64)) (u1 : P.underlying f1.type = some (.int .i64)) (u2 : P.underlying f2.type = some (.int .i64)) (u3 : P.underlying f3.type = some (.slice te)) (ue : P.underlying te = some (.int .u8)) (ke : P.cellsOf te = 1)
    (u4 : P.underlying f4.type = some (.struct #[g0, g1, g2])) (hone : oneCellFields P #[g0, g1, g2] = true)
    (t0 : P.underlying g0.type = some (.int .u64)) (t1 : P.underlying g1.type = some (.int .i64)) (t2 : P.underlying g2.type = some (.int .i64))
    (h : DataW.Trod enc P w base spare held t (.slice A len c) d p) : ∃ ds : List DeedT, len = ds.length ∧ DRow w A ds ∧ ds.length ≤ 9223372036854775807 ∧ ∀ d ∈ ds, PlanOk d.P ∧ Byt d.l := by
  obtain ⟨fuel, hf⟩ := h
  rcases open_slice ht hf with ⟨hcs, _⟩ | ⟨a, len', cap, m, n, D, Pl, hcs, hb, hl, hm, hmm, _, hel⟩
  · simp [Value.cells] at hcs
    obtain ⟨rfl, rfl, rfl⟩ := hcs
    exact ⟨[], rfl, fun i d hi => by simp at hi, by simp, by simp⟩
  · simp [Value.cells] at hcs
    obtain ⟨rfl, rfl, rfl⟩ := hcs
    have hlm : len ≤ m := by rw [hmm]; split <;> omega
    have each : ∀ i, ∃ x : DeedT, i < len → (PlanOk x.P ∧ Byt x.l) ∧ ∃ A1 c1, kB.C w A1 x.l.length x.l ∧ w.cells? base (a.add (i * 7)) 7 = some [.int .i64 x.op, .int .i64 x.a, .int .i64 x.b, .slice A1 x.l.length c1, .int .u64 x.P.keep, .int .i64 x.P.torn, .int .i64 x.P.cut] := by
      intro i
      by_cases hi : i < len
      · obtain ⟨cs', h1, h2⟩ := hel i (by omega)
        rw [hC] at h1
        obtain ⟨x, A1, c1, rfl, h3, h4, h5⟩ := deed_cells he o0 o1 o2 o3 o4 k0 k1 k2 k3 k4 u0 u1 u2 u3 ue ke u4 hone t0 t1 t2 (World.cells?_some h1).2.1 h2
        exact ⟨x, fun _ => ⟨⟨h4, h5⟩, A1, c1, h3, h1⟩⟩
      · exact ⟨⟨0, 0, 0, [], 0, 0, 0⟩, fun h => absurd h hi⟩
    refine ⟨(List.range len).map (fun i => Classical.choose (each i)), by simp, fun i d hi => ?_, by simp; unfold maxLen at hm; omega, fun d hd => ?_⟩
    · have hil : i < len := by
        have := (List.getElem?_eq_some_iff.1 hi).1
        simpa using this
      have hx : d = Classical.choose (each i) := by simpa [hil] using hi.symm
      obtain ⟨_, A1, c1, h1, h2⟩ := Classical.choose_spec (each i) hil
      rw [← hx] at h1 h2
      have h3 := (World.cells?_some h2).2.2
      have g0 := h3 0 (by omega)
      refine ⟨a, A1, c1, rfl, ?_, h3 1 (by omega), h3 2 (by omega), h3 3 (by omega), h3 4 (by omega), h3 5 (by omega), h3 6 (by omega), h1⟩
      simpa [Addr.add] using g0
    · rw [List.mem_map] at hd
      obtain ⟨i, hi, rfl⟩ := hd
      exact (Classical.choose_spec (each i) (by simpa using hi)).1
end
theorem flash_does_walk (a b c : Int) (A : Option Addr) (d : Nat) (ds : List DeedT) (W : World) (_ : (Lit.int .i64 a).wf = true) (_ : (Lit.int .i64 b).wf = true) (_ : (Lit.int .i64 c).wf = true) (hr : DRow W A ds) (h0 : ds.length ≤ 9223372036854775807) (hp : ∀ d ∈ ds, PlanOk d.P ∧ Byt d.l) :
    Calls Try.prog 7 #[.agg #[.int .i64 a, .int .i64 b, .int .i64 c], .slice A ds.length d] W fun e w' => e = .returned (.bool true) ∧ Below W.heap.size W w' := FlashDoes_any (a, b, c) hr h0 (fun d h => (hp d h).1)
end Go.Proofs.Ytkmanjfmffdcbaa.Fl

/- The document's device, copied: walked. No condition. -/
namespace Go.Proofs.Ytkmanjfmffdcbaa.Fl
open Go.RowKit Go.Proofs.YtkmanjfmffdcbaaW.PrintWords Go.Proofs.YtkmanjfmffdcbaaW.PrintMore Go.Maps
set_option linter.unusedSimpArgs false
set_option linter.unusedVariables false
theorem flatP_one {w : World} {N0 : Nat} {ok : Nat → Prop} : ∀ {qs : List PgC} {ps : List Pg}, PgRel N0 ok w qs ps → ∀ u ∈ flatP qs, u.oneCell' = true
  | [], _, _, u, h => by cases h
  | q :: qs, [], hr, _, _ => by cases hr
  | q :: qs, p :: ps, hr, u, h => by
    obtain ⟨⟨_, _, h3⟩, h4⟩ := hr
    simp only [flatP, List.mem_cons] at h
    rcases h with rfl | rfl | rfl | rfl | h
    · rfl
    · rfl
    · obtain ⟨_, _, e, _⟩ := h3.reads
      rw [e]; rfl
    · rfl
    · exact flatP_one h4 u h
theorem own_R {w w' : World} {N0 : Nat} {ok : Nat → Prop} {qs : List PgC} {ps : List Pg} {v' : Value} {n : Nat} (h0 : N0 ≤ w.heap.size) (hrel : PgRel N0 ok w qs ps) (ho : w'.ownsRow w.heap.size TP 4 v' n (flatP qs)) (hn : n = ps.length) (hb : Below w.heap.size w w') : kPage.R TP w' N0 (CopyOk ok w) v' ps := by
  have hob : ∀ k, v'.ownBlock = some k → w.heap.size ≤ k := fun k hk => own_base ho k hk
  refine ⟨fun k hk => .inl (hob k hk), flatP qs, ?_, P_reps (hrel.imp (fun _ _ hr => ?_))⟩
  · obtain ⟨h1, h2⟩ := ho
    subst hn
    refine ⟨h1, h2.elim .inl (fun ⟨g, cap, cur, e, hg, h⟩ => .inr ⟨g, cap, cur, e, Nat.le_trans h0 hg, h⟩)⟩
  · refine (hr.bound.step (fun k _ hlt => hb.block k hlt)).mono (fun k hk => ?_)
    obtain ⟨h1, h2, h3, q, hq, cs, hc⟩ := hk
    obtain rfl : q = TB := by simpa using hq
    exact ⟨.inr ⟨h1, cs, _, hc⟩, fun e => by have := hob k e.symm; omega⟩
section
variable {N0 x : Nat} {s : Int × Int × Int} {ps : List Pg} {ok : Nat → Prop} {w : World}
theorem ref_copied {v' : Value} {w1 : World} (h0 : N0 ≤ w.heap.size) (hR : kPage.R TP w1 N0 (CopyOk ok w) v' ps) (hb : Below w.heap.size w w1) : RefIs N0 w1.heap.size s ps (CopyOk ok w) (w1.alloc (.cells #[.int .i64 s.1, .int .i64 s.2.1, .int .i64 s.2.2, v'] TX (0, 0))) :=
  ⟨Nat.le_trans h0 hb.size, .inl hb.size, v', blk_new w1 _, Kd.R_below hR (below_alloc (Below.refl _ _) _)⟩
set_option maxHeartbeats 2000000 in
set_option maxRecDepth 100000 in
theorem RCopy_any (hX : RefIs N0 x s ps ok w) (hl : ps.length < 1000000) : Calls Try.prog 33 #[.pointer (some ⟨x, 0, none⟩)] w fun e w' => ∃ x', e = .returned (.pointer (some ⟨x', 0, none⟩)) ∧ w.heap.size ≤ x' ∧ RefIs N0 x' s ps (CopyOk ok w) w' ∧ Below w.heap.size w w' := by
  obtain ⟨A, c, hx, hrow, hR⟩ := ref_open hX
  have hN : N0 ≤ w.heap.size := Nat.le_of_lt (Nat.lt_of_le_of_lt hX.base (blt hx))
  obtain ⟨n, hn⟩ : ∃ n, n = ps.length := ⟨_, rfl⟩
  rw [← hn] at hx hrow hl
  have k0 : w.cell? ⟨x, 0, none⟩ = some (.int .i64 s.1) := bcell hx 0
  have k1 : w.cell? ⟨x, 1, none⟩ = some (.int .i64 s.2.1) := bcell hx 1
  have k2 : w.cell? ⟨x, 2, none⟩ = some (.int .i64 s.2.2) := bcell hx 2
  have k3 : w.cell? ⟨x, 3, none⟩ = some (.slice A n c) := bcell hx 3
  have HR := Aside0.mk hR
  have HX := Lib.hid hx
  have HN0 := Lib.hid hN
  have HN := Lib.hid hn
  have HL := Lib.hid hl
  obtain ⟨i0, hi, hz0, hz1, hz2⟩ := info_parts info_page
  by_cases hv : Value.slice A n c ≠ .slice none 0 0
  · obtain ⟨g, cap, e, hg1, hg2, hr⟩ := PRow.of_R hR (by rw [← hn]; exact hv)
    rw [← hn] at e
    injection e with e1 e2 e3
    subst e1 e3
    obtain ⟨cur, qs, hh, hs, ht, hrel⟩ := hr.ex
    have HREL := Lib.hid hrel
    have HFL : Hid ((flatP qs).length = n * 4) := Lib.hid (by rw [flatP_length, hrel.length, HN.out])
    have HC : Hid (∀ j u, (flatP qs)[j]? = some u → w.cell? ((⟨g, 0, none⟩ : Addr).add j) = some u) := Lib.hid (fun j u hj => by
      rw [Addr.add_lit, Nat.zero_add]
      have hl2 := (List.getElem?_eq_some_iff.1 hj).1
      rw [flatP_length, hrel.length] at hl2
      rw [← ht, List.getElem?_take, if_pos hl2] at hj
      rw [bcell hh]
      simpa using hj)
    have hfx := flatP_one hrel
    have HO : Hid (w.ownsRow w.heap.size TP 4 (.slice none 0 0) 0 []) := Lib.hid ⟨rfl, .inl ⟨rfl, rfl⟩⟩
    have HFX := Lib.hid hfx
    clear hX hrow hR hN hn hx hr hs ht hh hrel hfx hl hv
    go_enter Try.func33, Try.ntmps33
    go_wp2_with fail
    go_region_held3 (fun w' => w'.cell? ⟨x, 0, none⟩ = some (.int .i64 s.1) ∧ w'.cell? ⟨x, 1, none⟩ = some (.int .i64 s.2.1) ∧ w'.cell? ⟨x, 2, none⟩ = some (.int .i64 s.2.2) ∧ w'.cell? ⟨x, 3, none⟩ = some (.slice (some ⟨g, 0, none⟩) n c)) (first | go_keep | exact ⟨z0, z1, z2, z3⟩)
      ((rw [if_pos (by rfl)]; refine wp_append_own (w := w.drew) (.const (.slice none 0 0)) (.tmp 10) 66 rfl w.heap.size TP i0 _ 4 48 Try.underlying66 hi hz0 hz1 hz2 rfl (by decide) _ 0 [] rfl HO.out ⟨g, 0, none⟩ n c (flatP qs) rfl HFL.out HC.out HFX.out (by have := HL.out; simp only [maxLen]; omega) (by have := HL.out; omega) (Nat.le_refl _) ?_; intro v1 w1 ho1 hg1 _; have HO1 := Lib.hid ho1; have hb1 : Below w.heap.size w w1 := (Below.refl _ w).drew.grown hg1 (Nat.le_refl _) (fun _ h => by cases h); have HB1 := Aside0.mk hb1; have hR1 := own_R HN0.out HREL.out (by have := ho1; rw [Nat.zero_add, List.nil_append] at this; exact this) HN.out hb1; obtain ⟨A6, c6, rfl⟩ := Kd.R_slice hR1; have HR1 := Aside0.mk hR1; have z0 : w1.cell? ⟨x, 0, none⟩ = some (.int .i64 s.1) := (hb1.cell (p := ⟨x, 0, none⟩) (blt HX.out)).trans k0; have z1 : w1.cell? ⟨x, 1, none⟩ = some (.int .i64 s.2.1) := (hb1.cell (p := ⟨x, 1, none⟩) (blt HX.out)).trans k1; have z2 : w1.cell? ⟨x, 2, none⟩ = some (.int .i64 s.2.2) := (hb1.cell (p := ⟨x, 2, none⟩) (blt HX.out)).trans k2; have z3 : w1.cell? ⟨x, 3, none⟩ = some (.slice (some ⟨g, 0, none⟩) n c) := (hb1.cell (p := ⟨x, 3, none⟩) (blt HX.out)).trans k3; clear ho1 hg1 hb1 hR1))
    go_wp2
    go_ret
    exact ⟨_, rfl, HB1.out.size, ref_copied HN0.out HR1.out HB1.out, HB1.out.alloc HB1.out.size _⟩
  · have hv := Classical.not_not.1 hv
    injection hv with e1 e2 e3
    subst e1 e2 e3
    have hps : ps = [] := List.eq_nil_of_length_eq_zero (by omega)
    have HPS := Lib.hid hps
    clear hX hrow hR hN hn hx hl hps
    go_enter Try.func33, Try.ntmps33
    go_wp2_with fail
    go_region_held3 (fun w' => w'.cell? ⟨x, 0, none⟩ = some (.int .i64 s.1) ∧ w'.cell? ⟨x, 1, none⟩ = some (.int .i64 s.2.1) ∧ w'.cell? ⟨x, 2, none⟩ = some (.int .i64 s.2.2) ∧ w'.cell? ⟨x, 3, none⟩ = some (.slice none 0 0)) (first | go_keep) (fail)
    go_wp2
    go_ret
    refine ⟨_, rfl, Nat.le_refl _, (ref_copied HN0.out (v' := .slice none 0 0) (by rw [HPS.out]; exact Kd.R_nil _ _ _ _ _) (Below.refl _ _)).step (fun _ _ _ => rfl), (below_alloc (Below.refl _ _) _).drew⟩
end
end Go.Proofs.Ytkmanjfmffdcbaa.Fl

/- What a crash keeps. No program in sight, but for the copy's memory. -/
namespace Go.Proofs.Ytkmanjfmffdcbaa.Fl
open Go.RowKit Go.Proofs.YtkmanjfmffdcbaaW.PrintWords Go.Proofs.YtkmanjfmffdcbaaW.PrintMore Go.Maps
set_option linter.unusedSimpArgs false
set_option linter.unusedVariables false
theorem mem_rcR_clean {n : Int} {P : PlanT} {q : Pg} (hq : q.2.2 = false) : ∀ {ps : List Pg} {i : Nat}, q ∈ ps → q ∈ rcR n P i ps
  | p :: ps, i, h => by
    rw [rcR]
    rcases List.mem_cons.1 h with rfl | h
    · rw [if_pos hq]; simp
    · split
      · exact List.mem_cons.2 (.inr (mem_rcR_clean hq h))
      · exact List.mem_append.2 (.inr (mem_rcR_clean hq h))
theorem mem_rwP {s : Int × Int × Int} {ps : List Pg} {a b : Int} {l : List Int} {q : Pg} (h : q ∈ ps) : q ∈ rwP s ps a b l := by
  unfold rwP
  split
  · exact List.mem_append.2 (.inl h)
  · exact h
theorem mem_syncP {ps : List Pg} {q : Pg} (h : q ∈ syncP ps) : q.2.2 = false := by
  simp only [syncP, List.mem_map] at h
  obtain ⟨p, _, rfl⟩ := h
  rfl
theorem got_of_mem {q : Pg} : ∀ {ps : List Pg}, Nd ps → q ∈ ps → got q.1 ps = some q.2.1
  | p :: ps, hd, h => by
    obtain ⟨h1, h2⟩ := List.pairwise_cons.1 hd
    rw [got_cons]
    rcases List.mem_cons.1 h with rfl | h
    · rw [if_pos rfl]
    · rw [if_neg (h1 q h), got_of_mem h2 h]
section
variable {K : Nat → Prop} {N0 p x : Nat} {D : PD} {s : Int × Int × Int} {ps : List Pg} {w : World}
theorem Sim.usedOf (h : Sim D s ps) {q : Pg} (hq : q ∈ ps) : usedB D q.1.1 q.1.2 = true := by
  unfold usedB
  rw [h.lk, show (q.1.1, q.1.2) = q.1 from rfl, got_of_mem h.nd hq, h.sh, h.has q hq]
  rfl
theorem Sim.readOf (h : Sim D s ps) {q : Pg} (hq : q ∈ ps) : readD D q.1.1 q.1.2 = q.2.1 := by
  unfold readD numB
  rw [h.lk, show (q.1.1, q.1.2) = q.1 from rfl, got_of_mem h.nd hq, h.sh]
  exact full_self (h.len q hq)
theorem Ents.low {N1 : Nat} {ok : Nat → Prop} (hn : N1 ≤ N0) : ∀ {es : List MapEntry} {qs : List (Adr × List Int)}, Ents N0 ok w es qs → Ents N1 ok w es qs
  | [], [], _ => trivial
  | _ :: _, _ :: _, ⟨h1, h2⟩ => ⟨⟨h1.1, h1.2.1, h1.2.2.lower hn⟩, Ents.low hn h2⟩
  | [], _ :: _, h => h.elim
  | _ :: _, [], h => h.elim
theorem DevIs.low {N1 : Nat} {ok : Nat → Prop} (h : DevIs N0 p D ok w) (hn : N1 ≤ N0) : DevIs N1 p D ok w := by
  obtain ⟨m, v, es, ck, h⟩ := h
  exact ⟨m, v, es, ck, Nat.le_trans hn h.base, h.okp, h.blk, h.okm, Nat.le_trans hn h.basem, h.map, Ents.low hn h.ents, Kd.R_lower h.dirty hn, h.shape, h.inr, h.nodup, h.lens⟩
theorem RefIs.low {N1 : Nat} {ok : Nat → Prop} (h : RefIs N0 x s ps ok w) (hn : N1 ≤ N0) : RefIs N1 x s ps ok w := by
  obtain ⟨h1, h2, v, h3, h4⟩ := h
  exact ⟨Nat.le_trans hn h1, h2, v, h3, Kd.R_lower h4 hn⟩
theorem Two.low {N1 : Nat} (h : Two K N0 p x D s ps w) (hn : N1 ≤ N0) : Two K N1 p x D s ps w := by
  obtain ⟨okD, okX, hD, hX, hd, h1, h2, h0, hK⟩ := h
  exact ⟨okD, okX, hD.low hn, hX.low hn, hd, fun k h => Nat.le_trans hn (h1 k h), fun k h => Nat.le_trans hn (h2 k h), Nat.le_trans hn h0, hK⟩
theorem Two.rcopy (h : Two K N0 p x D s ps w) (hl : ps.length < 1000000) : Calls Try.prog 33 #[.pointer (some ⟨x, 0, none⟩)] w fun e w' => ∃ x' KC, e = .returned (.pointer (some ⟨x', 0, none⟩)) ∧ RefIs N0 x' s ps KC w' ∧ Two (fun k => K k ∨ KC k) N0 p x D s ps w' ∧ Below w.heap.size w w' := by
  obtain ⟨okD, okX, hD, hX, hd, h1, h2, h0, hK⟩ := h
  refine (RCopy_any hX.bound hl).mono fun e w' ⟨x', he, hx', hR, hb⟩ => ⟨x', _, he, hR.bound, ⟨_, _, hD.bound.below hb, hX.bound.below hb, fun k h1 h2 => hd k h1.1 h2.1, fun k h => h1 k h.1, fun k h => h2 k h.1, Nat.le_trans h0 hb.size, fun k hk => ?_⟩, hb⟩
  rcases hk with hk | hk
  · exact ⟨Nat.lt_of_lt_of_le (hK k hk).1 hb.size, (hK k hk).2.imp (fun h2 => ⟨fun h => h2.1 h.1, fun h => h2.2 h.1⟩) (fun ⟨cs, fr, e⟩ => ⟨cs, fr, (hb.block k (hK k hk).1).trans e⟩)⟩
  · refine ⟨hk.2.2, ?_⟩
    rcases hk.1 with h | ⟨h, cs, fr, e⟩
    · exact .inl ⟨fun h3 => by have := h3.2.2; omega, fun h3 => by have := h3.2.2; omega⟩
    · exact .inr ⟨cs, fr, (hb.block k (blt e)).trans e⟩
end
end Go.Proofs.Ytkmanjfmffdcbaa.Fl

/- The device's methods at the nil pointer: walked. No condition. -/
namespace Go.Proofs.Ytkmanjfmffdcbaa.Fl
open Go.RowKit Go.Proofs.YtkmanjfmffdcbaaW.PrintWords Go.Proofs.YtkmanjfmffdcbaaW.PrintMore Go.Maps
set_option linter.unusedSimpArgs false
set_option linter.unusedVariables false
set_option maxHeartbeats 1000000 in
set_option maxRecDepth 100000 in
theorem has_nil (a b : Int) (w : World) : Calls Try.prog 69 #[.pointer none, .int .i64 a, .int .i64 b] w fun e w' => e = .returned (.int .i64 2) ∧ w = w' := by
  go_enter Try.func69, Try.ntmps69
  go_wp2_with (go_at_call 68; (with_reducible refine (ok_nil _).mono ?_); rintro e w' ⟨rfl, rfl⟩)
  go_ret
  exact ⟨rfl, rfl⟩
set_option maxHeartbeats 1000000 in
set_option maxRecDepth 100000 in
theorem Sync_nil (w : World) : Calls Try.prog 31 #[.pointer none] w fun e w' => e = .returned (.tuple #[]) ∧ w = w' := by
  go_enter Try.func31, Try.ntmps31
  go_wp2_with (go_at_call 68; (with_reducible refine (ok_nil _).mono ?_); rintro e w' ⟨rfl, rfl⟩)
  go_end0
  exact ⟨rfl, rfl⟩
set_option maxHeartbeats 1000000 in
set_option maxRecDepth 100000 in
theorem Dirty_nil (w : World) : Calls Try.prog 40 #[.pointer none] w fun e w' => e = .returned (.int .i64 0) ∧ w = w' := by
  go_enter Try.func40, Try.ntmps40
  go_wp2_with (go_at_call 68; (with_reducible refine (ok_nil _).mono ?_); rintro e w' ⟨rfl, rfl⟩)
  go_ret
  exact ⟨rfl, rfl⟩
set_option maxHeartbeats 1000000 in
set_option maxRecDepth 100000 in
theorem Copy_nil (w : World) : Calls Try.prog 42 #[.pointer none] w fun e w' => e = .returned (.pointer none) ∧ w = w' := by
  go_enter Try.func42, Try.ntmps42
  go_wp2_with (go_at_call 68; (with_reducible refine (ok_nil _).mono ?_); rintro e w' ⟨rfl, rfl⟩)
  go_ret
  exact ⟨rfl, rfl⟩
set_option maxHeartbeats 1000000 in
set_option maxRecDepth 100000 in
theorem Shape_nil (w : World) : Calls Try.prog 43 #[.pointer none] w fun e w' => e = .returned (.agg #[.int .i64 0, .int .i64 0, .int .i64 0]) ∧ Below w.heap.size w w' := by
  go_enter Try.func43, Try.ntmps43
  go_wp2_with (go_at_call 68; (with_reducible refine (ok_nil _).mono ?_); rintro e w' ⟨rfl, rfl⟩)
  exact bodyPost_ret (v := .agg #[.int .i64 0, .int .i64 0, .int .i64 0]) (by simp [results, Try.results43, go_sem]) rfl ⟨rfl, by repeat' (first | exact Below.refl _ _ | refine Below.setCell ?_ (Nat.le_refl _) _ | refine Below.alloc ?_ (Nat.le_refl _) _)⟩
set_option maxHeartbeats 1000000 in
set_option maxRecDepth 100000 in
theorem Crash_nil (k t c : Int) (w : World) : Calls Try.prog 36 #[.pointer none, .agg #[.int .u64 k, .int .i64 t, .int .i64 c]] w fun e w' => e = .returned (.tuple #[]) ∧ Below w.heap.size w w' := by
  go_enter Try.func36, Try.ntmps36
  go_wp2_with (go_at_call 68; (with_reducible refine (ok_nil _).mono ?_); rintro e w' ⟨rfl, rfl⟩)
  refine bodyPost_ret (results_none rfl _ _ _) rfl ?_
  exact ⟨rfl, by first | exact below_alloc (Below.refl _ _) _ | exact Below.refl _ _ | exact (below_alloc (Below.refl _ _) _).alloc (by simp) _⟩
set_option maxHeartbeats 1000000 in
set_option maxRecDepth 100000 in
theorem Used_nil (a b : Int) (w : World) : Calls Try.prog 39 #[.pointer none, .int .i64 a, .int .i64 b] w fun e w' => e = .returned (.bool false) ∧ w = w' := by
  go_enter Try.func39, Try.ntmps39
  go_wp2_with (go_at_call 69; (with_reducible refine (has_nil _ _ _).mono ?_); rintro e w' ⟨rfl, rfl⟩)
  go_ret
  exact ⟨rfl, rfl⟩
set_option maxHeartbeats 1000000 in
set_option maxRecDepth 100000 in
theorem Read_nil (a b : Int) (w : World) : Calls Try.prog 38 #[.pointer none, .int .i64 a, .int .i64 b] w fun e w' => e = .returned (.tuple #[.slice none 0 0, .int .i64 2]) ∧ w = w' := by
  go_enter Try.func38, Try.ntmps38
  go_wp2_with (go_at_call 69; (with_reducible refine (has_nil _ _ _).mono ?_); rintro e w' ⟨rfl, rfl⟩)
  go_ret2
  exact ⟨rfl, rfl⟩
set_option maxHeartbeats 1000000 in
set_option maxRecDepth 100000 in
theorem Erase_nil (a : Int) (w : World) : Calls Try.prog 41 #[.pointer none, .int .i64 a] w fun e w' => e = .returned (.int .i64 2) ∧ Below w.heap.size w w' := by
  go_enter Try.func41, Try.ntmps41
  go_wp2_with (go_at_call 69; (with_reducible refine (has_nil _ _ _).mono ?_); rintro e w' ⟨rfl, rfl⟩)
  go_ret
  exact ⟨rfl, by first | exact below_alloc (Below.refl _ _) _ | exact Below.refl _ _ | exact (below_alloc (Below.refl _ _) _).alloc (by simp) _⟩
set_option maxHeartbeats 1000000 in
set_option maxRecDepth 100000 in
theorem Write_nil (a b : Int) (A : Option Addr) (m c : Nat) (w : World) : Calls Try.prog 34 #[.pointer none, .int .i64 a, .int .i64 b, .slice A m c] w fun e w' => e = .returned (.int .i64 2) ∧ Below w.heap.size w w' := by
  go_enter Try.func34, Try.ntmps34
  go_wp2_with (go_at_call 69; (with_reducible refine (has_nil _ _ _).mono ?_); rintro e w' ⟨rfl, rfl⟩)
  go_ret
  exact ⟨rfl, by first | exact below_alloc (Below.refl _ _) _ | exact Below.refl _ _ | exact (below_alloc (Below.refl _ _) _).alloc (by simp) _⟩
end Go.Proofs.Ytkmanjfmffdcbaa.Fl

/- Package crash: After, page, Keeps at the law's own plan: walked. No condition. -/
namespace Go.Proofs.Ytkmanjfmffdcbaa.Fl
open Go.RowKit Go.Proofs.YtkmanjfmffdcbaaW.PrintWords Go.Proofs.YtkmanjfmffdcbaaW.PrintMore Go.Maps
set_option linter.unusedSimpArgs false
set_option linter.unusedVariables false
set_option maxHeartbeats 1000000 in
set_option maxRecDepth 100000 in
theorem Keeps_awake (w : World) : Calls Try.prog 75 #[.agg #[.int .u64 4, .int .i64 (-1), .int .i64 0], .int .i64 2] w fun e w' => e = .returned (.bool true) ∧ Below w.heap.size w w' := by
  have e1 : Go.bits .and .u64 1 1 = 1 := by decide
  go_enter Try.func75, Try.ntmps75
  go_wp2
  go_ret
  exact ⟨rfl, below_alloc (Below.refl _ _) _⟩
set_option maxHeartbeats 1000000 in
set_option maxRecDepth 100000 in
theorem Awake12_any (w : World) : Calls Try.prog 45 #[] w fun e w' => e = .returned (.bool true) ∧ Below w.heap.size w w' := by
  go_enter Try.func45, Try.ntmps45
  go_wp2_with (go_at_call 75; (with_reducible refine (Keeps_awake _).mono ?_); rintro e w1 ⟨rfl, hb⟩; have HB1 := Aside0.mk hb; clear hb)
  go_ret
  exact ⟨rfl, HB1.out⟩
section
variable {N0 p : Nat} {D : PD} {ok : Nat → Prop} {w : World}
set_option maxHeartbeats 1000000 in
set_option maxRecDepth 100000 in
theorem After_any (hD : DevIs N0 p D ok w) (P : PlanT) (hP : PlanOk P) (hm : D.dirty.length < 1000000) (hdn : D.dirty.Pairwise (· ≠ ·)) (hdk : ∀ a ∈ D.dirty, (look a D.mp).isSome = true) :
    Calls Try.prog 46 #[.pointer (some ⟨p, 0, none⟩), .agg #[.int .u64 P.keep, .int .i64 P.torn, .int .i64 P.cut]] w fun e w' => ∃ c okc, e = .returned (.pointer (some ⟨c, 0, none⟩)) ∧ DevIs N0 c (crashD D P) okc w' ∧ (∀ k, okc k → w.heap.size ≤ k ∨ (ok k ∧ ∃ cs fr, w.heap[k]? = some (.cells cs TB fr))) ∧ Below w.heap.size w w' := by
  obtain ⟨W, hW⟩ : ∃ W, W = w.alloc (.cells #[.int .u64 P.keep, .int .i64 P.torn, .int .i64 P.cut] 59) := ⟨_, rfl⟩
  have q1 : W.heap[w.heap.size]? = some (.cells #[.int .u64 P.keep, .int .i64 P.torn, .int .i64 P.cut] 59 (0, 0)) := by rw [hW]; exact blk_new w _
  have qb : Below w.heap.size w W := by rw [hW]; exact below_alloc (Below.refl _ _) _
  have hcp := Copy_any (hD.below qb) hm
  have HCP := Lib.hid hcp
  have HW := Lib.hid hW
  have Q1 := Lib.hid q1
  have QB := Aside0.mk qb
  have hcr := fun (c : Nat) (ok2 : Nat → Prop) (V : World) (h : DevIs N0 c D ok2 V) => Crash_any h P hP.k0 hP.k1 hm hdn hdk
  have HCR := Lib.hid hcr
  clear hcp hW q1 qb hcr hD hP hm hdn hdk
  go_enter Try.func46, Try.ntmps46
  go_wp2_with fail
  rw [← HW.out]
  go_wp2_with (first
    | (go_at_call 42; (with_reducible refine HCP.out.mono ?_); rintro e w1 ⟨c, rfl, _, hc, hb⟩; have hx := (hb.block w.heap.size (blt Q1.out)).trans Q1.out; have k0 : w1.cell? ⟨w.heap.size, 0, none⟩ = some (.int .u64 P.keep) := bcell hx 0; have k1 : w1.cell? ⟨w.heap.size, 1, none⟩ = some (.int .i64 P.torn) := bcell hx 1; have k2 : w1.cell? ⟨w.heap.size, 2, none⟩ = some (.int .i64 P.cut) := bcell hx 2; have HC := Aside0.mk hc; have HB1 := Aside0.mk hb; clear hc hb hx)
    | (go_at_call 36; (with_reducible refine (HCR.out _ _ _ HC.out).mono ?_); rintro e w2 ⟨rfl, hc, hu⟩; have HC2 := Aside0.mk hc; have HU := Aside0.mk hu; clear hc hu))
  go_ret
  have h1 := HB1.out.size
  have h2 := QB.out.size
  refine ⟨_, _, rfl, HC2.out, fun k hk => ?_, (QB.out.trans (HB1.out.mono h2)).trans (HU.out.below (Nat.le_trans h2 h1) (fun k hk => ?_))⟩
  · rcases hk with (hk | ⟨hk, cs, fr, e⟩) | hk
    · exact .inl (Nat.le_trans h2 hk)
    · by_cases hlt : k < w.heap.size
      · exact .inr ⟨hk, cs, fr, (QB.out.block k hlt).symm.trans e⟩
      · exact .inl (by omega)
    · exact .inl (by omega)
  · rcases hk.1 with hk1 | ⟨_, cs, fr, e⟩
    · exact Nat.le_trans h2 hk1
    · exact absurd ((HB1.out.block k (blt e)).trans e) (hk.2 cs fr)
set_option maxHeartbeats 1000000 in
set_option maxRecDepth 100000 in
theorem page_any (hD : DevIs N0 p D ok w) (a b : Int) :
    Calls Try.prog 79 #[.pointer (some ⟨p, 0, none⟩), .agg #[.int .i64 a, .int .i64 b]] w fun e w' => ∃ A c, e = .returned (.slice A (gotD D a b).length c) ∧ (gotD D a b).length ≤ c ∧ kB.C w' A (gotD D a b).length (gotD D a b) ∧ Below w.heap.size w w' := by
  have hrd := fun (V : World) (hV : Below w.heap.size w V) => Read_any (hD.below hV) a b
  obtain ⟨G, hG⟩ : ∃ G, G = gotD D a b := ⟨_, rfl⟩
  rw [← hG] at hrd ⊢
  have HRD := Lib.hid hrd
  have HB0 := Aside0.mk (below_alloc (Below.refl w.heap.size w) (.cells #[.int .i64 a, .int .i64 b] TA (0, 0)))
  clear hrd hG hD
  go_enter Try.func79, Try.ntmps79
  go_wp2_with (go_at_call 38; (refine (HRD.out _ HB0.out).mono ?_); rintro e w1 ⟨v, rfl, hr, hb⟩; obtain ⟨A1, c1, rfl, hlc, hC⟩ := hr.reads; have HLC := Aside0.mk hlc; have HC := Aside0.mk hC; have HB1 := Aside0.mk (HB0.out.trans (hb.mono HB0.out.size)); clear hr hb hC hlc)
  go_ret
  exact ⟨_, _, rfl, HLC.out, HC.out, HB1.out⟩
end
end Go.Proofs.Ytkmanjfmffdcbaa.Fl

/- Package crash: Pages: walked. No condition. -/
namespace Go.Proofs.Ytkmanjfmffdcbaa.Fl
open Go.RowKit Go.Proofs.YtkmanjfmffdcbaaW.PrintWords Go.Proofs.YtkmanjfmffdcbaaW.PrintMore Go.Maps
set_option linter.unusedSimpArgs false
set_option linter.unusedVariables false
def rowTo (D : PD) (a : Nat) : Nat → List Adr
  | 0 => []
  | j + 1 => rowTo D a j ++ if usedB D a j then [((a : Int), (j : Int))] else []
def pagesTo (D : PD) (m : Nat) : Nat → List Adr
  | 0 => []
  | k + 1 => pagesTo D m k ++ rowTo D k m
theorem rowTo_len (D : PD) (a : Nat) : ∀ j, (rowTo D a j).length ≤ j
  | 0 => Nat.le_refl _
  | j + 1 => by
    have := rowTo_len D a j
    rw [rowTo, List.length_append]
    split <;> simp <;> omega
theorem pagesTo_len (D : PD) (m : Nat) : ∀ k, (pagesTo D m k).length ≤ k * m
  | 0 => by simp [pagesTo]
  | k + 1 => by
    have h1 := pagesTo_len D m k
    have h2 := rowTo_len D k m
    rw [pagesTo, List.length_append, Nat.succ_mul]
    omega
def pagesL (D : PD) : List Adr := pagesTo D D.s.2.1.toNat D.s.1.toNat
section
variable {N0 p : Nat} {D : PD} {ok : Nat → Prop} {w : World}
theorem DevIs.shape (h : DevIs N0 p D ok w) : ShapeOk D.s := by
  obtain ⟨m, v, es, ck, h⟩ := h
  exact h.shape
set_option maxHeartbeats 2000000 in
set_option maxRecDepth 100000 in
theorem Pages_any (hD : DevIs N0 p D ok w) : Calls Try.prog 47 #[.pointer (some ⟨p, 0, none⟩)] w fun e w' => ∃ v, e = .returned v ∧ kAddr.R TA w' w.heap.size (fun k => w.heap.size ≤ k) v (pagesL D) ∧ Below w.heap.size w w' := by
  have hs := hD.shape
  obtain ⟨n1, hn1⟩ := Int.eq_ofNat_of_zero_le (show 0 ≤ D.s.1 by have := hs.a0; omega)
  obtain ⟨n2, hn2⟩ := Int.eq_ofNat_of_zero_le (show 0 ≤ D.s.2.1 by have := hs.b0; omega)
  have hn3 : n1 ≤ 16 := by have := hs.a1; omega
  have hn4 : n2 ≤ 64 := by have := hs.b1; omega
  have hpl : pagesL D = pagesTo D n2 n1 := by rw [pagesL, hn1, hn2]; rfl
  rw [hpl]
  have hsh := Shape_any hD
  obtain ⟨n5, hn5⟩ : ∃ n5, n5 = D.s.2.2 := ⟨_, rfl⟩
  rw [hn1, hn2, ← hn5] at hsh
  have HSH := Lib.hid hsh
  have HU := Lib.hid (fun (V : World) (hV : Below w.heap.size w V) (a b : Int) => Used_any (hD.below hV) a b)
  clear hsh hpl hn1 hn2 hs hn5 hD
  go_enter Try.func47, Try.ntmps47
  go_wp2_with (go_at_call 43; (with_reducible refine HSH.out.mono ?_); rintro e w1 ⟨rfl, hb⟩; have HB1 := Aside0.mk hb; clear hb)
  go_loopw [3, 11] (fun v3 v11 wr => ∃ k : Nat, k ≤ n1 ∧ v11 = .int .i64 (k : Int) ∧ Below w.heap.size w wr ∧ wr.heap[w1.heap.size]? = some (.cells #[.int .i64 n1, .int .i64 n2, .int .i64 n5] 46 (0, 0)) ∧ kAddr.R TA wr w.heap.size (fun k => w.heap.size ≤ k) v3 (pagesTo D n2 k)) (fun _ v11 _ => n1 - (intOf v11).toNat)
  case atStart =>
    refine ⟨0, Nat.zero_le _, rfl, ?_, ?_, Kd.R_nil _ _ _ _ _⟩
    · repeat' (first | exact HB1.out | refine Below.setCell ?_ HB1.out.size _ | refine Below.alloc ?_ HB1.out.size _)
    · exact blk_new w1 _
  case round =>
    obtain ⟨k, hk, rfl, hb, hx, hR⟩ := hrel
    have HB := Aside0.mk hb
    have HX := Lib.hid hx
    have k1 : wr.cell? ⟨w1.heap.size, 1, none⟩ = some (.int .i64 n2) := bcell hx 1
    obtain ⟨A3, c3, rfl⟩ := Kd.R_slice hR
    have HR := Aside0.mk hR
    clear hb hx hR
    by_cases hlt : k < n1
    · have k0 : (0 : Int) ≤ (k : Int) := by omega
      have k2 : (k : Int) < (n1 : Int) := by omega
      go_wp2
      go_loopw [3, 16] (fun v3 v16 wr => ∃ j : Nat, j ≤ n2 ∧ v16 = .int .i64 (j : Int) ∧ Below w.heap.size w wr ∧ wr.heap[w1.heap.size]? = some (.cells #[.int .i64 n1, .int .i64 n2, .int .i64 n5] 46 (0, 0)) ∧ kAddr.R TA wr w.heap.size (fun k => w.heap.size ≤ k) v3 (pagesTo D n2 k ++ rowTo D k j)) (fun _ v16 _ => n2 - (intOf v16).toNat)
      case atStart => exact ⟨0, Nat.zero_le _, rfl, HB.out, HX.out, by rw [rowTo, List.append_nil]; exact HR.out⟩
      case round =>
        obtain ⟨j, hj, rfl, hb, hx, hR⟩ := hrel
        have HBI := Aside0.mk hb
        have HXI := Lib.hid hx
        obtain ⟨A4, c4, rfl⟩ := Kd.R_slice hR
        have HRI := Aside0.mk hR
        clear hb hx hR k1
        by_cases hlt2 : j < n2
        · have j0 : (0 : Int) ≤ (j : Int) := by omega
          have j2 : (j : Int) < (n2 : Int) := by omega
          obtain ⟨L, hL⟩ : ∃ L, L = pagesTo D n2 k ++ rowTo D k j := ⟨_, rfl⟩
          have hLl : L.length < 5000 := by
            have h1 := pagesTo_len D n2 k
            have h2 := rowTo_len D k j
            have h3 : k * n2 ≤ 16 * 64 := Nat.mul_le_mul (by omega) hn4
            rw [hL, List.length_append]
            omega
          have HRL := Aside0.mk (show kAddr.R TA wr w.heap.size (fun k => w.heap.size ≤ k) (.slice A4 L.length c4) L by rw [hL]; exact HRI.out)
          have HLL := Lib.hid hLl
          have HL := Lib.hid hL
          rw [← hL]
          clear hLl hL
          cases hu : usedB D k j with
          | true =>
            have HUU := Lib.hid hu
            clear hu
            go_wp2_with (first
              | (go_at_call 39; (with_reducible refine (HU.out _ HBI.out _ _).mono ?_); rw [HUU.out]; rintro e w2 ⟨rfl, rfl⟩)
              | (at_builtin; refine Kd.R_append kAddr (w0 := w) w.heap.size rfl (.tmp 23) (.tmp 27) 83 TA (.agg #[.int .i64 0, .int .i64 0]) 16 rfl Try.underlying83 info_addr rfl (by decide) (by decide) (.slice A4 L.length c4) L ((k : Int), (j : Int)) [.int .i64 k, .int .i64 j] (fun j => w.heap.size ≤ j) (fun _ => False) rfl (by simp [Act.eval]) (kAddr_mk _ _ _ _ _) (fun _ h => h.elim) (fun i hi => Nat.le_trans HBI.out.size hi) HRL.out HBI.out HBI.out.size (by have := HLL.out; omega) ?_; intro v1 w3 hr1 hb2 hg hat; have HR1 := Aside0.mk hr1; have HB2 := Aside0.mk hb2; have HG := Aside0.mk hg; clear hr1 hb2 hg hat))
            refine ⟨⟨j + 1, by omega, by go_num, HB2.out, ?_, ?_⟩, by simp [intOf]; omega⟩
            · refine (HG.out.block _ (blt HXI.out) (fun e => ?_)).trans HXI.out
              obtain ⟨cs', hc'⟩ := own_typed (Kd.R_own HRL.out).choose_spec _ e.symm
              exact typ_ne HXI.out hc' (by decide) rfl
            · have h1 := HR1.out
              rw [HL.out, List.append_assoc] at h1
              rw [rowTo, if_pos HUU.out]
              exact h1
          | false =>
            have HUU := Lib.hid hu
            clear hu
            go_wp2_with (go_at_call 39; (with_reducible refine (HU.out _ HBI.out _ _).mono ?_); rw [HUU.out]; rintro e w2 ⟨rfl, rfl⟩)
            refine ⟨⟨j + 1, by omega, by go_num, HBI.out, HXI.out, ?_⟩, by simp [intOf]; omega⟩
            rw [rowTo, if_neg (by rw [HUU.out]; decide), List.append_nil, ← HL.out]
            exact HRL.out
        · obtain rfl : j = n2 := by omega
          go_wp2
          exact ⟨⟨k + 1, by omega, by go_num, HBI.out, HXI.out, HRI.out⟩, by simp [intOf]; omega⟩
    · obtain rfl : k = n1 := by omega
      go_wp2
      go_ret
      exact ⟨_, rfl, HR.out, HB.out⟩
end
end Go.Proofs.Ytkmanjfmffdcbaa.Fl

/- Like: walked, over two devices that need not lie apart. No condition. -/
namespace Go.Proofs.Ytkmanjfmffdcbaa.Fl
open Go.RowKit Go.Proofs.YtkmanjfmffdcbaaW.PrintWords Go.Proofs.YtkmanjfmffdcbaaW.PrintMore Go.Maps
set_option linter.unusedSimpArgs false
set_option linter.unusedVariables false
/-- Both in one memory, for one who reads alone. -/
def Both (N0 p x : Nat) (D : PD) (s : Int × Int × Int) (ps : List Pg) (w : World) : Prop := ∃ okD okX : Nat → Prop, DevIs N0 p D okD w ∧ RefIs N0 x s ps okX w
section
variable {N0 p x : Nat} {D : PD} {s : Int × Int × Int} {ps : List Pg} {w : World}
theorem Both.below {w' : World} (h : Both N0 p x D s ps w) (hb : Below w.heap.size w w') : Both N0 p x D s ps w' := by
  obtain ⟨okD, okX, hD, hX⟩ := h
  exact ⟨okD, okX, hD.below hb, hX.below hb⟩
theorem Both.drew (h : Both N0 p x D s ps w) : Both N0 p x D s ps w.drew := h.below ((Below.refl _ w).drew)
theorem Both.shape (h : Both N0 p x D s ps w) : ShapeOk D.s := by
  obtain ⟨okD, okX, hD, hX⟩ := h
  exact hD.shape
theorem Both.refblk (h : Both N0 p x D s ps w) : ∃ v, w.heap[x]? = some (.cells #[.int .i64 s.1, .int .i64 s.2.1, .int .i64 s.2.2, v] TX (0, 0)) := by
  obtain ⟨okD, okX, hD, ⟨_, _, v, hx, _⟩⟩ := h
  exact ⟨v, hx⟩
theorem Both.read (h : Both N0 p x D s ps w) (a b : Int) (hh : hasB D.s a b = true) : Calls Try.prog 38 #[.pointer (some ⟨p, 0, none⟩), .int .i64 a, .int .i64 b] w fun e w' => ∃ A c, e = .returned (.tuple #[.slice A (readD D a b).length c, .int .i64 0]) ∧ kB.C w' A (readD D a b).length (readD D a b) ∧ Below w.heap.size w w' := by
  obtain ⟨okD, okX, hD, hX⟩ := h
  refine (Read_any hD a b).mono fun e w' ⟨v, he, hr, hb⟩ => ?_
  rw [gotD, if_pos hh] at hr
  obtain ⟨A, c, rfl, _, hC⟩ := hr.reads
  rw [hasE, if_pos hh] at he
  exact ⟨A, c, he, hC, hb⟩
theorem Both.rread (h : Both N0 p x D s ps w) (hs : ShapeOk s) (hl : ps.length < 1000000) (a b : Int) : Calls Try.prog 49 #[.pointer (some ⟨x, 0, none⟩), .int .i64 a, .int .i64 b] w fun e w' => ∃ A c, e = .returned (.slice A (readP s.2.2.toNat a b ps).length c) ∧ kB.C w' A (readP s.2.2.toNat a b ps).length (readP s.2.2.toNat a b ps) ∧ Below w.heap.size w w' := by
  obtain ⟨okD, okX, hD, hX⟩ := h
  refine (RRead_any hX hs hl a b).mono fun e w' ⟨v, he, hr, hb⟩ => ?_
  obtain ⟨A, c, rfl, _, hC⟩ := hr.reads
  exact ⟨A, c, he, hC, hb⟩
theorem Both.used (h : Both N0 p x D s ps w) (a b : Int) : Calls Try.prog 39 #[.pointer (some ⟨p, 0, none⟩), .int .i64 a, .int .i64 b] w fun e w' => e = .returned (.bool (usedB D a b)) ∧ w = w' := by
  obtain ⟨okD, okX, hD, hX⟩ := h
  exact Used_any hD a b
theorem Both.rfind (h : Both N0 p x D s ps w) (hl : ps.length < 1000000) (a b : Int) : Calls Try.prog 48 #[.pointer (some ⟨x, 0, none⟩), .int .i64 a, .int .i64 b] w fun e w' => e = .returned (.int .i64 (findI a b ps)) ∧ Below w.heap.size w w' := by
  obtain ⟨okD, okX, hD, hX⟩ := h
  exact RFind_any hX hl a b
theorem Both.dirty (h : Both N0 p x D s ps w) : Calls Try.prog 40 #[.pointer (some ⟨p, 0, none⟩)] w fun e w' => e = .returned (.int .i64 (D.dirty.length : Int)) ∧ w = w' := by
  obtain ⟨okD, okX, hD, hX⟩ := h
  exact Dirty_any hD
theorem Both.rdirty (h : Both N0 p x D s ps w) (hl : ps.length < 1000000) : Calls Try.prog 67 #[.pointer (some ⟨x, 0, none⟩)] w fun e w' => e = .returned (.int .i64 (dirtyN ps : Int)) ∧ Below w.heap.size w w' := by
  obtain ⟨okD, okX, hD, hX⟩ := h
  exact RDirty_any hX hl
theorem Both.rshape (h : Both N0 p x D s ps w) : Calls Try.prog 43 #[.pointer (some ⟨p, 0, none⟩)] w fun e w' => e = .returned (.agg #[.int .i64 D.s.1, .int .i64 D.s.2.1, .int .i64 D.s.2.2]) ∧ Below w.heap.size w w' := by
  obtain ⟨okD, okX, hD, hX⟩ := h
  exact Shape_any hD
set_option maxHeartbeats 4000000 in
set_option maxRecDepth 100000 in
theorem Like_both (h : Both N0 p x D s ps w) (hsim : Sim D s ps) (hl : ps.length < 1000000) : Calls Try.prog 30 #[.pointer (some ⟨p, 0, none⟩), .pointer (some ⟨x, 0, none⟩)] w fun e w' => e = .returned (.bool true) ∧ Below w.heap.size w w' := by
  have hs : ShapeOk s := by have := h.shape; rw [hsim.sh] at this; exact this
  obtain ⟨v, hx⟩ := h.refblk
  have k0 : w.cell? ⟨x, 0, none⟩ = some (.int .i64 s.1) := bcell hx 0
  have k1 : w.cell? ⟨x, 1, none⟩ = some (.int .i64 s.2.1) := bcell hx 1
  have k2 : w.cell? ⟨x, 2, none⟩ = some (.int .i64 s.2.2) := bcell hx 2
  have HX := Lib.hid hx
  have HT := Aside0.mk h
  have HTD := Aside0.mk h.drew
  have HSIM := Aside0.mk hsim
  have HM := Lib.hid hl
  have HS := Lib.hid hs
  clear hx h hsim hl hs
  have hcs := HTD.out.rshape
  rw [HSIM.out.sh] at hcs
  have HCS := Lib.hid hcs
  clear hcs
  go_enter Try.func30, Try.ntmps30
  go_wp2_with fail
  have hdn := HSIM.out.dirtyN
  have e1 : ((dirtyN ps : Int) != (dirtyN ps : Int)) = false := by simp
  have HDN := Lib.hid hdn
  clear hdn
  go_region_held3 (fun w' => w'.cell? ⟨x, 0, none⟩ = some (.int .i64 s.1) ∧ w'.cell? ⟨x, 1, none⟩ = some (.int .i64 s.2.1) ∧ w'.cell? ⟨x, 2, none⟩ = some (.int .i64 s.2.2)) (first | go_keep | exact ⟨z1, z2, z3⟩ | exact ⟨t1, t2, t3⟩)
    (first
      | (go_at_call 43; refine HCS.out.mono ?_; rintro e w1 ⟨rfl, hb⟩; have HB1 := Aside0.mk (undrew hb); have z1 : w1.cell? ⟨x, 0, none⟩ = some (.int .i64 s.1) := ((undrew hb).cell (p := ⟨x, 0, none⟩) (blt HX.out)).trans k0; have z2 : w1.cell? ⟨x, 1, none⟩ = some (.int .i64 s.2.1) := ((undrew hb).cell (p := ⟨x, 1, none⟩) (blt HX.out)).trans k1; have z3 : w1.cell? ⟨x, 2, none⟩ = some (.int .i64 s.2.2) := ((undrew hb).cell (p := ⟨x, 2, none⟩) (blt HX.out)).trans k2; clear hb)
      | (go_at_call 40; refine (HT.out.below HB1.out).dirty.mono ?_; rw [HDN.out]; rintro e w3 ⟨rfl, rfl⟩)
      | (go_at_call 67; refine ((HT.out.below HB1.out).rdirty HM.out).mono ?_; rintro e w2 ⟨rfl, hb⟩; have HB2 := Aside0.mk (HB1.out.trans (hb.mono HB1.out.size)); have t1 : w2.cell? ⟨x, 0, none⟩ = some (.int .i64 s.1) := (HB2.out.cell (p := ⟨x, 0, none⟩) (blt HX.out)).trans k0; have t2 : w2.cell? ⟨x, 1, none⟩ = some (.int .i64 s.2.1) := (HB2.out.cell (p := ⟨x, 1, none⟩) (blt HX.out)).trans k1; have t3 : w2.cell? ⟨x, 2, none⟩ = some (.int .i64 s.2.2) := (HB2.out.cell (p := ⟨x, 2, none⟩) (blt HX.out)).trans k2; clear hb))
  obtain ⟨n1, hn1⟩ := Int.eq_ofNat_of_zero_le (show 0 ≤ s.1 by have := HS.out.a0; omega)
  obtain ⟨n2, hn2⟩ := Int.eq_ofNat_of_zero_le (show 0 ≤ s.2.1 by have := HS.out.b0; omega)
  have HN1 := Lib.hid hn1
  have HN2 := Lib.hid hn2
  have hn3 : n1 ≤ 16 := by have := HS.out.a1; omega
  have hn4 : n2 ≤ 64 := by have := HS.out.b1; omega
  clear hn1 hn2 t1 t2 t3 z1 z2 z3 k0 k1 k2 e1
  go_wp2
  go_loopw [5] (fun v5 wr => ∃ a : Nat, a ≤ n1 ∧ v5 = .int .i64 (a : Int) ∧ Below w.heap.size w wr) (fun v5 _ => n1 - (intOf v5).toNat)
  case atStart => exact ⟨0, Nat.zero_le _, rfl, HB2.out⟩
  case round =>
    obtain ⟨a, ha, rfl, hb⟩ := hrel
    have HA := Aside0.mk hb
    have kx := (hb.block x (blt HX.out)).trans HX.out
    rw [HN1.out] at kx
    have k0 : wr.cell? ⟨x, 0, none⟩ = some (.int .i64 (n1 : Int)) := bcell kx 0
    clear hb kx
    by_cases hlt : a < n1
    · have e1 : decide ((a : Int) < (n1 : Int)) = true := by simp; omega
      have a0 : (0 : Int) ≤ (a : Int) := by omega
      have a1 : (a : Int) < (n1 : Int) := by omega
      go_wp2
      go_loopw [6] (fun v6 wi => ∃ b : Nat, b ≤ n2 ∧ v6 = .int .i64 (b : Int) ∧ Below w.heap.size w wi) (fun v6 _ => n2 - (intOf v6).toNat)
      case atStart => exact ⟨0, Nat.zero_le _, rfl, HA.out⟩
      case round =>
        obtain ⟨b, hb, rfl, hbi⟩ := hrel
        have HI := Aside0.mk hbi
        have kx := (hbi.block x (blt HX.out)).trans HX.out
        rw [HN2.out] at kx
        have k1 : wr.cell? ⟨x, 1, none⟩ = some (.int .i64 (n2 : Int)) := bcell kx 1
        have hti := HT.out.below hbi
        clear hbi kx k0
        by_cases hlt2 : b < n2
        · have b1 : (b : Int) < (n2 : Int) := by omega
          have b0 : (0 : Int) ≤ (b : Int) := by omega
          have hh : hasB D.s a b = true := by
            rw [hasB_iff, HSIM.out.sh, HN1.out, HN2.out]
            omega
          obtain ⟨R, hR⟩ : ∃ R, R = readD D a b := ⟨_, rfl⟩
          have hR2 : readP s.2.2.toNat a b ps = R := by rw [hR, HSIM.out.read]
          have hRl : R.length < 1000000 := by
            have h1 := look_len (D := D) (by obtain ⟨_, _, ⟨_, _, _, _, hD⟩, _⟩ := HT.out; exact hD.lens) (a, b)
            rw [hR, readD, numB, full_length h1, HSIM.out.sh]
            have := HS.out.c1
            omega
          have hu := HSIM.out.used a b
          obtain ⟨F, hF⟩ : ∃ F, F = findI a b ps := ⟨_, rfl⟩
          have hFl : -1 ≤ F := by
            rw [hF, findI]
            rcases idxI_cases (atB a b) ps with h | ⟨_, _, h, _⟩ <;> rw [h] <;> omega
          have hrd := hti.read a b hh
          rw [← hR] at hrd
          have hrr := fun (W : World) (hW : Below wr.heap.size wr W) => (hti.below hW).rread HS.out HM.out a b
          rw [hR2] at hrr
          have hus := fun (W : World) (hW : Below wr.heap.size wr W) => (hti.below hW).used a b
          rw [hu] at hus
          have hfi := fun (W : World) (hW : Below wr.heap.size wr W) => (hti.below hW).rfind HM.out a b
          rw [← hF] at hus hfi
          have HRD := Lib.hid hrd
          have HRR := Lib.hid hrr
          have HUS := Lib.hid hus
          have HFI := Lib.hid hfi
          have HRL := Lib.hid hRl
          have HFL := Lib.hid hFl
          clear hti hh hR hR2 hRl hu hF hFl hrd hrr hus hfi
          go_wp2_with (first
            | (go_at_call 38; (with_reducible refine HRD.out.mono ?_); rintro e w3 ⟨B1, c1, rfl, hC, hb⟩; have HC1 := Aside0.mk hC; have HB3 := Aside0.mk hb; clear hC hb)
            | (go_at_call 49; (with_reducible refine (HRR.out _ HB3.out).mono ?_); rintro e w4 ⟨B2, c2, rfl, hC, hb⟩; have HC2 := Aside0.mk hC; have HC3 := Aside0.mk (Kd.C_below HC1.out hb); have HB4 := Aside0.mk (HB3.out.trans (hb.mono HB3.out.size)); clear hC hb)
            | (go_at_call 19; (with_reducible refine (Bytes_any HC3.out HC2.out HRL.out HRL.out).mono ?_); rw [decide_eq_true rfl]; rintro e w5 ⟨rfl, hb⟩; have HB5 := Aside0.mk (HB4.out.trans (hb.mono HB4.out.size)); clear hb)
            | (go_at_call 39; (with_reducible refine (HUS.out _ HB5.out).mono ?_); rintro e w6 ⟨rfl, rfl⟩)
            | (go_at_call 48; (with_reducible refine (HFI.out _ HB5.out).mono ?_); rintro e w7 ⟨rfl, hb⟩; have HB6 := Aside0.mk (HB5.out.trans (hb.mono HB5.out.size)); clear hb))
          exact ⟨⟨b + 1, by omega, by go_num, HI.out.trans (HB6.out.mono HI.out.size)⟩, by simp [intOf]; omega⟩
        · obtain rfl : b = n2 := by omega
          clear hti
          go_wp2
          exact ⟨⟨a + 1, by omega, by go_num, HI.out⟩, by simp [intOf]; omega⟩
    · obtain rfl : a = n1 := by omega
      go_wp2
      go_ret
      exact ⟨rfl, HA.out⟩
end
end Go.Proofs.Ytkmanjfmffdcbaa.Fl

/- Package crash: part: walked. No condition. -/
namespace Go.Proofs.Ytkmanjfmffdcbaa.Fl
open Go.RowKit Go.Proofs.YtkmanjfmffdcbaaW.PrintWords Go.Proofs.YtkmanjfmffdcbaaW.PrintMore Go.Maps
set_option linter.unusedSimpArgs false
set_option linter.unusedVariables false
set_option maxHeartbeats 1000000 in
set_option maxRecDepth 100000 in
theorem part1_any (z : Int) (w : World) : Calls Try.prog 92 #[.int .u8 z] w fun e w' => e = .returned (.bool (z != 255)) ∧ Below w.heap.size w w' := by
  go_enter Try.func92, Try.ntmps92
  go_wp2
  go_ret
  exact ⟨rfl, Below.refl _ _⟩
section
variable {w : World} {xs : List Int}
set_option maxHeartbeats 1000000 in
set_option maxRecDepth 100000 in
theorem IndexFuncB_any {A : Option Addr} {c : Nat} (h : kB.C w A xs.length xs) (hl : xs.length < 1000000) {f : FuncId} (hf : CloFn f) (q : Int → Bool)
    (hq : ∀ W a, Calls Try.prog f #[.int .u8 a] W fun e W' => e = .returned (.bool (q a)) ∧ Below W.heap.size W W') :
    Calls Try.prog 98 #[.slice A xs.length c, .func (.func f) #[] #[]] w fun e w' => e = .returned (.int .i64 (idxI q xs)) ∧ Below w.heap.size w w' := by
  obtain ⟨n, hn⟩ : ∃ n, n = xs.length := ⟨_, rfl⟩
  have HC := Aside0.mk h
  have HN := Lib.hid hn
  have HQ := Lib.hid hq
  have hM : n < 1000000 := by omega
  rw [← hn]
  clear h hn hl hq
  go_enter Try.func98, Try.ntmps98
  go_wp2
  go_loopw [8] (fun v8 wr => ∃ k : Nat, k ≤ n ∧ v8 = .int .i64 (k : Int) ∧ Below w.heap.size w wr ∧ ∀ j b, j < k → xs[j]? = some b → q b = false) (fun v8 _ => n - (intOf v8).toNat)
  case atStart => exact ⟨0, Nat.zero_le _, rfl, Below.refl _ _, fun j b hj => by omega⟩
  case round =>
    obtain ⟨k, hk, rfl, hb, hpre⟩ := hrel
    have HB := Aside0.mk hb
    have HPRE := Lib.hid hpre
    clear hb hpre
    by_cases hlt : k < n
    · obtain ⟨a, ha⟩ : ∃ a, xs[k]? = some a := ⟨_, List.getElem?_eq_getElem (by have := HN.out; omega)⟩
      obtain ⟨ad, hA, hca⟩ := C_cells HC.out (by have := HN.out; omega)
      have ka0 := hca k (.int .u8 a) (by simp [ha])
      have ka : wr.cell? (ad.add k) = some (.int .u8 a) := (HB.out.cell (blt_of_cell ka0)).trans ka0
      have HA := Lib.hid ha
      have k0 : (0 : Int) ≤ (k : Int) := by omega
      have k1 : (k : Int) < (n : Int) := by omega
      subst hA
      clear ha ka0 hca
      go_wp2_with ((with_reducible refine gate_dst (N := 16) rfl ?_); (refine closL (some 16) rfl rfl 11 hf #[.int .u8 a] rfl rfl (by simp only [List.map_toArray, List.map_cons, List.map_nil]; rfl) ?_; refine (HQ.out _ a).mono ?_; rintro e w1 ⟨rfl, hb1⟩; refine ⟨_, rfl, ?_⟩; have HB1 := Aside0.mk (HB.out.trans (hb1.mono HB.out.size)); clear hb1))
      · have hqa : q a = true := by assumption
        go_ret
        have hi : idxI q xs = (k : Int) := by rw [idxI, idxOf_some HA.out hqa HPRE.out]
        exact ⟨by rw [hi]; rfl, HB1.out⟩
      · have hqa : q a = false := by assumption
        refine ⟨⟨k + 1, by omega, by go_num, HB1.out, fun j b hj hb => ?_⟩, by simp [intOf]; omega⟩
        rcases Nat.lt_or_ge j k with h2 | h2
        · exact HPRE.out j b h2 hb
        · obtain rfl : j = k := by omega
          rw [HA.out] at hb
          rw [← Option.some.inj hb]
          exact hqa
    · obtain rfl : k = n := by omega
      go_wp2
      go_ret
      have hi : idxI q xs = -1 := by
        rw [idxI, idxOf_none (fun a ha => ?_)]
        obtain ⟨j, hj, e⟩ := List.getElem_of_mem ha
        exact HPRE.out j a (by have := HN.out; omega) (by rw [← e, List.getElem?_eq_getElem hj])
      exact ⟨by rw [hi]; rfl, HB.out⟩
theorem part1_clo : CloFn 92 := ⟨_, Try.func92, by kernel_rfl, rfl⟩
theorem idxI_eq {α : Type} (q : α → Bool) (l : List α) : (idxOf q l = none ∧ idxI q l = -1) ∨ ∃ i : Nat, idxOf q l = some i ∧ idxI q l = (i : Int) := by
  cases h : idxOf q l with
  | none => exact .inl ⟨rfl, by rw [idxI, h]⟩
  | some i => exact .inr ⟨i, rfl, by rw [idxI, h]⟩
theorem idxI_ge {α : Type} (q : α → Bool) (l : List α) : decide (0 ≤ idxI q l) = l.any q := by
  induction l with
  | nil => rfl
  | cons a l ih =>
    rw [List.any_cons, ← ih]
    have hx : idxOf q (a :: l) = if q a then some 0 else (idxOf q l).map (· + 1) := rfl
    cases h : q a with
    | true =>
      rw [h, if_pos rfl] at hx
      rw [idxI, hx]
      rfl
    | false =>
      rw [h, if_neg (by decide)] at hx
      rw [Bool.false_or]
      rcases idxI_eq q l with ⟨h1, h2⟩ | ⟨i, h1, h2⟩
      · rw [h2, idxI, hx, h1]; rfl
      · rw [h2, idxI, hx, h1]
        show decide ((0 : Int) ≤ ((i + 1 : Nat) : Int)) = decide ((0 : Int) ≤ (i : Int))
        rw [decide_eq_true (by omega), decide_eq_true (by omega)]
set_option maxHeartbeats 1000000 in
set_option maxRecDepth 100000 in
theorem ContainsB_any {A : Option Addr} {c : Nat} (h : kB.C w A xs.length xs) (hl : xs.length < 1000000) {f : FuncId} (hf : CloFn f) (q : Int → Bool)
    (hq : ∀ W a, Calls Try.prog f #[.int .u8 a] W fun e W' => e = .returned (.bool (q a)) ∧ Below W.heap.size W W') :
    Calls Try.prog 91 #[.slice A xs.length c, .func (.func f) #[] #[]] w fun e w' => e = .returned (.bool (xs.any q)) ∧ Below w.heap.size w w' := by
  have hc := IndexFuncB_any (c := c) h hl hf q hq
  have hge := idxI_ge q xs
  have HC := Lib.hid hc
  have HGE := Lib.hid hge
  clear hc hge h hl hf hq
  go_enter Try.func91, Try.ntmps91
  go_wp2_with (go_at_call 98; (with_reducible refine HC.out.mono ?_); rintro e w1 ⟨rfl, hb⟩; have HB := Aside0.mk hb; clear hb)
  go_ret
  exact ⟨by rw [← HGE.out]; rfl, HB.out⟩
end
end Go.Proofs.Ytkmanjfmffdcbaa.Fl

/- Package crash: part: walked. No condition. -/
namespace Go.Proofs.Ytkmanjfmffdcbaa.Fl
open Go.RowKit Go.Proofs.YtkmanjfmffdcbaaW.PrintWords Go.Proofs.YtkmanjfmffdcbaaW.PrintMore Go.Maps
set_option linter.unusedSimpArgs false
set_option linter.unusedVariables false
theorem undrewN {W w1 : World} {n : Nat} (h : Below (W.drewN n).heap.size (W.drewN n) w1) : Below W.heap.size W w1 := (pw_below_drewN (Below.refl W.heap.size W) n).trans h
def preN : List Int → List Int → Nat
  | x :: a, y :: b => if x = y then preN a b + 1 else 0
  | _, _ => 0
def partB (a b : List Int) : Bool := !((a.drop (preN a b)).any (fun z => z != 255))
theorem preN_of : ∀ (k : Nat) (a b : List Int), a.take k = b.take k → k ≤ a.length → k ≤ b.length → (k = a.length ∨ k = b.length ∨ a[k]? ≠ b[k]?) → preN a b = k
  | 0, [], b, _, _, _, _ => by cases b <;> rfl
  | 0, x :: a, [], _, _, _, _ => rfl
  | 0, x :: a, y :: b, _, _, _, h => by
    simp at h
    simp [preN, h]
  | k + 1, [], b, _, h, _, _ => by simp at h
  | k + 1, x :: a, [], _, _, h, _ => by simp at h
  | k + 1, x :: a, y :: b, h, h1, h2, h3 => by
    simp only [List.take_succ_cons, List.cons.injEq] at h
    rw [preN, if_pos h.1, preN_of k a b h.2 (by simpa using h1) (by simpa using h2) (by simpa using h3)]
set_option maxHeartbeats 1000000 in
set_option maxRecDepth 100000 in
theorem part_any {w : World} {A B : Option Addr} {c d : Nat} {a b : List Int} (ha : kB.C w A a.length a) (hb : kB.C w B b.length b) (hc : a.length ≤ c) (hp0 : 0 < a.length) (h0 : a.length < 1000000) (h1 : b.length < 1000000) :
    Calls Try.prog 78 #[.slice A a.length c, .slice B b.length d] w fun e w' => e = .returned (.bool (partB a b)) ∧ Below w.heap.size w w' := by
  obtain ⟨n, hn⟩ : ∃ n, n = a.length := ⟨_, rfl⟩
  obtain ⟨m, hm⟩ : ∃ m, m = b.length := ⟨_, rfl⟩
  have HA := Aside0.mk ha
  have HB := Aside0.mk hb
  have HP0 := Lib.hid hp0
  have HN := Lib.hid hn
  have HM := Lib.hid hm
  clear hp0
  rw [← hn] at h0 hc
  rw [← hm] at h1
  rw [← hn, ← hm]
  clear ha hb hn hm
  go_enter Try.func78, Try.ntmps78
  go_wp2
  go_loopw [5] (fun v5 wr => ∃ k : Nat, k ≤ n ∧ k ≤ m ∧ v5 = .int .i64 (k : Int) ∧ Below w.heap.size w wr ∧ a.take k = b.take k) (fun v5 _ => n - (intOf v5).toNat)
  case atStart => exact ⟨0, Nat.zero_le _, Nat.zero_le _, rfl, Below.refl _ _, rfl⟩
  case round =>
    obtain ⟨k, hk, hk2, rfl, hbl, ht⟩ := hrel
    have HBL := Aside0.mk hbl
    have HT := Lib.hid ht
    clear hbl ht
    have k0 : (0 : Int) ≤ (k : Int) := by omega
    by_cases hlt : k < n ∧ k < m
    · obtain ⟨x, hx⟩ : ∃ x, a[k]? = some x := ⟨_, List.getElem?_eq_getElem (by have := HN.out; omega)⟩
      obtain ⟨y, hy⟩ : ∃ y, b[k]? = some y := ⟨_, List.getElem?_eq_getElem (by have := HM.out; omega)⟩
      obtain ⟨ad, hA, hca⟩ := C_cells HA.out (by have := HN.out; omega)
      obtain ⟨bd, hB, hcb⟩ := C_cells HB.out (by have := HM.out; omega)
      have ka0 := hca k (.int .u8 x) (by simp [hx])
      have ka : wr.cell? (ad.add k) = some (.int .u8 x) := (HBL.out.cell (blt_of_cell ka0)).trans ka0
      have kb0 := hcb k (.int .u8 y) (by simp [hy])
      have kb : wr.cell? (bd.add k) = some (.int .u8 y) := (HBL.out.cell (blt_of_cell kb0)).trans kb0
      have HX := Lib.hid hx
      have HY := Lib.hid hy
      have k1 : (k : Int) < (n : Int) := by omega
      have k2 : (k : Int) < (m : Int) := by omega
      subst hA hB
      clear hx hy hca hcb ka0 kb0
      by_cases hxy : x = y
      · have e1 : (x == y) = true := by simp [hxy]
        go_wp2_with fail
        go_region_held3 (fun w' => w'.cell? (ad.add k) = some (.int .u8 x) ∧ w'.cell? (bd.add k) = some (.int .u8 y)) (go_keep) (fail)
        go_wp2
        exact ⟨⟨k + 1, by omega, by omega, by go_num, HBL.out.drew, take_eq_succ HX.out HY.out HT.out hxy⟩, by simp [intOf]; omega⟩
      · have e1 : (x == y) = false := by simp [hxy]
        have hp : preN a b = k := preN_of k a b HT.out (by have := HN.out; omega) (by have := HM.out; omega) (.inr (.inr (by rw [HX.out, HY.out]; exact fun e => hxy (Option.some.inj e))))
        have HP := Lib.hid hp
        clear hp hxy
        go_wp2_with fail
        go_region_held3 (fun w' => w'.cell? (ad.add k) = some (.int .u8 x) ∧ w'.cell? (bd.add k) = some (.int .u8 y)) (go_keep) (fail)
        have hcd := Kd.C_drop (m := k) (c := c) (Kd.C_drew (Kd.C_below HA.out HBL.out)) (by have := HN.out; omega) (by have := HN.out; omega)
        rw [if_neg (by omega)] at hcd
        have hcon := ContainsB_any (c := c - k) hcd (by rw [List.length_drop]; have := HN.out; omega) part1_clo _ (fun W z => part1_any z W)
        rw [List.length_drop, ← HN.out] at hcon
        have hcon2 : Calls Try.prog 91 #[.slice (some (ad.add k)) (n - k) (c - k), .func (.func 92) #[] #[]] wr.drew fun e w' => e = .returned (.bool ((a.drop k).any (fun z => z != 255))) ∧ Below wr.drew.heap.size wr.drew w' := by
          have e : k * kB.sz = k := Nat.mul_one k
          rw [e] at hcon
          exact hcon
        have HCON := Lib.hid hcon2
        clear hcd hcon hcon2
        go_wp2_with (go_at_call 91; (refine HCON.out.mono ?_); rintro e w1 ⟨rfl, hb⟩; have HB1 := Aside0.mk (HBL.out.trans ((undrew hb).mono HBL.out.size)); clear hb)
        go_ret
        exact ⟨by rw [partB, HP.out]; rfl, HB1.out⟩
    · have HON : Hid (k = n ∨ k = m) := Lib.hid (by omega)
      obtain ⟨ad, hA, hca⟩ := C_cells HA.out (by have := HN.out; have := HP0.out; omega)
      subst hA
      clear hca
      by_cases hkn : k = n
      · subst hkn
        have hp : preN a b = k := preN_of k a b HT.out (by have := HN.out; omega) (by have := HM.out; omega) (.inl HN.out)
        have hpb : partB a b = true := by rw [partB, hp, HN.out, List.drop_length]; rfl
        have HPB := Lib.hid hpb
        have hcon := fun (X : Option Addr) (e : Nat) (V : World) => ContainsB_any (w := V) (xs := []) (A := X) (c := e) (Kd.C_of_reads (d := 0) ⟨rfl, by simp, fun h => by simp at h⟩) (by simp) part1_clo _ (fun W z => part1_any z W)
        have HCON := Lib.hid hcon
        have f1 : decide ((k : Int) < (k : Int)) = false := by simp
        clear hp hpb hcon hlt
        by_cases hck : c = k
        · subst hck
          go_wp2_with fail
          go_quiet (fail)
          go_wp2_with (go_at_call 91; (refine (HCON.out _ _ _).mono ?_); rintro e w1 ⟨rfl, hb⟩; have HB1 := Aside0.mk (HBL.out.trans ((undrewN hb).mono HBL.out.size)); clear hb)
          go_ret
          exact ⟨by rw [HPB.out]; rfl, HB1.out⟩
        · go_wp2_with fail
          go_quiet (fail)
          go_wp2_with (go_at_call 91; (refine (HCON.out _ _ _).mono ?_); rintro e w1 ⟨rfl, hb⟩; have HB1 := Aside0.mk (HBL.out.trans ((undrewN hb).mono HBL.out.size)); clear hb)
          go_ret
          exact ⟨by rw [HPB.out]; rfl, HB1.out⟩
      · have k1 : (k : Int) < (n : Int) := by omega
        have hkm : k = m := HON.out.resolve_left hkn
        subst hkm
        have hp : preN a b = k := preN_of k a b HT.out (by have := HN.out; omega) (by have := HM.out; omega) (.inr (.inl HM.out))
        have hcon2 : ∀ q, Calls Try.prog 91 #[.slice (some (ad.add k)) (n - k) (c - k), .func (.func 92) #[] #[]] (wr.drewN q) fun e w' => e = .returned (.bool ((a.drop k).any (fun z => z != 255))) ∧ Below (wr.drewN q).heap.size (wr.drewN q) w' := by
          intro q
          have hcd := Kd.C_drop (m := k) (c := c) (Kd.C_drewN (Kd.C_below HA.out HBL.out) q) (by have := HN.out; omega) (by have := HN.out; omega)
          rw [if_neg (by omega)] at hcd
          have hcon := ContainsB_any (c := c - k) hcd (by rw [List.length_drop]; have := HN.out; omega) part1_clo _ (fun W z => part1_any z W)
          rw [List.length_drop, ← HN.out] at hcon
          have e : k * kB.sz = k := Nat.mul_one k
          rw [e] at hcon
          exact hcon
        have HP := Lib.hid hp
        have HCON := Lib.hid hcon2
        have f1 : decide ((k : Int) < (k : Int)) = false := by simp
        have f2 : decide ((k : Int) < (n : Int)) = true := by simp; omega
        clear hp hkn hlt hcon2
        go_wp2_with fail
        go_quiet (fail)
        go_wp2_with (go_at_call 91; (refine (HCON.out _).mono ?_); rintro e w1 ⟨rfl, hb⟩; have HB1 := Aside0.mk (HBL.out.trans ((undrewN hb).mono HBL.out.size)); clear hb)
        go_ret
        exact ⟨by rw [partB, HP.out]; rfl, HB1.out⟩
end Go.Proofs.Ytkmanjfmffdcbaa.Fl

/- Package crash: rows of addresses compared and searched, bytes compared: walked. No condition. -/
namespace Go.Proofs.Ytkmanjfmffdcbaa.Fl
open Go.RowKit Go.Proofs.YtkmanjfmffdcbaaW.PrintWords Go.Proofs.YtkmanjfmffdcbaaW.PrintMore Go.Maps
set_option linter.unusedSimpArgs false
set_option linter.unusedVariables false
section
variable {N0 N1 : Nat} {ok ok' : Nat → Prop} {w : World} {v u : Value} {xs ys : List Adr}
theorem takeA_succ {l m : List Adr} {k : Nat} {a b : Adr} (ha : l[k]? = some a) (hb : m[k]? = some b) (h : l.take k = m.take k) (hab : a = b) : l.take (k + 1) = m.take (k + 1) := by
  rw [List.take_add_one, List.take_add_one, ha, hb, h, hab]
set_option maxHeartbeats 2000000 in
set_option maxRecDepth 100000 in
theorem EqualA_any (h : kAddr.R TA w N0 ok v xs) (h' : kAddr.R TA w N1 ok' u ys) (hl : xs.length < 1000000) (hl' : ys.length < 1000000) :
    Calls Try.prog 80 #[v, u] w fun e w' => e = .returned (.bool (decide (xs = ys))) ∧ Below w.heap.size w w' := by
  obtain ⟨A, c, rfl⟩ := Kd.R_slice h
  obtain ⟨B, d, rfl⟩ := Kd.R_slice h'
  obtain ⟨n, hn⟩ : ∃ n, n = xs.length := ⟨_, rfl⟩
  obtain ⟨m, hm⟩ : ∃ m, m = ys.length := ⟨_, rfl⟩
  have HR := Aside0.mk h
  have HR' := Aside0.mk h'
  have HN := Lib.hid hn
  have HM := Lib.hid hm
  rw [← hn] at hl
  rw [← hm] at hl'
  rw [← hn, ← hm]
  clear h h' hn hm
  by_cases hne : n = m
  · subst hne
    go_enter Try.func80, Try.ntmps80
    go_wp2
    go_loopw [5, 13] (fun v5 v13 wr => ∃ k : Nat, k ≤ n ∧ v13 = .int .i64 (k : Int) ∧ Below w.heap.size w wr ∧ xs.take k = ys.take k) (fun _ v13 _ => n - (intOf v13).toNat)
    case atStart => exact ⟨0, Nat.zero_le _, rfl, Below.refl _ _, rfl⟩
    case round =>
      obtain ⟨k, hk, rfl, hb, ht⟩ := hrel
      have HB := Aside0.mk hb
      have HT := Lib.hid ht
      clear hb ht
      by_cases hlt : k < n
      · obtain ⟨a, ha⟩ : ∃ a, xs[k]? = some a := ⟨_, List.getElem?_eq_getElem (by have := HN.out; omega)⟩
        obtain ⟨b, hb⟩ : ∃ b, ys[k]? = some b := ⟨_, List.getElem?_eq_getElem (by have := HM.out; omega)⟩
        have hv1 : Value.slice A xs.length c ≠ .slice none 0 0 := by
          intro e
          injection e with _ e2 _
          have := HN.out
          omega
        have hv2 : Value.slice B ys.length d ≠ .slice none 0 0 := by
          intro e
          injection e with _ e2 _
          have := HM.out
          omega
        obtain ⟨g, cap, e1, _, _, hr1⟩ := ARow.of_R HR.out hv1
        obtain ⟨g', cap', e2, _, _, hr2⟩ := ARow.of_R HR'.out hv2
        injection e1 with e1 _ e3
        injection e2 with e2 _ e4
        subst e1 e2 e3 e4
        have hc1 := (hr1.step (HB.out.block g hr1.lt)).cell ha
        have hc2 := (hr2.step (HB.out.block g' hr2.lt)).cell hb
        have c1 := hc1.1
        have c2 := hc1.2.1
        have d1 := hc2.1
        have d2 := hc2.2.1
        have HA := Lib.hid ha
        have HBB := Lib.hid hb
        have k0 : (0 : Int) ≤ (k : Int) := by omega
        have k2 : (k : Int) < (n : Int) := by omega
        clear ha hb hv1 hv2 hr1 hr2 hc1 hc2
        obtain ⟨a0, a1⟩ := a
        obtain ⟨b0, b1⟩ := b
        simp only at c1 c2 d1 d2
        by_cases hab : a0 = b0 ∧ a1 = b1
        · obtain ⟨rfl, rfl⟩ := hab
          go_wp2_with fail
          go_region_held3 (fun w' => w'.cell? ⟨g, k * 2, none⟩ = some (.int .i64 a0) ∧ w'.cell? ⟨g, k * 2 + 1, none⟩ = some (.int .i64 a1) ∧ w'.cell? ⟨g', k * 2, none⟩ = some (.int .i64 a0) ∧ w'.cell? ⟨g', k * 2 + 1, none⟩ = some (.int .i64 a1)) (go_keep) (fail)
          go_wp2
          exact ⟨⟨k + 1, by omega, by go_num, HB.out.drew, takeA_succ HA.out HBB.out HT.out rfl⟩, by simp [intOf]; omega⟩
        · have hf : xs ≠ ys := by
            intro e
            have h1 := HA.out
            rw [e, HBB.out] at h1
            have h2 := Option.some.inj h1
            injection h2 with h3 h4
            exact hab ⟨h3.symm, h4.symm⟩
          have HF := Lib.hid hf
          clear hf
          by_cases h0 : a0 = b0
          · have f0 : (a0 == b0) = true := by simp [h0]
            have f1 : (a1 == b1) = false := by simpa using fun e => hab ⟨h0, e⟩
            have f2 : (a0 != b0) = false := by simp [h0]
            have f3 : (a1 != b1) = true := by simpa using fun e => hab ⟨h0, e⟩
            clear hab h0
            go_wp2_with fail
            go_region_held3 (fun w' => w'.cell? ⟨g, k * 2, none⟩ = some (.int .i64 a0) ∧ w'.cell? ⟨g, k * 2 + 1, none⟩ = some (.int .i64 a1) ∧ w'.cell? ⟨g', k * 2, none⟩ = some (.int .i64 b0) ∧ w'.cell? ⟨g', k * 2 + 1, none⟩ = some (.int .i64 b1)) (go_keep) (fail)
            go_wp2
            go_ret
            exact ⟨by rw [decide_eq_false HF.out]; rfl, HB.out.drew⟩
          · have f0 : (a0 == b0) = false := by simpa using h0
            have f2 : (a0 != b0) = true := by simpa using h0
            clear hab h0
            go_wp2_with fail
            go_region_held3 (fun w' => w'.cell? ⟨g, k * 2, none⟩ = some (.int .i64 a0) ∧ w'.cell? ⟨g, k * 2 + 1, none⟩ = some (.int .i64 a1) ∧ w'.cell? ⟨g', k * 2, none⟩ = some (.int .i64 b0) ∧ w'.cell? ⟨g', k * 2 + 1, none⟩ = some (.int .i64 b1)) (go_keep) (fail)
            go_wp2
            go_ret
            exact ⟨by rw [decide_eq_false HF.out]; rfl, HB.out.drew⟩
      · obtain rfl : k = n := by omega
        go_wp2
        go_ret
        refine ⟨?_, HB.out⟩
        have h := HT.out
        rw [List.take_of_length_le (by have := HN.out; omega), List.take_of_length_le (by have := HM.out; omega)] at h
        rw [decide_eq_true h]
        rfl
  · have e1 : ((n : Int) != (m : Int)) = true := by simp; omega
    have hxy : ¬ xs = ys := fun e => hne (by rw [HN.out, HM.out, e])
    have HXY := Lib.hid hxy
    clear hxy hne
    go_enter Try.func80, Try.ntmps80
    go_wp2
    go_ret
    exact ⟨by rw [decide_eq_false HXY.out]; rfl, Below.refl _ _⟩
set_option maxHeartbeats 1000000 in
set_option maxRecDepth 100000 in
theorem ContainsA_any (h : kAddr.R TA w N0 ok v xs) (hl : xs.length < 1000000) {f : FuncId} {caps : Array Value} (hf : CloFn f) (I : World → Prop) (hI : ∀ W W', I W → Below W.heap.size W W' → I W') (q : Adr → Bool)
    (hq : ∀ W a, I W → a ∈ xs → Calls Try.prog f (#[.agg #[.int .i64 a.1, .int .i64 a.2]] ++ caps) W fun e W' => e = .returned (.bool (q a)) ∧ Below W.heap.size W W') (h0 : I w) :
    Calls Try.prog 76 #[v, .func (.func f) #[] caps] w fun e w' => e = .returned (.bool (xs.any q)) ∧ Below w.heap.size w w' := by
  have hc := IndexFunc_any h hl hf I hI q hq h0
  have hge := idxI_ge q xs
  have HC := Lib.hid hc
  have HGE := Lib.hid hge
  clear hc hge h hl hf hI hq h0
  go_enter Try.func76, Try.ntmps76
  go_wp2_with (go_at_call 89; (with_reducible refine HC.out.mono ?_); rintro e w1 ⟨rfl, hb⟩; have HB := Aside0.mk hb; clear hb)
  go_ret
  exact ⟨by rw [← HGE.out]; rfl, HB.out⟩
end
theorem str_inj {x y : List Int} (hx : Byt x) (hy : Byt y) (h : (strOfNums x).toList = (strOfNums y).toList) : x = y := by
  rw [Go.Lib.strOfNums_toList, Go.Lib.strOfNums_toList, Go.Lib.bytesOf, Go.Lib.bytesOf] at h
  induction x generalizing y with
  | nil => cases y with
    | nil => rfl
    | cons _ _ => simp at h
  | cons a x ih => cases y with
    | nil => simp at h
    | cons b y =>
      simp only [List.map_cons, List.cons.injEq] at h
      have ha := hx a (by simp)
      have hb := hy b (by simp)
      have hab := congrArg UInt8.toNat h.1
      simp only [UInt8.toNat_ofNat'] at hab
      have : a = b := by omega
      rw [this, ih (fun z hz => hx z (by simp [hz])) (fun z hz => hy z (by simp [hz])) h.2]
set_option maxHeartbeats 1000000 in
set_option maxRecDepth 100000 in
theorem BytesEqual_any {w : World} {A B : Option Addr} {c d : Nat} {l m : List Int} (hl : kB.C w A l.length l) (hm : kB.C w B m.length m) (bl : Byt l) (bm : Byt m) :
    Calls Try.prog 63 #[.slice A l.length c, .slice B m.length d] w fun e w' => e = .returned (.bool (decide (l = m))) ∧ Below w.heap.size w w' := by
  have hq : ((strOfNums l).toList == (strOfNums m).toList) = decide (l = m) := by
    by_cases h : l = m
    · rw [h]; simp
    · rw [decide_eq_false h, beq_eq_false_iff_ne]
      exact fun e => h (str_inj bl bm e)
  have HQ := Lib.hid hq
  have hcv3 := Kd.C_string (P := Try.prog) (A := A) (c := c) Try.underlying22 Try.underlying5 Try.underlying9 hl
  have hcv4 := Kd.C_string (P := Try.prog) (A := B) (c := d) Try.underlying22 Try.underlying5 Try.underlying9 hm
  clear hq hl hm bl bm
  go_enter Try.func63, Try.ntmps63
  go_wp2
  go_ret
  exact ⟨by rw [← HQ.out]; rfl, Below.refl _ _⟩
end Go.Proofs.Ytkmanjfmffdcbaa.Fl

/- Package crash: Within and Same: walked. No condition. -/
namespace Go.Proofs.Ytkmanjfmffdcbaa.Fl
open Go.RowKit Go.Proofs.YtkmanjfmffdcbaaW.PrintWords Go.Proofs.YtkmanjfmffdcbaaW.PrintMore Go.Maps
set_option linter.unusedSimpArgs false
set_option linter.unusedVariables false
def inB (A B : PD) (at_ : Adr) : Bool := usedB B at_.1 at_.2 && partB (readD A at_.1 at_.2) (readD B at_.1 at_.2)
def withinD (A B : PD) : Bool := !((pagesL A).any (fun at_ => !inB A B at_))
def eqB (A B : PD) (at_ : Adr) : Bool := decide (readD A at_.1 at_.2 = readD B at_.1 at_.2)
def sameD (A B : PD) : Bool := decide (pagesL A = pagesL B) && !((pagesL A).any (fun at_ => !eqB A B at_))
theorem mem_rowTo {D : PD} {a : Nat} {at_ : Adr} : ∀ {j}, at_ ∈ rowTo D a j → usedB D at_.1 at_.2 = true
  | 0, h => by simp [rowTo] at h
  | j + 1, h => by
    rw [rowTo] at h
    rcases List.mem_append.1 h with h | h
    · exact mem_rowTo h
    · split at h
      · rw [List.mem_singleton.1 h]
        assumption
      · cases h
theorem mem_pagesTo {D : PD} {m : Nat} {at_ : Adr} : ∀ {k}, at_ ∈ pagesTo D m k → usedB D at_.1 at_.2 = true
  | 0, h => by simp [pagesTo] at h
  | k + 1, h => by
    rw [pagesTo] at h
    rcases List.mem_append.1 h with h | h
    · exact mem_pagesTo h
    · exact mem_rowTo h
theorem used_has {D : PD} {a b : Int} (h : usedB D a b = true) : hasB D.s a b = true := by
  unfold usedB at h
  rw [Bool.and_eq_true] at h
  exact h.1
theorem pagesL_len {D : PD} (hs : ShapeOk D.s) : (pagesL D).length < 1000000 := by
  have h := pagesTo_len D D.s.2.1.toNat D.s.1.toNat
  have h1 := hs.a1
  have h2 := hs.b1
  have h3 : D.s.1.toNat * D.s.2.1.toNat ≤ 16 * 64 := Nat.mul_le_mul (by omega) (by omega)
  exact Nat.lt_of_le_of_lt h (by omega)
theorem DevIs.lensD {N0 p : Nat} {D : PD} {ok : Nat → Prop} {w : World} (h : DevIs N0 p D ok w) (a b : Int) : (readD D a b).length = D.s.2.2.toNat := by
  obtain ⟨m, v, es, ck, h⟩ := h
  exact full_length (look_len h.lens (a, b))
section
variable {N0 N1 pa pb : Nat} {A B : PD} {okA okB : Nat → Prop} {w : World}
theorem box_two {W V : World} {qa qb pa pb : Nat} {t : TypeId} (ka : W.heap[qa]? = some (.cells #[.pointer (some ⟨pa, 0, none⟩)] t (0, 0))) (kb : W.heap[qb]? = some (.cells #[.pointer (some ⟨pb, 0, none⟩)] t (0, 0))) (a b : Int) (hV : V = W.alloc (.cells #[.int .i64 a, .int .i64 b] TA)) :
    Below W.heap.size W V ∧ ∀ X : World, Below V.heap.size V X → X.cell? ⟨qb, 0, none⟩ = some (.pointer (some ⟨pb, 0, none⟩)) ∧ X.cell? ⟨qa, 0, none⟩ = some (.pointer (some ⟨pa, 0, none⟩)) ∧ X.cell? ⟨W.heap.size, 0, none⟩ = some (.int .i64 a) ∧ X.cell? ⟨W.heap.size, 1, none⟩ = some (.int .i64 b) := by
  have vb : Below W.heap.size W V := by rw [hV]; exact below_alloc (Below.refl _ _) _
  have v0 : V.heap[W.heap.size]? = some (.cells #[.int .i64 a, .int .i64 b] TA (0, 0)) := by rw [hV]; exact blk_new W _
  refine ⟨vb, fun X hX => ?_⟩
  have h0 := (hX.block _ (blt v0)).trans v0
  have e1 := (vb.block qb (blt kb)).trans kb
  have h1 := (hX.block qb (blt e1)).trans e1
  have e2 := (vb.block qa (blt ka)).trans ka
  have h2 := (hX.block qa (blt e2)).trans e2
  exact ⟨bcell h1 0, bcell h2 0, bcell h0 0, bcell h0 1⟩
set_option maxHeartbeats 2000000 in
set_option maxRecDepth 100000 in
theorem Within1_any {qa qb : Nat} (hA : DevIs N0 pa A okA w) (hB : DevIs N1 pb B okB w) (ka : w.heap[qa]? = some (.cells #[.pointer (some ⟨pa, 0, none⟩)] 50 (0, 0))) (kb : w.heap[qb]? = some (.cells #[.pointer (some ⟨pb, 0, none⟩)] 50 (0, 0))) (a b : Int) (hua : usedB A a b = true) :
    Calls Try.prog 77 #[.agg #[.int .i64 a, .int .i64 b], .pointer (some ⟨qb, 0, none⟩), .pointer (some ⟨qa, 0, none⟩)] w fun e w' => e = .returned (.bool (!inB A B (a, b))) ∧ Below w.heap.size w w' := by
  obtain ⟨V, hV⟩ : ∃ V, V = w.alloc (.cells #[.int .i64 a, .int .i64 b] TA) := ⟨_, rfl⟩
  obtain ⟨vb, hbox⟩ := box_two ka kb a b hV
  have hz := hbox V.drew ((Below.refl _ V).drew)
  obtain ⟨y1, y2, y3, y4⟩ := hz
  have VB := Aside0.mk vb
  have HBOX := Lib.hid hbox
  have HV := Lib.hid hV
  have vd : Below w.heap.size w V.drew := vb.drew
  cases hu : usedB B a b with
  | false =>
    have hus : ∀ q, Calls Try.prog 39 #[.pointer (some ⟨pb, 0, none⟩), .int .i64 a, .int .i64 b] (V.drewN q) fun e w' => e = .returned (.bool false) ∧ w' = V.drewN q := fun q => by
      refine (Used_any (hB.below (vb.trans (pw_below_drewN (Below.refl _ V) q))) a b).mono fun e w' ⟨h1, h2⟩ => ⟨by rw [h1, hu], h2.symm⟩
    have hr : inB A B (a, b) = false := by rw [inB, hu]; rfl
    obtain ⟨x1, x2, x3, x4⟩ := hbox V (Below.refl _ V)
    have HUS := Lib.hid hus
    have HR := Lib.hid hr
    clear hbox hV vb vd hus hr hu hA hB ka kb hua y1 y2 y3 y4
    go_enter Try.func77, Try.ntmps77
    go_wp2_with fail
    rw [← HV.out]
    go_quiet ((go_at_call 39; exact Calls.quiet_of_same (HUS.out _)))
    go_wp2
    go_ret
    exact ⟨by rw [HR.out]; rfl, pw_below_drewN VB.out _⟩
  | true =>
    have hus := Used_any (hB.below vd) a b
    rw [hu] at hus
    have hha := used_has hua
    have hhb := used_has hu
    have hpa := page_any (hA.below vd) a b
    rw [gotD, if_pos hha] at hpa
    have hpb := fun (X : World) (hX : Below V.heap.size V X) => page_any (hB.below (vb.trans (hX.mono vb.size))) a b
    rw [gotD, if_pos hhb] at hpb
    have lA := hA.lensD a b
    have lB := hB.lensD a b
    have sA := hA.shape
    have sB := hB.shape
    have g1 := sA.c0; have g2 := sA.c1; have g3 := sB.c0; have g4 := sB.c1
    obtain ⟨X, hX⟩ : ∃ X, X = readD A a b := ⟨_, rfl⟩
    obtain ⟨Y, hY⟩ : ∃ Y, Y = readD B a b := ⟨_, rfl⟩
    have hr : inB A B (a, b) = partB X Y := by rw [inB, hu, hX, hY]; rfl
    rw [← hX] at lA hpa
    rw [← hY] at lB hpb
    have HXL := Lib.hid (show 0 < X.length by omega)
    have HXM := Lib.hid (show X.length < 1000000 by omega)
    have HYM := Lib.hid (show Y.length < 1000000 by omega)
    have HUS := Lib.hid hus
    have HPA := Lib.hid hpa
    have HPB := Lib.hid hpb
    have HR := Lib.hid hr
    rw [hr]
    clear hbox hV vb vd hus hr hu hA hB ka kb hua hha hhb hpa hpb lA lB sA sB g1 g2 g3 g4 hX hY
    go_enter Try.func77, Try.ntmps77
    go_wp2_with fail
    rw [← HV.out]
    go_region_held3 (fun w' => w'.cell? ⟨qb, 0, none⟩ = some (.pointer (some ⟨pb, 0, none⟩)) ∧ w'.cell? ⟨qa, 0, none⟩ = some (.pointer (some ⟨pa, 0, none⟩)) ∧ w'.cell? ⟨w.heap.size, 0, none⟩ = some (.int .i64 a) ∧ w'.cell? ⟨w.heap.size, 1, none⟩ = some (.int .i64 b)) (first | go_keep | exact HBOX.out _ HB3.out | exact HBOX.out _ HB2.out | exact HBOX.out _ HB1.out)
      (first
        | (go_at_call 39; (with_reducible refine HUS.out.mono ?_); rintro e w3 ⟨rfl, rfl⟩)
        | (go_at_call 79; (with_reducible refine HPA.out.mono ?_); rintro e w1 ⟨A1, c1, rfl, hl1, hC1, hb⟩; have HL1 := Lib.hid hl1; have HC1 := Aside0.mk hC1; have HB1 := Aside0.mk (undrew hb); clear hl1 hC1 hb)
        | (go_at_call 79; (with_reducible refine (HPB.out _ HB1.out).mono ?_); rintro e w2 ⟨A2, c2, rfl, hl2, hC2, hb⟩; have HC2 := Aside0.mk hC2; have HC3 := Aside0.mk (Kd.C_below HC1.out hb); have HB2 := Aside0.mk (HB1.out.trans (hb.mono HB1.out.size)); clear hl2 hC2 hb)
        | (go_at_call 78; (with_reducible refine (part_any HC3.out HC2.out HL1.out HXL.out HXM.out HYM.out).mono ?_); rintro e w4 ⟨rfl, hb⟩; have HB3 := Aside0.mk (HB2.out.trans (hb.mono HB2.out.size)); clear hb))
    go_wp2
    go_ret
    exact ⟨rfl, VB.out.trans (HB3.out.mono VB.out.size)⟩
set_option maxHeartbeats 2000000 in
set_option maxRecDepth 100000 in
theorem Same1_any {qa qb : Nat} (hA : DevIs N0 pa A okA w) (hB : DevIs N1 pb B okB w) (ka : w.heap[qa]? = some (.cells #[.pointer (some ⟨pa, 0, none⟩)] 50 (0, 0))) (kb : w.heap[qb]? = some (.cells #[.pointer (some ⟨pb, 0, none⟩)] 50 (0, 0))) (a b : Int) (hha : hasB A.s a b = true) (hhb : hasB B.s a b = true) (bA : Byt (readD A a b)) (bB : Byt (readD B a b)) :
    Calls Try.prog 81 #[.agg #[.int .i64 a, .int .i64 b], .pointer (some ⟨qa, 0, none⟩), .pointer (some ⟨qb, 0, none⟩)] w fun e w' => e = .returned (.bool (!eqB A B (a, b))) ∧ Below w.heap.size w w' := by
  obtain ⟨V, hV⟩ : ∃ V, V = w.alloc (.cells #[.int .i64 a, .int .i64 b] TA) := ⟨_, rfl⟩
  obtain ⟨vb, hbox⟩ := box_two ka kb a b hV
  have hz := hbox V.drew ((Below.refl _ V).drew)
  obtain ⟨y1, y2, y3, y4⟩ := hz
  have VB := Aside0.mk vb
  have HBOX := Lib.hid hbox
  have HV := Lib.hid hV
  have vd : Below w.heap.size w V.drew := vb.drew
  have hpa := page_any (hA.below vd) a b
  rw [gotD, if_pos hha] at hpa
  have hpb := fun (X : World) (hX : Below V.heap.size V X) => page_any (hB.below (vb.trans (hX.mono vb.size))) a b
  rw [gotD, if_pos hhb] at hpb
  obtain ⟨X, hX⟩ : ∃ X, X = readD A a b := ⟨_, rfl⟩
  obtain ⟨Y, hY⟩ : ∃ Y, Y = readD B a b := ⟨_, rfl⟩
  have hr : eqB A B (a, b) = decide (X = Y) := by rw [eqB, hX, hY]
  rw [← hX] at hpa bA
  rw [← hY] at hpb bB
  have HPA := Lib.hid hpa
  have HPB := Lib.hid hpb
  have BA := Lib.hid bA
  have BB := Lib.hid bB
  rw [hr]
  clear hbox hV vb vd hr hA hB ka kb hha hhb hpa hpb hX hY bA bB
  go_enter Try.func81, Try.ntmps81
  go_wp2_with fail
  rw [← HV.out]
  go_region_held3 (fun w' => w'.cell? ⟨qb, 0, none⟩ = some (.pointer (some ⟨pb, 0, none⟩)) ∧ w'.cell? ⟨qa, 0, none⟩ = some (.pointer (some ⟨pa, 0, none⟩)) ∧ w'.cell? ⟨w.heap.size, 0, none⟩ = some (.int .i64 a) ∧ w'.cell? ⟨w.heap.size, 1, none⟩ = some (.int .i64 b)) (first | go_keep | exact HBOX.out _ HB3.out | exact HBOX.out _ HB2.out | exact HBOX.out _ HB1.out)
    (first
      | (go_at_call 79; (with_reducible refine HPA.out.mono ?_); rintro e w1 ⟨A1, c1, rfl, hl1, hC1, hb⟩; have HC1 := Aside0.mk hC1; have HB1 := Aside0.mk (undrew hb); clear hl1 hC1 hb)
      | (go_at_call 79; (with_reducible refine (HPB.out _ HB1.out).mono ?_); rintro e w2 ⟨A2, c2, rfl, hl2, hC2, hb⟩; have HC2 := Aside0.mk hC2; have HC3 := Aside0.mk (Kd.C_below HC1.out hb); have HB2 := Aside0.mk (HB1.out.trans (hb.mono HB1.out.size)); clear hl2 hC2 hb)
      | (go_at_call 63; (with_reducible refine (BytesEqual_any HC3.out HC2.out BA.out BB.out).mono ?_); rintro e w4 ⟨rfl, hb⟩; have HB3 := Aside0.mk (HB2.out.trans (hb.mono HB2.out.size)); clear hb))
  go_wp2
  go_ret
  exact ⟨rfl, VB.out.trans (HB3.out.mono VB.out.size)⟩
theorem within1_clo : CloFn 77 := ⟨_, Try.func77, by kernel_rfl, rfl⟩
theorem same1_clo : CloFn 81 := ⟨_, Try.func81, by kernel_rfl, rfl⟩
end
end Go.Proofs.Ytkmanjfmffdcbaa.Fl

/- What Within and Same say of devices that are alike: the law's own words. No program in sight. -/
namespace Go.Proofs.Ytkmanjfmffdcbaa.Fl
set_option linter.unusedSimpArgs false
set_option linter.unusedVariables false
/-! ### The used pages, in order -/
def lexLt (x y : Adr) : Prop := x.1 < y.1 ∨ (x.1 = y.1 ∧ x.2 < y.2)
theorem rowTo_mem {D : PD} {a : Nat} {x : Adr} : ∀ {j}, x ∈ rowTo D a j ↔ ∃ i : Nat, i < j ∧ x = ((a : Int), (i : Int)) ∧ usedB D a i = true
  | 0 => by simp [rowTo]
  | j + 1 => by
    rw [rowTo, List.mem_append, rowTo_mem]
    constructor
    · rintro (⟨i, h1, h2, h3⟩ | h)
      · exact ⟨i, by omega, h2, h3⟩
      · split at h
        · exact ⟨j, by omega, by simpa using h, by assumption⟩
        · cases h
    · rintro ⟨i, h1, h2, h3⟩
      by_cases hi : i = j
      · subst hi
        rw [if_pos h3]
        exact .inr (by simp [h2])
      · exact .inl ⟨i, by omega, h2, h3⟩
theorem pagesTo_mem {D : PD} {m : Nat} {x : Adr} : ∀ {k}, x ∈ pagesTo D m k ↔ ∃ a i : Nat, a < k ∧ i < m ∧ x = ((a : Int), (i : Int)) ∧ usedB D a i = true
  | 0 => by simp [pagesTo]
  | k + 1 => by
    rw [pagesTo, List.mem_append, pagesTo_mem, rowTo_mem]
    constructor
    · rintro (⟨a, i, h1, h2⟩ | ⟨i, h1, h2, h3⟩)
      · exact ⟨a, i, by omega, h2⟩
      · exact ⟨k, i, by omega, h1, h2, h3⟩
    · rintro ⟨a, i, h1, h2, h3, h4⟩
      by_cases ha : a = k
      · subst ha
        exact .inr ⟨i, h2, h3, h4⟩
      · exact .inl ⟨a, i, by omega, h2, h3, h4⟩
theorem rowTo_lex {D : PD} {a : Nat} : ∀ j, (rowTo D a j).Pairwise lexLt
  | 0 => by simp [rowTo]
  | j + 1 => by
    rw [rowTo, List.pairwise_append]
    refine ⟨rowTo_lex j, by split <;> simp, fun x hx y hy => ?_⟩
    obtain ⟨i, h1, h2, _⟩ := rowTo_mem.1 hx
    split at hy
    · have : y = ((a : Int), (j : Int)) := by simpa using hy
      rw [h2, this]
      exact .inr ⟨rfl, by show (i : Int) < (j : Int); omega⟩
    · cases hy
theorem pagesTo_lex {D : PD} {m : Nat} : ∀ k, (pagesTo D m k).Pairwise lexLt
  | 0 => by simp [pagesTo]
  | k + 1 => by
    rw [pagesTo, List.pairwise_append]
    refine ⟨pagesTo_lex k, rowTo_lex m, fun x hx y hy => ?_⟩
    obtain ⟨a, i, h1, _, h2, _⟩ := pagesTo_mem.1 hx
    obtain ⟨j, _, h3, _⟩ := rowTo_mem.1 hy
    rw [h2, h3]
    exact .inl (by show (a : Int) < (k : Int); omega)
theorem pagesL_lex (D : PD) : (pagesL D).Pairwise lexLt := pagesTo_lex _
theorem pagesL_mem {D : PD} {x : Adr} : x ∈ pagesL D ↔ usedB D x.1 x.2 = true := by
  unfold pagesL
  rw [pagesTo_mem]
  constructor
  · rintro ⟨a, i, _, _, h, hu⟩
    rw [h]
    exact hu
  · intro hu
    have hh := (hasB_iff _ _ _).1 (used_has hu)
    obtain ⟨a, ha⟩ := Int.eq_ofNat_of_zero_le hh.1
    obtain ⟨i, hi⟩ := Int.eq_ofNat_of_zero_le hh.2.2.1
    refine ⟨a, i, by omega, by omega, ?_, by rw [← ha, ← hi]; exact hu⟩
    rw [← ha, ← hi]
theorem rowTo_sub {C D : PD} (h : ∀ a b, usedB C a b = true → usedB D a b = true) (a : Nat) : ∀ j, (rowTo C a j).Sublist (rowTo D a j)
  | 0 => List.Sublist.refl _
  | j + 1 => by
    rw [rowTo, rowTo]
    refine List.Sublist.append (rowTo_sub h a j) ?_
    by_cases hc : usedB C a j = true
    · rw [if_pos hc, if_pos (h _ _ hc)]
      exact List.Sublist.refl _
    · rw [if_neg hc]
      exact List.nil_sublist _
theorem pagesTo_sub {C D : PD} (h : ∀ a b, usedB C a b = true → usedB D a b = true) (m : Nat) : ∀ k, (pagesTo C m k).Sublist (pagesTo D m k)
  | 0 => List.Sublist.refl _
  | k + 1 => by
    rw [pagesTo, pagesTo]
    exact List.Sublist.append (pagesTo_sub h m k) (rowTo_sub h k m)
theorem pagesL_sub {C D : PD} (hs : C.s = D.s) (h : ∀ a b, usedB C a b = true → usedB D a b = true) : (pagesL C).Sublist (pagesL D) := by
  unfold pagesL
  rw [hs]
  exact pagesTo_sub h _ _
section
variable {C D A B : PD} {s : Int × Int × Int} {ps qs : List Pg}
theorem Sim.usedIff (h : Sim D s ps) (x : Adr) : usedB D x.1 x.2 = true ↔ ∃ p ∈ ps, p.1 = x := by
  constructor
  · intro hu
    rw [h.used, findI_iff] at hu
    cases hg : got (x.1, x.2) ps with
    | none => rw [hg] at hu; cases hu
    | some l =>
      obtain ⟨p, hp, h1, _⟩ := got_mem hg
      exact ⟨p, hp, h1⟩
  · rintro ⟨p, hp, rfl⟩
    exact h.usedOf hp
theorem Sim.len_pages (h : Sim D s ps) : (pagesL D).length = ps.length := by
  have hn : (pagesL D).Nodup := by
    rw [List.nodup_iff_pairwise_ne]
    refine (pagesL_lex D).imp (fun {x y} hxy e => ?_)
    subst e
    rcases hxy with h1 | ⟨_, h1⟩ <;> omega
  have hn2 : (ps.map (·.1)).Nodup := by
    rw [List.nodup_iff_pairwise_ne, List.pairwise_map]
    exact h.nd
  have hp := (List.perm_ext_iff_of_nodup hn hn2).2 (fun x => by
    rw [pagesL_mem, h.usedIff, List.mem_map])
  rw [hp.length_eq, List.length_map]
/-! ### Bytes that are others' first ones -/
theorem preN_append (a b c : List Int) : preN (a ++ b) (a ++ c) = a.length + preN b c := by
  induction a with
  | nil => simp
  | cons x a ih =>
    show preN (x :: (a ++ b)) (x :: (a ++ c)) = _
    rw [preN, if_pos rfl, ih, List.length_cons]
    omega
theorem preN_self (a : List Int) : preN a a = a.length := by
  have h := preN_append a [] []
  rw [List.append_nil] at h
  rw [h]
  rfl
theorem partB_self (a : List Int) : partB a a = true := by
  rw [partB, preN_self, List.drop_length]
  rfl
theorem any_repl (n m : Nat) : ((List.replicate n (255 : Int)).drop m).any (fun z => z != 255) = false := by
  rw [List.drop_replicate, List.any_eq_false]
  intro x hx
  rw [List.eq_of_mem_replicate hx]
  decide
theorem partB_torn (n k : Nat) (l : List Int) : partB (fullT n (l.take k)) l = true := by
  unfold fullT full
  rw [List.take_take]
  obtain ⟨j, hj⟩ : ∃ j, j = min n k := ⟨_, rfl⟩
  rw [← hj]
  have hl : l = l.take j ++ l.drop j := (List.take_append_drop j l).symm
  have h2 : preN (l.take j ++ List.replicate (n - (l.take j).length) 255) l = (l.take j).length + preN (List.replicate (n - (l.take j).length) 255) (l.drop j) := by
    conv => lhs; arg 2; rw [hl]
    exact preN_append _ _ _
  rw [partB, h2, List.drop_append, List.drop_eq_nil_of_le (by omega), List.nil_append]
  rw [any_repl]
  rfl
/-! ### The law's own words -/
def withinP (s : Int × Int × Int) (ps qs : List Pg) : Bool := ps.all (fun p => decide (0 ≤ findI p.1.1 p.1.2 qs) && partB p.2.1 (readP s.2.2.toNat p.1.1 p.1.2 qs))
def alikeP (s : Int × Int × Int) (ps qs : List Pg) : Bool := ps.all (fun p => !(decide (0 ≤ findI p.1.1 p.1.2 qs) && !decide (p.2.1 = readP s.2.2.toNat p.1.1 p.1.2 qs)))
def sameP (s : Int × Int × Int) (ps qs : List Pg) : Bool := decide (ps.length = qs.length) && qs.all (fun z => decide (z.2.1 = readP s.2.2.toNat z.1.1 z.1.2 ps))
theorem inB_of (hA : Sim A s ps) (hB : Sim B s qs) {p : Pg} (hp : p ∈ ps) : inB A B p.1 = (decide (0 ≤ findI p.1.1 p.1.2 qs) && partB p.2.1 (readP s.2.2.toNat p.1.1 p.1.2 qs)) := by
  unfold inB
  rw [hB.used, hA.readOf hp, hB.read]
theorem all_pages (hA : Sim A s ps) (q : Adr → Bool) : (!((pagesL A).any (fun x => !q x))) = ps.all (fun p => q p.1) := by
  rw [Bool.eq_iff_iff, Bool.not_eq_true', List.any_eq_false, List.all_eq_true]
  constructor
  · intro h p hp
    have := h p.1 (pagesL_mem.2 ((hA.usedIff _).2 ⟨p, hp, rfl⟩))
    simpa using this
  · intro h x hx
    obtain ⟨p, hp, rfl⟩ := (hA.usedIff _).1 (pagesL_mem.1 hx)
    simpa using h p hp
theorem all_congr {α : Type} {l : List α} {f g : α → Bool} (h : ∀ x ∈ l, f x = g x) : l.all f = l.all g := by
  induction l with
  | nil => rfl
  | cons a l ih => rw [List.all_cons, List.all_cons, h a (by simp), ih (fun x hx => h x (by simp [hx]))]
theorem withinD_eq (hA : Sim A s ps) (hB : Sim B s qs) : withinD A B = withinP s ps qs := by
  unfold withinD withinP
  rw [all_pages hA]
  exact all_congr (fun p hp => inB_of hA hB hp)
theorem eqAll (hA : Sim A s ps) (hB : Sim B s qs) : (!((pagesL A).any (fun x => !eqB A B x))) = ps.all (fun p => decide (p.2.1 = readP s.2.2.toNat p.1.1 p.1.2 qs)) := by
  rw [all_pages hA]
  refine all_congr (fun p hp => ?_)
  unfold eqB
  rw [hA.readOf hp, hB.read]
theorem sameD_three (hA : Sim A s ps) (hB : Sim B s qs) : sameD A B = (withinP s ps qs && withinP s qs ps && alikeP s ps qs) := by
  unfold sameD
  rw [eqAll hA hB, Bool.eq_iff_iff]
  simp only [Bool.and_eq_true, decide_eq_true_eq, List.all_eq_true]
  constructor
  · rintro ⟨h1, h2⟩
    have hu : ∀ x : Adr, usedB A x.1 x.2 = true ↔ usedB B x.1 x.2 = true := fun x => by rw [← pagesL_mem, ← pagesL_mem, h1]
    refine ⟨⟨?_, ?_⟩, ?_⟩
    · unfold withinP
      rw [List.all_eq_true]
      intro p hp
      rw [Bool.and_eq_true, ← hB.used]
      exact ⟨(hu p.1).1 (hA.usedOf hp), by rw [← h2 p hp]; exact partB_self _⟩
    · unfold withinP
      rw [List.all_eq_true]
      intro q hq
      have hua := (hu q.1).2 (hB.usedOf hq)
      rw [Bool.and_eq_true, ← hA.used]
      refine ⟨hua, ?_⟩
      obtain ⟨p, hp, e⟩ := (hA.usedIff q.1).1 hua
      have h3 := h2 p hp
      have h4 := hB.readOf hq
      rw [hB.read, ← e] at h4
      rw [h4] at h3
      rw [← hA.read, ← e, hA.readOf hp, h3]
      exact partB_self _
    · unfold alikeP
      rw [List.all_eq_true]
      intro p hp
      rw [← h2 p hp]
      simp
  · rintro ⟨⟨h1, h2⟩, h3⟩
    unfold withinP at h1 h2
    unfold alikeP at h3
    rw [List.all_eq_true] at h1 h2 h3
    have k1 : ∀ x : Adr, usedB A x.1 x.2 = true → usedB B x.1 x.2 = true := fun x hx => by
      obtain ⟨p, hp, rfl⟩ := (hA.usedIff x).1 hx
      have := h1 p hp
      rw [Bool.and_eq_true, ← hB.used] at this
      exact this.1
    have k2 : ∀ x : Adr, usedB B x.1 x.2 = true → usedB A x.1 x.2 = true := fun x hx => by
      obtain ⟨p, hp, rfl⟩ := (hB.usedIff x).1 hx
      have := h2 p hp
      rw [Bool.and_eq_true, ← hA.used] at this
      exact this.1
    refine ⟨?_, fun p hp => ?_⟩
    · refine List.Sublist.eq_of_length (pagesL_sub (hA.sh.trans hB.sh.symm) (fun a b h => k1 (a, b) h)) (Nat.le_antisymm (List.Sublist.length_le (pagesL_sub (hA.sh.trans hB.sh.symm) (fun a b h => k1 (a, b) h))) (List.Sublist.length_le (pagesL_sub (hB.sh.trans hA.sh.symm) (fun a b h => k2 (a, b) h))))
    · have h4 := h3 p hp
      have h5 := h1 p hp
      rw [Bool.and_eq_true] at h5
      rw [h5.1, Bool.true_and, Bool.not_not] at h4
      simpa using h4
/-! ### Behind a crash -/
theorem mem_rcR2 {n : Int} {P : PlanT} {q : Pg} : ∀ {ps : List Pg} {i : Nat}, q ∈ rcR n P i ps → ∃ p ∈ ps, q.1 = p.1 ∧ (q.2.1 = p.2.1 ∨ ∃ k, q.2.1 = fullT n.toNat (p.2.1.take k))
  | [], _, h => by simp [rcR] at h
  | p :: ps, i, h => by
    rw [rcR] at h
    by_cases hd : p.2.2 = false
    · rw [if_pos hd, List.mem_cons] at h
      rcases h with rfl | h
      · exact ⟨q, by simp, rfl, .inl rfl⟩
      · obtain ⟨p', h2, h3⟩ := mem_rcR2 h
        exact ⟨p', by simp [h2], h3⟩
    · rw [if_neg hd, List.mem_append] at h
      rcases h with h | h
      · cases hk : keepO n P i p.2.1 with
        | none => rw [hk] at h; simp at h
        | some l =>
          rw [hk] at h
          simp at h
          subst h
          refine ⟨p, by simp, rfl, ?_⟩
          unfold keepO at hk
          split at hk
          · exact .inr ⟨_, (Option.some.inj hk).symm⟩
          · split at hk
            · exact .inl (Option.some.inj hk).symm
            · cases hk
      · obtain ⟨p', h2, h3⟩ := mem_rcR2 h
        exact ⟨p', by simp [h2], h3⟩
theorem within_crash {P : PlanT} (hD : Sim D s ps) (hC : Sim C s (rcTo s.2.2 P ps).1) : withinD C D = true := by
  rw [withinD_eq hC hD]
  unfold withinP
  rw [List.all_eq_true]
  intro q hq
  rw [rcTo_eq] at hq
  obtain ⟨p, hp, e, h⟩ := mem_rcR2 hq
  rw [Bool.and_eq_true, ← hD.used, e]
  refine ⟨hD.usedOf hp, ?_⟩
  rw [← hD.read, hD.readOf hp]
  rcases h with h | ⟨k, h⟩
  · rw [h]; exact partB_self _
  · rw [h]; exact partB_torn _ _ _
theorem same_self (hD : Sim D s ps) : sameD D D = true := by
  unfold sameD
  rw [decide_eq_true rfl, eqAll hD hD, Bool.true_and, List.all_eq_true]
  intro p hp
  rw [← hD.read, hD.readOf hp]
  simp
theorem same_crash {P : PlanT} (hD : Sim D s ps) (hC : Sim C s (rcTo s.2.2 P ps).1) : sameD C D = sameP s ps (rcTo s.2.2 P ps).1 := by
  unfold sameD sameP
  rw [eqAll hC hD]
  congr 1
  have hk : ∀ a b, usedB C a b = true → usedB D a b = true := fun a b h => by
    obtain ⟨q, hq, e⟩ := (hC.usedIff (a, b)).1 h
    rw [rcTo_eq] at hq
    obtain ⟨p, hp, e2, _⟩ := mem_rcR2 hq
    exact (hD.usedIff (a, b)).2 ⟨p, hp, e2.symm.trans e⟩
  have hsub := pagesL_sub (hC.sh.trans hD.sh.symm) hk
  rw [Bool.eq_iff_iff, decide_eq_true_eq, decide_eq_true_eq]
  constructor
  · intro e
    rw [← hD.len_pages, ← hC.len_pages, e]
  · intro e
    exact hsub.eq_of_length (by rw [hD.len_pages, hC.len_pages, e])
theorem bits_all {i : Nat} (h : i < 64) : (18446744073709551615 : Int) / 2 ^ i % 2 = 1 := by
  have : ∀ j : Fin 64, (18446744073709551615 : Int) / 2 ^ j.val % 2 = 1 := by decide
  exact this ⟨i, h⟩
theorem rcR_all {n : Int} : ∀ {ps : List Pg} {i : Nat}, i + (ps.filter (·.2.2)).length ≤ 64 → rcR n ⟨18446744073709551615, -1, 0⟩ i ps = syncP ps
  | [], _, _ => rfl
  | p :: ps, i, h => by
    rw [rcR]
    by_cases hd : p.2.2 = false
    · rw [if_pos hd, rcR_all (by simpa [hd] using h)]
      obtain ⟨a, b, c⟩ := p
      simp only at hd
      subst hd
      rfl
    · have hd2 : p.2.2 = true := by simpa using hd
      rw [if_neg hd]
      have h1 : i + 1 + (ps.filter (·.2.2)).length ≤ 64 := by
        rw [List.filter_cons_of_pos (by simpa using hd2), List.length_cons] at h
        omega
      rw [rcR_all h1]
      have hi : i < 64 := by omega
      have hk : keepO n ⟨18446744073709551615, -1, 0⟩ i p.2.1 = some p.2.1 := by
        unfold keepO
        rw [if_neg (fun e => by have := e.1; simp only at this; omega), if_pos]
        unfold keepB
        simp only [Bool.and_eq_true, decide_eq_true_eq, Bool.not_eq_true', decide_eq_false_iff_not]
        exact ⟨by omega, hi, bits_all hi⟩
      rw [hk]
      rfl
theorem same_all (hD : Sim D s ps) (hC : Sim C s (rcTo s.2.2 ⟨18446744073709551615, -1, 0⟩ ps).1) (h : D.dirty.length ≤ 64) : sameD C D = true := by
  rw [same_crash hD hC]
  have he : (rcTo s.2.2 ⟨18446744073709551615, -1, 0⟩ ps).1 = syncP ps := by
    rw [rcTo_eq]
    refine rcR_all ?_
    rw [hD.dirty, List.length_map] at h
    omega
  rw [he]
  unfold sameP
  rw [Bool.and_eq_true, decide_eq_true_eq, List.all_eq_true]
  refine ⟨by simp [syncP], fun q hq => ?_⟩
  simp only [syncP, List.mem_map] at hq
  obtain ⟨p, hp, rfl⟩ := hq
  rw [← hD.read, hD.readOf hp]
  simp
end
end Go.Proofs.Ytkmanjfmffdcbaa.Fl

/- Package crash: Within and Same, whole: walked. No condition. -/
namespace Go.Proofs.Ytkmanjfmffdcbaa.Fl
open Go.RowKit Go.Proofs.YtkmanjfmffdcbaaW.PrintWords Go.Proofs.YtkmanjfmffdcbaaW.PrintMore Go.Maps
set_option linter.unusedSimpArgs false
set_option linter.unusedVariables false
section
variable {N0 N1 pa pb : Nat} {A B : PD} {okA okB : Nat → Prop} {w : World}
theorem boxes_ab {w V : World} (t : TypeId) (pa pb : Nat) (hV : V = (w.alloc (.cells #[.pointer (some ⟨pa, 0, none⟩)] t)).alloc (.cells #[.pointer (some ⟨pb, 0, none⟩)] t)) :
    Below w.heap.size w V ∧ ∀ X : World, Below V.heap.size V X → X.heap[w.heap.size]? = some (.cells #[.pointer (some ⟨pa, 0, none⟩)] t (0, 0)) ∧ X.heap[w.heap.size + 1]? = some (.cells #[.pointer (some ⟨pb, 0, none⟩)] t (0, 0)) := by
  have q0 : V.heap[w.heap.size]? = some (.cells #[.pointer (some ⟨pa, 0, none⟩)] t (0, 0)) := by rw [hV]; exact (Below.heap_alloc _ _ _ (by simp)).trans (blk_new w _)
  have q1 : V.heap[w.heap.size + 1]? = some (.cells #[.pointer (some ⟨pb, 0, none⟩)] t (0, 0)) := by
    rw [hV]
    have := blk_new (w.alloc (.cells #[.pointer (some ⟨pa, 0, none⟩)] t)) (.cells #[.pointer (some ⟨pb, 0, none⟩)] t)
    simpa using this
  have qb : Below w.heap.size w V := by rw [hV]; exact (below_alloc (Below.refl _ _) _).alloc (by simp) _
  exact ⟨qb, fun X hX => ⟨(hX.block _ (blt q0)).trans q0, (hX.block _ (blt q1)).trans q1⟩⟩
set_option maxHeartbeats 600000 in
set_option maxRecDepth 100000 in
theorem Within_any (hA : DevIs N0 pa A okA w) (hB : DevIs N1 pb B okB w) (hs : A.s = B.s) :
    Calls Try.prog 50 #[.pointer (some ⟨pa, 0, none⟩), .pointer (some ⟨pb, 0, none⟩)] w fun e w' => e = .returned (.bool (withinD A B)) ∧ Below w.heap.size w w' := by
  obtain ⟨V, hV⟩ : ∃ V, V = (w.alloc (.cells #[.pointer (some ⟨pa, 0, none⟩)] 50)).alloc (.cells #[.pointer (some ⟨pb, 0, none⟩)] 50) := ⟨_, rfl⟩
  obtain ⟨vb, hbox⟩ := boxes_ab _ pa pb hV
  have hbc : ∀ X : World, Below V.heap.size V X → X.cell? ⟨w.heap.size, 0, none⟩ = some (.pointer (some ⟨pa, 0, none⟩)) ∧ X.cell? ⟨w.heap.size + 1, 0, none⟩ = some (.pointer (some ⟨pb, 0, none⟩)) := fun X hX => ⟨bcell (hbox X hX).1 0, bcell (hbox X hX).2 0⟩
  obtain ⟨y1, y2⟩ := hbc V.drew ((Below.refl _ V).drew)
  have hsa := fun (X : World) (hX : Below V.heap.size V X) => Shape_any (hA.below (vb.trans (hX.mono vb.size)))
  have hsb := fun (X : World) (hX : Below V.heap.size V X) => Shape_any (hB.below (vb.trans (hX.mono vb.size)))
  rw [← hs] at hsb
  have hpg := fun (X : World) (hX : Below V.heap.size V X) => Pages_any (hA.below (vb.trans (hX.mono vb.size)))
  have hll := pagesL_len hA.shape
  have hmem : ∀ at_ ∈ pagesL A, usedB A at_.1 at_.2 = true := fun at_ h => mem_pagesTo h
  have hq : ∀ W (a : Adr), Below V.heap.size V W → a ∈ pagesL A → Calls Try.prog 77 (#[.agg #[.int .i64 a.1, .int .i64 a.2]] ++ #[.pointer (some ⟨w.heap.size + 1, 0, none⟩), .pointer (some ⟨w.heap.size, 0, none⟩)]) W fun e W' => e = .returned (.bool ((fun at_ => !inB A B at_) a)) ∧ Below W.heap.size W W' :=
    fun W a hW ha => Within1_any (hA.below (vb.trans (hW.mono vb.size))) (hB.below (vb.trans (hW.mono vb.size))) (hbox W hW).1 (hbox W hW).2 a.1 a.2 (hmem a ha)
  have VB := Aside0.mk vb
  have HBC := Lib.hid hbc
  have HV := Lib.hid hV
  have HSA := Lib.hid hsa
  have HSB := Lib.hid hsb
  have HPG := Lib.hid hpg
  have HLL := Lib.hid hll
  have HQ := Lib.hid hq
  clear hbox hbc hV vb hsa hsb hpg hll hmem hq hA hB hs
  go_enter Try.func50, Try.ntmps50
  go_wp2_with fail
  rw [← HV.out]
  go_region_held3 (fun w' => w'.cell? ⟨w.heap.size, 0, none⟩ = some (.pointer (some ⟨pa, 0, none⟩)) ∧ w'.cell? ⟨w.heap.size + 1, 0, none⟩ = some (.pointer (some ⟨pb, 0, none⟩))) (first | go_keep | exact HBC.out _ HB2.out | exact HBC.out _ HB1.out)
    (first
      | (go_at_call 43; (with_reducible refine (HSA.out _ ((Below.refl _ V).drew)).mono ?_); rintro e w1 ⟨rfl, hb⟩; have HB1 := Aside0.mk (undrew hb); clear hb)
      | (go_at_call 43; (with_reducible refine (HSB.out _ HB1.out).mono ?_); rintro e w2 ⟨rfl, hb⟩; have HB2 := Aside0.mk (HB1.out.trans (hb.mono HB1.out.size)); clear hb))
  obtain ⟨z1, z2⟩ := HBC.out _ HB2.out
  clear y1 y2
  go_wp2_with (first
    | (go_at_call 47; (with_reducible refine (HPG.out _ HB2.out).mono ?_); rintro e w3 ⟨v3, rfl, hr3, hb⟩; obtain ⟨A3, c3, rfl⟩ := Kd.R_slice hr3; have HR3 := Aside0.mk hr3; have HB3 := Aside0.mk (HB2.out.trans (hb.mono HB2.out.size)); clear hr3 hb)
    | (go_at_call 76; refine (ContainsA_any HR3.out HLL.out within1_clo (fun W => Below V.heap.size V W) (fun W W' h1 h2 => h1.trans (h2.mono h1.size)) (fun at_ => !inB A B at_) HQ.out HB3.out).mono ?_; rintro e w4 ⟨rfl, hb⟩; have HB4 := Aside0.mk (HB3.out.trans (hb.mono HB3.out.size)); clear hb))
  go_ret
  exact ⟨rfl, VB.out.trans (HB4.out.mono VB.out.size)⟩
set_option maxHeartbeats 600000 in
set_option maxRecDepth 100000 in
theorem Same_any (hA : DevIs N0 pa A okA w) (hB : DevIs N1 pb B okB w) (hs : A.s = B.s) (bA : ∀ a b, Byt (readD A a b)) (bB : ∀ a b, Byt (readD B a b)) :
    Calls Try.prog 51 #[.pointer (some ⟨pa, 0, none⟩), .pointer (some ⟨pb, 0, none⟩)] w fun e w' => e = .returned (.bool (sameD A B)) ∧ Below w.heap.size w w' := by
  obtain ⟨V, hV⟩ : ∃ V, V = (w.alloc (.cells #[.pointer (some ⟨pa, 0, none⟩)] 50)).alloc (.cells #[.pointer (some ⟨pb, 0, none⟩)] 50) := ⟨_, rfl⟩
  obtain ⟨vb, hbox⟩ := boxes_ab _ pa pb hV
  have hbc : ∀ X : World, Below V.heap.size V X → X.cell? ⟨w.heap.size, 0, none⟩ = some (.pointer (some ⟨pa, 0, none⟩)) ∧ X.cell? ⟨w.heap.size + 1, 0, none⟩ = some (.pointer (some ⟨pb, 0, none⟩)) := fun X hX => ⟨bcell (hbox X hX).1 0, bcell (hbox X hX).2 0⟩
  obtain ⟨y1, y2⟩ := hbc V (Below.refl _ V)
  have hsa := fun (X : World) (hX : Below V.heap.size V X) => Shape_any (hA.below (vb.trans (hX.mono vb.size)))
  have hsb := fun (X : World) (hX : Below V.heap.size V X) => Shape_any (hB.below (vb.trans (hX.mono vb.size)))
  rw [← hs] at hsb
  have hpg := fun (X : World) (hX : Below V.heap.size V X) => Pages_any (hA.below (vb.trans (hX.mono vb.size)))
  have hpg2 := fun (X : World) (hX : Below V.heap.size V X) => Pages_any (hB.below (vb.trans (hX.mono vb.size)))
  have hll := pagesL_len hA.shape
  have hll2 := pagesL_len hB.shape
  have hmem : ∀ at_ ∈ pagesL A, hasB A.s at_.1 at_.2 = true := fun at_ h => used_has (mem_pagesTo h)
  have hq : ∀ W (a : Adr), Below V.heap.size V W → a ∈ pagesL A → Calls Try.prog 81 (#[.agg #[.int .i64 a.1, .int .i64 a.2]] ++ #[.pointer (some ⟨w.heap.size, 0, none⟩), .pointer (some ⟨w.heap.size + 1, 0, none⟩)]) W fun e W' => e = .returned (.bool ((fun at_ => !eqB A B at_) a)) ∧ Below W.heap.size W W' :=
    fun W a hW ha => Same1_any (hA.below (vb.trans (hW.mono vb.size))) (hB.below (vb.trans (hW.mono vb.size))) (hbox W hW).1 (hbox W hW).2 a.1 a.2 (hmem a ha) (by rw [← hs]; exact hmem a ha) (bA _ _) (bB _ _)
  have VB := Aside0.mk vb
  have HBC := Lib.hid hbc
  have HV := Lib.hid hV
  have HSA := Lib.hid hsa
  have HSB := Lib.hid hsb
  have HPG := Lib.hid hpg
  have HPG2 := Lib.hid hpg2
  have HLL := Lib.hid hll
  have HLL2 := Lib.hid hll2
  have HQ := Lib.hid hq
  clear hbox hbc hV vb hsa hsb hpg hpg2 hll hll2 hmem hq hA hB hs bA bB
  cases heq : decide (pagesL A = pagesL B) with
  | true =>
    have HEQ := Lib.hid heq
    clear heq
    go_enter Try.func51, Try.ntmps51
    go_wp2_with fail
    rw [← HV.out]
    go_wp2_with (go_at_call 47; (with_reducible refine (HPG.out _ (Below.refl _ V)).mono ?_); rintro e w3 ⟨v3, rfl, hr3, hb⟩; obtain ⟨A3, c3, rfl⟩ := Kd.R_slice hr3; have HR3 := Aside0.mk hr3; have HB3 := Aside0.mk hb; obtain ⟨z1, z2⟩ := HBC.out _ hb; clear hr3 hb)
    have HTO := Lib.hid (fun (X : World) (h : Below w3.heap.size w3 X) => HB3.out.trans (h.mono HB3.out.size))
    go_region_held3 (fun w' => w'.cell? ⟨w.heap.size, 0, none⟩ = some (.pointer (some ⟨pa, 0, none⟩)) ∧ w'.cell? ⟨w.heap.size + 1, 0, none⟩ = some (.pointer (some ⟨pb, 0, none⟩))) (first | go_keep | exact HBC.out _ (HTO.out _ HB6.out) | exact HBC.out _ (HTO.out _ HB5.out) | exact HBC.out _ (HTO.out _ HB2.out) | exact HBC.out _ (HTO.out _ HB1.out))
      (first
        | (go_at_call 43; (with_reducible refine (HSA.out _ (HB3.out.drew)).mono ?_); rintro e w1 ⟨rfl, hb⟩; have HB1 := Aside0.mk (undrew hb); clear hb)
        | (go_at_call 43; (with_reducible refine (HSB.out _ (HTO.out _ HB1.out)).mono ?_); rintro e w2 ⟨rfl, hb⟩; have HB2 := Aside0.mk (HB1.out.trans (hb.mono HB1.out.size)); clear hb)
        | (go_at_call 47; (with_reducible refine (HPG2.out _ (HTO.out _ HB2.out)).mono ?_); rintro e w5 ⟨v5, rfl, hr5, hb⟩; obtain ⟨A5, c5, rfl⟩ := Kd.R_slice hr5; have HR5 := Aside0.mk hr5; have HB5 := Aside0.mk (HB2.out.trans (hb.mono HB2.out.size)); clear hr5 hb)
        | (go_at_call 80; (with_reducible refine (EqualA_any (Kd.R_below HR3.out HB5.out) HR5.out HLL.out HLL2.out).mono ?_); rw [HEQ.out]; rintro e w6 ⟨rfl, hb⟩; have HB6 := Aside0.mk (HB5.out.trans (hb.mono HB5.out.size)); clear hb))
    obtain ⟨t1, t2⟩ := HBC.out _ (HTO.out _ HB6.out)
    clear y1 y2 z1 z2
    go_wp2_with (go_at_call 76; refine (ContainsA_any (Kd.R_below HR3.out HB6.out) HLL.out same1_clo (fun W => Below V.heap.size V W) (fun W W' h1 h2 => h1.trans (h2.mono h1.size)) (fun at_ => !eqB A B at_) HQ.out (HTO.out _ HB6.out)).mono ?_; rintro e w4 ⟨rfl, hb⟩; have HB4 := Aside0.mk ((HTO.out _ HB6.out).trans (hb.mono (HTO.out _ HB6.out).size)); clear hb)
    go_ret
    exact ⟨by rw [sameD, HEQ.out]; rfl, VB.out.trans (HB4.out.mono VB.out.size)⟩
  | false =>
    have HEQ := Lib.hid heq
    clear heq
    go_enter Try.func51, Try.ntmps51
    go_wp2_with fail
    rw [← HV.out]
    go_wp2_with (go_at_call 47; (with_reducible refine (HPG.out _ (Below.refl _ V)).mono ?_); rintro e w3 ⟨v3, rfl, hr3, hb⟩; obtain ⟨A3, c3, rfl⟩ := Kd.R_slice hr3; have HR3 := Aside0.mk hr3; have HB3 := Aside0.mk hb; obtain ⟨z1, z2⟩ := HBC.out _ hb; clear hr3 hb)
    have HTO := Lib.hid (fun (X : World) (h : Below w3.heap.size w3 X) => HB3.out.trans (h.mono HB3.out.size))
    go_region_held3 (fun w' => w'.cell? ⟨w.heap.size, 0, none⟩ = some (.pointer (some ⟨pa, 0, none⟩)) ∧ w'.cell? ⟨w.heap.size + 1, 0, none⟩ = some (.pointer (some ⟨pb, 0, none⟩))) (first | go_keep | exact HBC.out _ (HTO.out _ HB6.out) | exact HBC.out _ (HTO.out _ HB5.out) | exact HBC.out _ (HTO.out _ HB2.out) | exact HBC.out _ (HTO.out _ HB1.out))
      (first
        | (go_at_call 43; (with_reducible refine (HSA.out _ (HB3.out.drew)).mono ?_); rintro e w1 ⟨rfl, hb⟩; have HB1 := Aside0.mk (undrew hb); clear hb)
        | (go_at_call 43; (with_reducible refine (HSB.out _ (HTO.out _ HB1.out)).mono ?_); rintro e w2 ⟨rfl, hb⟩; have HB2 := Aside0.mk (HB1.out.trans (hb.mono HB1.out.size)); clear hb)
        | (go_at_call 47; (with_reducible refine (HPG2.out _ (HTO.out _ HB2.out)).mono ?_); rintro e w5 ⟨v5, rfl, hr5, hb⟩; obtain ⟨A5, c5, rfl⟩ := Kd.R_slice hr5; have HR5 := Aside0.mk hr5; have HB5 := Aside0.mk (HB2.out.trans (hb.mono HB2.out.size)); clear hr5 hb)
        | (go_at_call 80; (with_reducible refine (EqualA_any (Kd.R_below HR3.out HB5.out) HR5.out HLL.out HLL2.out).mono ?_); rw [HEQ.out]; rintro e w6 ⟨rfl, hb⟩; have HB6 := Aside0.mk (HB5.out.trans (hb.mono HB5.out.size)); clear hb))
    go_wp2
    go_ret
    exact ⟨by rw [sameD, HEQ.out]; rfl, VB.out.trans ((HTO.out _ HB6.out).mono VB.out.size)⟩
end
end Go.Proofs.Ytkmanjfmffdcbaa.Fl

