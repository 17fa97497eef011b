/- FlashCrashes: walked. No condition but what every argument brings. -/
import Derived.Test.YtkmanjfmffdcbaaFlKept
namespace Go.Proofs.Ytkmanjfmffdcbaa.Fl
open Go.RowKit Go.Proofs.YtkmanjfmffdcbaaW.PrintWords Go.Proofs.YtkmanjfmffdcbaaW.PrintMore Go.Maps
set_option linter.unusedSimpArgs false
set_option linter.unusedVariables false
theorem few_len {ds : List DeedT} (h : fewB ds = true) : ds.length ≤ 60 := by
  unfold fewB at h
  simp at h
  exact h.2
set_option maxHeartbeats 8000000 in
set_option maxRecDepth 100000 in
theorem FlashCrashes_any {w : World} {A B : Option Addr} {c d : Nat} (s : Int × Int × Int) {ds es : List DeedT} (P : PlanT) (hP : PlanOk P) (hr : DRow w A ds) (h0 : ds.length ≤ 9223372036854775807) (hp : ∀ d ∈ ds, PlanOk d.P) (hr2 : DRow w B es) (h02 : es.length ≤ 9223372036854775807) :
    Calls Try.prog 8 #[.agg #[.int .i64 s.1, .int .i64 s.2.1, .int .i64 s.2.2], .slice A ds.length c, .agg #[.int .u64 P.keep, .int .i64 P.torn, .int .i64 P.cut], .slice B es.length d] w fun e w' => e = .returned (.bool true) ∧ Below w.heap.size w w' := by
  obtain ⟨n, hn⟩ : ∃ n, n = ds.length := ⟨_, rfl⟩
  obtain ⟨n2, hn2⟩ : ∃ n, n = es.length := ⟨_, rfl⟩
  obtain ⟨W, hW⟩ : ∃ W, W = (w.alloc (.cells #[.int .i64 s.1, .int .i64 s.2.1, .int .i64 s.2.2] 46)).alloc (.cells #[.int .u64 P.keep, .int .i64 P.torn, .int .i64 P.cut] 59) := ⟨_, rfl⟩
  have q0 : W.heap[w.heap.size]? = some (.cells #[.int .i64 s.1, .int .i64 s.2.1, .int .i64 s.2.2] 46 (0, 0)) := by rw [hW]; exact (Below.heap_alloc _ _ _ (by simp)).trans (blk_new w _)
  have q1 : W.heap[w.heap.size + 1]? = some (.cells #[.int .u64 P.keep, .int .i64 P.torn, .int .i64 P.cut] 59 (0, 0)) := by
    rw [hW]
    have := blk_new (w.alloc (.cells #[.int .i64 s.1, .int .i64 s.2.1, .int .i64 s.2.2] 46)) (.cells #[.int .u64 P.keep, .int .i64 P.torn, .int .i64 P.cut] 59)
    simpa using this
  have qb : Below w.heap.size w W := by rw [hW]; exact (below_alloc (Below.refl _ _) _).alloc (by simp) _
  have hbox : ∀ V : World, Below W.heap.size W V → V.cell? ⟨w.heap.size, 0, none⟩ = some (.int .i64 s.1) ∧ V.cell? ⟨w.heap.size, 1, none⟩ = some (.int .i64 s.2.1) ∧ V.cell? ⟨w.heap.size, 2, none⟩ = some (.int .i64 s.2.2) := fun V hV => by
    have := (hV.block w.heap.size (blt q0)).trans q0
    exact ⟨bcell this 0, bcell this 1, bcell this 2⟩
  have hbox2 : ∀ V : World, Below W.heap.size W V → V.cell? ⟨w.heap.size + 1, 0, none⟩ = some (.int .u64 P.keep) ∧ V.cell? ⟨w.heap.size + 1, 1, none⟩ = some (.int .i64 P.torn) ∧ V.cell? ⟨w.heap.size + 1, 2, none⟩ = some (.int .i64 P.cut) := fun V hV => by
    have := (hV.block (w.heap.size + 1) (blt q1)).trans q1
    exact ⟨bcell this 0, bcell this 1, bcell this 2⟩
  have hfew : ∀ V : World, Below W.heap.size W V → Calls Try.prog 25 #[.slice A n c] V fun e w' => e = .returned (.bool (fewB ds)) ∧ Below W.heap.size W w' := fun V hV => by
    rw [hn]
    exact (Few_any ((hr.below qb).below hV) h0).mono fun e w' ⟨h1, h2⟩ => ⟨h1, hV.trans (h2.mono hV.size)⟩
  have hfew2 : ∀ V : World, Below W.heap.size W V → Calls Try.prog 25 #[.slice B n2 d] V fun e w' => e = .returned (.bool (fewB es)) ∧ Below W.heap.size W w' := fun V hV => by
    rw [hn2]
    exact (Few_any ((hr2.below qb).below hV) h02).mono fun e w' ⟨h1, h2⟩ => ⟨h1, hV.trans (h2.mono hV.size)⟩
  have hmade : shapeB s = true → fewB ds = true → ∀ V : World, Below W.heap.size W V → Calls Try.prog 29 #[.agg #[.int .i64 s.1, .int .i64 s.2.1, .int .i64 s.2.2], .slice A n c] V fun e w' => ∃ p x, e = .returned (.tuple #[.pointer (some ⟨p, 0, none⟩), .pointer (some ⟨x, 0, none⟩), .bool true]) ∧ (∃ D ps, Two (fun _ => False) W.heap.size p x D s ps w' ∧ Sim D s ps ∧ ps.length ≤ 60) ∧ Below W.heap.size W w' := fun hs hf V hV => by
    rw [hn]
    refine (Made_any hs ((hr.below qb).below hV) (few_len hf) hp).mono fun e w' ⟨p, x, D, ps, h1, h2, h3, h4, h5⟩ => ⟨p, x, h1, ⟨D, ps, ?_, h3, h4⟩, hV.trans (h5.mono hV.size)⟩
    exact h2.low hV.size
  have hr3 := hr2.below qb
  have HBOX := Lib.hid hbox
  have HBOX2 := Lib.hid hbox2
  have HFEW := Lib.hid hfew
  have HFEW2 := Lib.hid hfew2
  have HMADE := Lib.hid hmade
  have HW := Lib.hid hW
  have QB := Aside0.mk qb
  have HN := Lib.hid hn
  have HN2 := Lib.hid hn2
  have HR3 := Lib.hid hr3
  have HPP := Lib.hid hP
  rw [← hn] at h0
  rw [← hn2] at h02
  rw [← hn, ← hn2]
  clear hr hr2 hr3 hn hn2 hp hbox hbox2 hfew hfew2 hmade hW q0 q1 qb hP
  by_cases hall : fewB ds = true ∧ fewB es = true ∧ shapeB s = true
  · obtain ⟨hf, hf2, hs⟩ := hall
    have HMD := Lib.hid (HMADE.out hs hf)
    have HF := Lib.hid hf
    have HF2 := Lib.hid hf2
    have HS := Lib.hid hs
    have h60 : n2 ≤ 60 := by rw [HN2.out]; exact few_len hf2
    clear hs hf hf2 HMADE h0 h02
    go_enter Try.func8, Try.ntmps8
    go_wp2_with fail
    rw [← HW.out]
    go_wp2_with (first
      | (go_at_call 24; (with_reducible refine (Awake_any _).mono ?_); rintro e w1 ⟨rfl, hb⟩; have HB1 := Aside0.mk hb; clear hb)
      | (go_at_call 25; (with_reducible refine (HFEW.out _ HB1.out).mono ?_); rw [HF.out]; rintro e w2 ⟨rfl, hb⟩; have HB2 := Aside0.mk hb; clear hb)
      | (go_at_call 25; (with_reducible refine (HFEW2.out _ HB2.out).mono ?_); rw [HF2.out]; rintro e w3 ⟨rfl, hb⟩; obtain ⟨k1, k2, k3⟩ := HBOX.out _ hb; have HB3 := Aside0.mk hb; clear hb)
      | (go_at_call 26; (with_reducible refine (RShape_any _ _).mono ?_); rw [HS.out]; rintro e w4 ⟨rfl, hb⟩; have HB4 := Aside0.mk (HB3.out.trans (hb.mono HB3.out.size)); clear hb; obtain ⟨j1, j2, j3⟩ := HBOX.out _ HB4.out)
      | (go_at_call 29; (with_reducible refine (HMD.out _ HB4.out).mono ?_); rintro e w5 ⟨p, x, rfl, ⟨D, ps, ht, hsim, hl⟩, hb⟩; have HT5 := Aside0.mk ht; have HSIM := Aside0.mk hsim; have HL := Lib.hid hl; have HB5 := Aside0.mk hb; clear ht hb hsim hl)
      | (go_at_call 31; (with_reducible refine (HT5.out.sync).mono ?_); rintro e w6 ⟨rfl, ht, hb, _⟩; have HT6 := Aside0.mk ht; have HB6 := Aside0.mk (HB5.out.trans hb); clear ht hb)
      | (go_at_call 32; (with_reducible refine (HT6.out.rsync (by have := HL.out; omega)).mono ?_); rintro e w7 ⟨rfl, ht, hb, _⟩; have HT7 := Aside0.mk ht; have HB7 := Aside0.mk (HB6.out.trans hb); clear ht hb)
      | (go_at_call 33; (with_reducible refine (HT7.out.rcopy (by have := HL.out; simp [syncP]; omega)).mono ?_); rintro e w8 ⟨y, KC, rfl, hY, ht, hb⟩; have HY8 := Aside0.mk hY; have HT8 := Aside0.mk ht; have HB8 := Aside0.mk (HB7.out.trans (hb.mono HB7.out.size)); clear ht hb hY))
    obtain ⟨sp, hsp⟩ : ∃ sp, sp = syncP ps := ⟨_, rfl⟩
    have hcl : ∀ q ∈ sp, q.2.2 = false := fun q hq => mem_syncP (by rw [← hsp]; exact hq)
    have HCL := Lib.hid hcl
    have hS8 := HSIM.out.sync
    rw [← hsp] at hS8
    have hT8 := HT8.out.less (K' := KC) (fun k h => .inr h)
    rw [← hsp] at hT8
    have hY8 := HY8.out
    rw [← hsp] at hY8
    have hl8 : sp.length ≤ 60 := by rw [hsp]; have := HL.out; simpa [syncP] using this
    have HSO := Lib.hid (show ShapeOk s by have := HT8.out.shape; rwa [hS8.sh] at this)
    have HT9 := Aside0.mk hT8
    have HS9 := Aside0.mk hS8
    have HY9 := Aside0.mk hY8
    have HL9 := Lib.hid hl8
    clear hsp hcl hS8 hT8 hY8 hl8 HT8 HY8 HT7 HT6 HT5 HSIM HL
    go_loopw [51] (fun v51 wr => ∃ (k : Nat) (D1 : PD) (p1 : List Pg), k ≤ n2 ∧ v51 = .int .i64 (k : Int) ∧ Two KC W.heap.size p x D1 s p1 wr ∧ Sim D1 s p1 ∧ p1.length ≤ 60 + k ∧ (∀ q ∈ sp, q ∈ p1) ∧ RefIs W.heap.size y s sp KC wr ∧ Below W.heap.size W wr) (fun v51 _ => n2 - (intOf v51).toNat)
    case atStart => exact ⟨0, _, _, Nat.zero_le _, rfl, HT9.out, HS9.out, HL9.out, fun q hq => hq, HY9.out, HB8.out⟩
    case round =>
      obtain ⟨k, D1, p1, hk, rfl, ht, hsim, hl, hsub, hy, hb⟩ := hrel
      have HT := Aside0.mk ht
      have HSIM := Aside0.mk hsim
      have HBB := Aside0.mk hb
      have HYY := Aside0.mk hy
      have HSUB := Lib.hid hsub
      have HL := Lib.hid hl
      have HM := Lib.hid (show p1.length < 1000000 by omega)
      have HMD1 := Lib.hid (show D1.dirty.length < 1000000 from Nat.lt_of_le_of_lt hsim.dirtyLe (by omega))
      clear ht hsim hb hy hsub hl
      by_cases hlt : k < n2
      · obtain ⟨d, hd⟩ : ∃ d, es[k]? = some d := ⟨_, List.getElem?_eq_getElem (by have := HN2.out; omega)⟩
        obtain ⟨ad, A1, c1, hA, hc⟩ := HR3.out k d hd
        have ROWW := Aside0.mk hc.row
        have hc := hc.below HBB.out
        subst hA
        have d0 := hc.c0; have d1 := hc.c1; have d2 := hc.c2; have d3 := hc.c3; have d4 := hc.c4; have d5 := hc.c5; have d6 := hc.c6
        have k0 : (0 : Int) ≤ (k : Int) := by omega
        have k2 : (k : Int) < (n2 : Int) := by omega
        clear hd hc
        obtain ⟨dop, da, db, dl, ⟨m0, m1, m2⟩⟩ := d
        simp only at d0 d1 d2 d3 d4 d5 d6 ROWW
        obtain ⟨Y, hY⟩ : ∃ Y, Y = wr.alloc (.cells #[.int .i64 dop, .int .i64 da, .int .i64 db, .slice A1 dl.length c1, .int .u64 m0, .int .i64 m1, .int .i64 m2] 62) := ⟨_, rfl⟩
        have y0 : Y.heap[wr.heap.size]? = some (.cells #[.int .i64 dop, .int .i64 da, .int .i64 db, .slice A1 dl.length c1, .int .u64 m0, .int .i64 m1, .int .i64 m2] 62 (0, 0)) := by rw [hY]; exact blk_new wr _
        have yb : Below wr.heap.size wr Y := by rw [hY]; exact below_alloc (Below.refl _ _) _
        have hT2 := HT.out.keep yb
        have hY2 := HYY.out.below yb
        have HY := Lib.hid hY
        have Y0 := Lib.hid y0
        have YB := Aside0.mk (HBB.out.trans (yb.mono HBB.out.size))
        have HK := Lib.hid (show KC wr.heap.size ∨ (wr.heap.size ≤ wr.heap.size ∧ wr.heap.size < Y.heap.size) from .inr ⟨Nat.le_refl _, blt y0⟩)
        have HT2 := Aside0.mk hT2
        have HYY2 := Aside0.mk hY2
        clear hY yb hT2 hY2
        by_cases o0 : dop = 0
        · subst o0
          have y1 : Y.cell? ⟨wr.heap.size, 1, none⟩ = some (.int .i64 da) := bcell y0 1
          have y2 : Y.cell? ⟨wr.heap.size, 2, none⟩ = some (.int .i64 db) := bcell y0 2
          have y3 : Y.cell? ⟨wr.heap.size, 3, none⟩ = some (.slice A1 dl.length c1) := bcell y0 3
          have hwe := HSIM.out.writeE da db dl
          have HWE := Lib.hid hwe
          clear hwe y0
          go_wp2_with fail
          rw [← HY.out]
          go_wp2_with (first
            | (go_at_call 34; (with_reducible refine (HT2.out.write da db A1 c1 dl (Kd.C_below ROWW.out YB.out) HMD1.out).mono ?_); rintro e u2 ⟨rfl, ht2, hb2, hk2⟩; have hx2 := (hk2 wr.heap.size HK.out).trans Y0.out; have z1 : u2.cell? ⟨wr.heap.size, 1, none⟩ = some (.int .i64 da) := bcell hx2 1; have z2 : u2.cell? ⟨wr.heap.size, 2, none⟩ = some (.int .i64 db) := bcell hx2 2; have z3 : u2.cell? ⟨wr.heap.size, 3, none⟩ = some (.slice A1 dl.length c1) := bcell hx2 3; have HX2 := Lib.hid hx2; have HT3 := Aside0.mk ht2; have HB3 := Aside0.mk (YB.out.trans hb2); have HYY3 := Aside0.mk (HYY2.out.step (w' := u2) (fun k hk _ => hk2 k (.inl hk))); clear ht2 hb2 hk2 hx2)
            | (go_at_call 35; (with_reducible refine (HT3.out.rwrite HSO.out da db A1 c1 dl (Kd.C_below ROWW.out HB3.out) HM.out).mono ?_); rintro e u3 ⟨rfl, ht2, hb2, hk2⟩; have HT4 := Aside0.mk ht2; have HB4 := Aside0.mk (HB3.out.trans hb2); have HYY4 := Aside0.mk (HYY3.out.step (w' := u3) (fun k hk _ => hk2 k (.inl hk))); clear ht2 hb2 hk2))
          exact ⟨⟨k + 1, _, _, by omega, by go_num, HT4.out.less (fun k h => .inl h), HSIM.out.write da db dl, by have := HL.out; have := rwP_len s p1 da db dl; omega, fun q hq => mem_rwP (HSUB.out q hq), HYY4.out, HB4.out⟩, by simp [intOf]; omega⟩
        · have e1 : (dop == 0) = false := by simpa using o0
          clear y0
          go_wp2
          rw [← HY.out]
          exact ⟨⟨k + 1, _, _, by omega, by go_num, HT2.out.less (fun k h => .inl h), HSIM.out, by have := HL.out; omega, HSUB.out, HYY2.out, YB.out⟩, by simp [intOf]; omega⟩
      · obtain rfl : k = n2 := by omega
        have hcr := HSIM.out.crash HT.out.nodup HSO.out HPP.out
        obtain ⟨p2, hp2⟩ : ∃ p2, p2 = (rcTo s.2.2 P p1).1 := ⟨_, rfl⟩
        have hsub2 : ∀ q ∈ sp, q ∈ p2 := fun q hq => by rw [hp2, rcTo_eq]; exact mem_rcR_clean (HCL.out q hq) (HSUB.out q hq)
        have hl2 : p2.length < 1000000 := by rw [hp2, rcTo_eq]; exact Nat.lt_of_le_of_lt rcR_len HM.out
        have hcc := HT.out.crash P HPP.out HMD1.out HSIM.out.dirtyNd HSIM.out.dirtyIn
        obtain ⟨D2, hD2⟩ : ∃ D2, D2 = crashD D1 P := ⟨_, rfl⟩
        have hd2 : D2.dirty.length = 0 := by rw [hD2]; rfl
        rw [← hp2, ← hD2] at hcr
        rw [← hD2] at hcc
        have hlen1 := HSIM.out.len
        obtain ⟨n9, hn9⟩ : ∃ n9, n9 = sp.length := ⟨_, rfl⟩
        have HCC := Lib.hid hcc
        have HSIM2 := Aside0.mk hcr
        have HSUB2 := Lib.hid hsub2
        have HM2 := Lib.hid hl2
        have HD2 := Lib.hid hd2
        have HP2 := Lib.hid hp2
        have HLEN1 := Lib.hid hlen1
        have HN9 := Lib.hid hn9
        have h9 : n9 ≤ 60 := by rw [hn9]; exact HL9.out
        have H9 := Lib.hid h9
        obtain ⟨b1, b2, b3⟩ := HBOX2.out _ HBB.out
        clear hcr hp2 hsub2 hl2 hcc hD2 hd2 hlen1 hn9 h9 k1 k2 k3 j1 j2 j3
        go_wp2_with (first
          | (go_at_call 36; (with_reducible refine HCC.out.mono ?_); rintro e u2 ⟨rfl, ht2, hb2, hk2⟩; have HT3 := Aside0.mk ht2; have HB3 := Aside0.mk (HBB.out.trans hb2); have HYY3 := Aside0.mk (HYY.out.step (w' := u2) (fun k hk _ => hk2 k hk)); obtain ⟨f1, f2, f3⟩ := HBOX2.out _ HB3.out; clear ht2 hb2 hk2)
          | (go_at_call 37; (with_reducible refine (HT3.out.rcrash HSO.out P HPP.out HM.out HLEN1.out).mono ?_); rw [← HP2.out]; rintro e u3 ⟨rfl, ht2, hb2, hk2⟩; have HT4 := Aside0.mk ht2; have HB4 := Aside0.mk (HB3.out.trans hb2); have hy4 := HYY3.out.step (w' := u3) (fun k hk _ => hk2 k hk); obtain ⟨A9, c9, hy9, hrow9, hR9⟩ := ref_open hy4; rw [← HN9.out] at hy9 hrow9; have ky : u3.cell? ⟨y, 3, none⟩ = some (.slice A9 n9 c9) := bcell hy9 3; have HROW9 := Lib.hid hrow9; clear ht2 hb2 hk2 hy4 hy9 hrow9 hR9))
        go_loopw [86] (fun v86 wr => ∃ k : Nat, k ≤ n9 ∧ v86 = .int .i64 (k : Int) ∧ Below u3.heap.size u3 wr) (fun v86 _ => n9 - (intOf v86).toNat)
        case atStart => exact ⟨0, Nat.zero_le _, rfl, Below.refl _ _⟩
        case round =>
          obtain ⟨i, hi, rfl, hbi⟩ := hrel
          have h9 := H9.out
          have HI := Aside0.mk hbi
          have hti := HT4.out.below hbi
          clear hbi ky
          by_cases hlt : i < n9
          · obtain ⟨q, hq⟩ : ∃ q, sp[i]? = some q := ⟨_, List.getElem?_eq_getElem (by have := HN9.out; omega)⟩
            obtain ⟨g, rfl, _, _, hrow⟩ := HROW9.out (by omega)
            obtain ⟨A1, c1, hc⟩ := (hrow.below HI.out).cell hq
            have d0 := hc.c0; have d1 := hc.c1; have d2 := hc.c2; have d3 := hc.c3
            have hqm := HSUB2.out q (List.mem_of_getElem? hq)
            have hu := HSIM2.out.usedOf hqm
            have hr := HSIM2.out.readOf hqm
            have hh : hasB D2.s q.1.1 q.1.2 = true := by rw [HSIM2.out.sh]; exact HSIM2.out.has q hqm
            have hql := HSIM2.out.len q hqm
            obtain ⟨A5, c5, e5, _, hC⟩ := hc.row.reads
            injection e5 with e5 e6 e7
            subst e5 e7
            have k0 : (0 : Int) ≤ (i : Int) := by omega
            have k2 : (i : Int) < (n9 : Int) := by omega
            obtain ⟨⟨pa, pb⟩, pl, px⟩ := q
            simp only at d0 d1 d2 d3 hu hr hh hql hC
            obtain ⟨Y, hY⟩ : ∃ Y, Y = wr.alloc (.cells #[.int .i64 pa, .int .i64 pb, .slice A1 pl.length c1, .bool px] TP) := ⟨_, rfl⟩
            have y0 : Y.heap[wr.heap.size]? = some (.cells #[.int .i64 pa, .int .i64 pb, .slice A1 pl.length c1, .bool px] TP (0, 0)) := by rw [hY]; exact blk_new wr _
            have yb : Below wr.heap.size wr Y := by rw [hY]; exact below_alloc (Below.refl _ _) _
            have hrd := (hti.below yb).read pa pb hh
            rw [hr] at hrd
            have hus := fun (V : World) (hV : Below Y.heap.size Y V) => ((hti.below yb).below hV).used pa pb
            rw [hu] at hus
            have y1 : Y.cell? ⟨wr.heap.size, 0, none⟩ = some (.int .i64 pa) := bcell y0 0
            have y2 : Y.cell? ⟨wr.heap.size, 1, none⟩ = some (.int .i64 pb) := bcell y0 1
            have y3 : Y.cell? ⟨wr.heap.size, 2, none⟩ = some (.slice A1 pl.length c1) := bcell y0 2
            have HY := Lib.hid hY
            have Y0 := Lib.hid y0
            have HRD := Lib.hid hrd
            have HUS := Lib.hid hus
            have HCY := Aside0.mk (Kd.C_below hC yb)
            have HPL := Lib.hid (show pl.length < 1000000 by rw [hql]; have := HSO.out.c1; omega)
            have YB := Aside0.mk (HI.out.trans (yb.mono HI.out.size))
            clear hq hrow hc hqm hu hr hh hql hC hY y0 yb hrd hus hti
            go_wp2_with fail
            rw [← HY.out]
            go_wp2_with (first
              | (go_at_call 38; (with_reducible refine HRD.out.mono ?_); rintro e v3 ⟨B1, e1, rfl, hC, hb⟩; have HC1 := Aside0.mk hC; have hx3 := (hb.block wr.heap.size (blt Y0.out)).trans Y0.out; have g1 : v3.cell? ⟨wr.heap.size, 0, none⟩ = some (.int .i64 pa) := bcell hx3 0; have g2 : v3.cell? ⟨wr.heap.size, 1, none⟩ = some (.int .i64 pb) := bcell hx3 1; have g3 : v3.cell? ⟨wr.heap.size, 2, none⟩ = some (.slice A1 pl.length c1) := bcell hx3 2; have HC2 := Aside0.mk (Kd.C_below HCY.out hb); have HBV := Aside0.mk hb; clear hC hb hx3)
              | (go_at_call 39; (with_reducible refine (HUS.out _ HBV.out).mono ?_); rintro e v4 ⟨rfl, rfl⟩)
              | (go_at_call 19; (with_reducible refine (Bytes_any HC1.out HC2.out HPL.out HPL.out).mono ?_); rw [decide_eq_true rfl]; rintro e v5 ⟨rfl, hb⟩; have HB5 := Aside0.mk (HBV.out.trans (hb.mono HBV.out.size)); clear hb))
            exact ⟨⟨i + 1, by omega, by go_num, YB.out.trans (HB5.out.mono YB.out.size)⟩, by simp [intOf]; omega⟩
          · obtain rfl : i = n9 := by omega
            have hdt := fun (V : World) (hV : Below wr.heap.size wr V) => (hti.below hV).dirty
            rw [HD2.out] at hdt
            have HDT := Lib.hid hdt
            have HTI := Aside0.mk hti
            clear hdt hti
            go_wp2_with (first
              | (go_at_call 30; (with_reducible refine (Like_any HTI.out HSIM2.out HM2.out).mono ?_); rintro e v3 ⟨rfl, hb⟩; have HBV := Aside0.mk hb; clear hb)
              | (go_at_call 40; (with_reducible refine (HDT.out _ HBV.out).mono ?_); rintro e v4 ⟨rfl, rfl⟩))
            go_ret
            exact ⟨rfl, QB.out.trans (((HB4.out.trans (HI.out.mono HB4.out.size)).trans (HBV.out.mono (Nat.le_trans HB4.out.size HI.out.size))).mono QB.out.size)⟩
  · clear h0 h02 HMADE
    cases hf : fewB ds with
    | false =>
      have HF := Lib.hid hf
      clear hf hall
      go_enter Try.func8, Try.ntmps8
      go_wp2_with fail
      rw [← HW.out]
      go_wp2_with (first
        | (go_at_call 24; (with_reducible refine (Awake_any _).mono ?_); rintro e w1 ⟨rfl, hb⟩; have HB1 := Aside0.mk hb; clear hb)
        | (go_at_call 25; (with_reducible refine (HFEW.out _ HB1.out).mono ?_); rw [HF.out]; rintro e w2 ⟨rfl, hb⟩; have HB2 := Aside0.mk hb; clear hb))
      go_ret
      exact ⟨rfl, QB.out.trans (HB2.out.mono QB.out.size)⟩
    | true =>
      have HF := Lib.hid hf
      cases hf2 : fewB es with
      | false =>
        have HF2 := Lib.hid hf2
        clear hf hf2 hall
        go_enter Try.func8, Try.ntmps8
        go_wp2_with fail
        rw [← HW.out]
        go_wp2_with (first
          | (go_at_call 24; (with_reducible refine (Awake_any _).mono ?_); rintro e w1 ⟨rfl, hb⟩; have HB1 := Aside0.mk hb; clear hb)
          | (go_at_call 25; (with_reducible refine (HFEW.out _ HB1.out).mono ?_); rw [HF.out]; rintro e w2 ⟨rfl, hb⟩; have HB2 := Aside0.mk hb; clear hb)
          | (go_at_call 25; (with_reducible refine (HFEW2.out _ HB2.out).mono ?_); rw [HF2.out]; rintro e w3 ⟨rfl, hb⟩; obtain ⟨k1, k2, k3⟩ := HBOX.out _ hb; have HB3 := Aside0.mk hb; clear hb))
        go_ret
        exact ⟨rfl, QB.out.trans (HB3.out.mono QB.out.size)⟩
      | true =>
        have HF2 := Lib.hid hf2
        have hs : shapeB s = false := by
          cases h : shapeB s with
          | false => rfl
          | true => exact absurd ⟨hf, hf2, h⟩ hall
        have HS := Lib.hid hs
        clear hf hf2 hs hall
        go_enter Try.func8, Try.ntmps8
        go_wp2_with fail
        rw [← HW.out]
        go_wp2_with (first
          | (go_at_call 24; (with_reducible refine (Awake_any _).mono ?_); rintro e w1 ⟨rfl, hb⟩; have HB1 := Aside0.mk hb; clear hb)
          | (go_at_call 25; (with_reducible refine (HFEW.out _ HB1.out).mono ?_); rw [HF.out]; rintro e w2 ⟨rfl, hb⟩; have HB2 := Aside0.mk hb; clear hb)
          | (go_at_call 25; (with_reducible refine (HFEW2.out _ HB2.out).mono ?_); rw [HF2.out]; rintro e w3 ⟨rfl, hb⟩; obtain ⟨k1, k2, k3⟩ := HBOX.out _ hb; have HB3 := Aside0.mk hb; clear hb)
          | (go_at_call 26; (with_reducible refine (RShape_any _ _).mono ?_); rw [HS.out]; rintro e w4 ⟨rfl, hb⟩; have HB4 := Aside0.mk (HB3.out.trans (hb.mono HB3.out.size)); clear hb))
        go_ret
        exact ⟨rfl, QB.out.trans (HB4.out.mono QB.out.size)⟩
theorem flash_crashes_walk (a b c : Int) (A : Option Addr) (d : Nat) (ds : List DeedT) (k t u : Int) (B : Option Addr) (e : Nat) (es : List DeedT) (W : World) (_ : (Lit.int .i64 a).wf = true) (_ : (Lit.int .i64 b).wf = true) (_ : (Lit.int .i64 c).wf = true)
    (hr : DRow W A ds) (h0 : ds.length ≤ 9223372036854775807) (hp : ∀ d ∈ ds, PlanOk d.P) (hk : (Lit.int .u64 k).wf = true) (_ : (Lit.int .i64 t).wf = true) (_ : (Lit.int .i64 u).wf = true) (hr2 : DRow W B es) (h02 : es.length ≤ 9223372036854775807) (_ : ∀ d ∈ es, PlanOk d.P) :
    Calls Try.prog 8 #[.agg #[.int .i64 a, .int .i64 b, .int .i64 c], .slice A ds.length d, .agg #[.int .u64 k, .int .i64 t, .int .i64 u], .slice B es.length e] W fun e w' => e = .returned (.bool true) ∧ Below W.heap.size W w' := FlashCrashes_any (a, b, c) ⟨k, t, u⟩ (plan_of hk) hr h0 hp hr2 h02
end Go.Proofs.Ytkmanjfmffdcbaa.Fl
