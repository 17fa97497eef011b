/- Made: walked. No condition. -/
import Derived.Test.YtkmanjfmffdcbaaFlFew
namespace Go.Proofs.Ytkmanjfmffdcbaa.Fl
open Go.RowKit Go.Proofs.YtkmanjfmffdcbaaW.PrintWords Go.Proofs.YtkmanjfmffdcbaaW.PrintMore Go.Maps
set_option linter.unusedSimpArgs false
set_option linter.unusedVariables false
theorem Ref_new {w1 : World} {N0 : Nat} (s : Int × Int × Int) (h : N0 ≤ w1.heap.size) : RefIs N0 w1.heap.size s [] (fun k => w1.heap.size ≤ k) (w1.alloc (.cells #[.int .i64 s.1, .int .i64 s.2.1, .int .i64 s.2.2, .slice none 0 0] TX (0, 0))) :=
  ⟨h, Nat.le_refl _, .slice none 0 0, blk_new w1 _, Kd.R_nil _ _ _ _ _⟩
theorem Two_new {w0 w1 : World} {N0 p : Nat} (s : Int × Int × Int) (h0 : N0 ≤ w0.heap.size) (hD : DevIs N0 p ⟨s, [], []⟩ (fun k => w0.heap.size ≤ k) w1) (hb : Below w0.heap.size w0 w1) :
    Two (fun _ => False) N0 p w1.heap.size ⟨s, [], []⟩ s [] (w1.alloc (.cells #[.int .i64 s.1, .int .i64 s.2.1, .int .i64 s.2.2, .slice none 0 0] TX (0, 0))) := by
  have hs := hb.size
  refine ⟨_, _, (hD.bound).below (below_alloc (Below.refl _ _) _), Ref_new s (by omega), fun k h1 h2 => ?_, fun k h1 => h1.2.1, fun k h1 => ?_, ?_, fun k h1 => h1.elim⟩
  · have := h1.2.2; omega
  · omega
  · simp; omega
theorem rwP_len (s : Int × Int × Int) (ps : List Pg) (a b : Int) (l : List Int) : (rwP s ps a b l).length ≤ ps.length + 1 := by
  unfold rwP
  split <;> simp
set_option maxHeartbeats 4000000 in
set_option maxRecDepth 100000 in
theorem Made_any {w : World} {A : Option Addr} {c : Nat} {s : Int × Int × Int} {ds : List DeedT} (hs : shapeB s = true) (hr : DRow w A ds) (hf : ds.length ≤ 60) (hp : ∀ d ∈ ds, PlanOk d.P) :
    Calls Try.prog 29 #[.agg #[.int .i64 s.1, .int .i64 s.2.1, .int .i64 s.2.2], .slice A ds.length c] w fun e w' => ∃ p x D ps, e = .returned (.tuple #[.pointer (some ⟨p, 0, none⟩), .pointer (some ⟨x, 0, none⟩), .bool true]) ∧ Two (fun _ => False) w.heap.size p x D s ps w' ∧ Sim D s ps ∧ ps.length ≤ 60 ∧ Below w.heap.size w w' := by
  obtain ⟨n, hn⟩ : ∃ n, n = ds.length := ⟨_, rfl⟩
  have hnew : ∀ W : World, w.heap.size ≤ W.heap.size → Calls Try.prog 27 #[.agg #[.int .i64 s.1, .int .i64 s.2.1, .int .i64 s.2.2]] W fun e w' => ∃ p, e = .returned (.tuple #[.pointer (some ⟨p, 0, none⟩), .int .i64 0]) ∧ DevIs w.heap.size p ⟨s, [], []⟩ (fun k => W.heap.size ≤ k) w' ∧ Below W.heap.size W w' := fun W hW => New_ok s hs W _ hW
  have HR := Lib.hid hr
  have HN := Lib.hid hn
  have HS := Lib.hid (shapeB_ok hs)
  have HP := Lib.hid hp
  have HNEW := Lib.hid hnew
  rw [← hn] at hf
  rw [← hn]
  clear hr hn hs hp hnew
  obtain ⟨W, hW⟩ : ∃ W, W = w.alloc (.cells #[.int .i64 s.1, .int .i64 s.2.1, .int .i64 s.2.2] 46) := ⟨_, rfl⟩
  have q0 : W.heap[w.heap.size]? = some (.cells #[.int .i64 s.1, .int .i64 s.2.1, .int .i64 s.2.2] 46 (0, 0)) := by rw [hW]; exact blk_new w _
  have qb : Below w.heap.size w W := by rw [hW]; exact below_alloc (Below.refl _ _) _
  have k1 : W.cell? ⟨w.heap.size, 0, none⟩ = some (.int .i64 s.1) := bcell q0 0
  have k2 : W.cell? ⟨w.heap.size, 1, none⟩ = some (.int .i64 s.2.1) := bcell q0 1
  have k3 : W.cell? ⟨w.heap.size, 2, none⟩ = some (.int .i64 s.2.2) := bcell q0 2
  have HW := Lib.hid hW
  have Q0 := Lib.hid q0
  have QB := Aside0.mk qb
  clear hW q0 qb
  go_enter Try.func29, Try.ntmps29
  go_wp2_with fail
  rw [← HW.out]
  go_wp2_with (go_at_call 27; (with_reducible refine (HNEW.out _ QB.out.size).mono ?_); rintro e w1 ⟨p, rfl, hD, hb⟩; have k1 : w1.cell? ⟨w.heap.size, 0, none⟩ = some (.int .i64 s.1) := (hb.cell (p := ⟨w.heap.size, 0, none⟩) (blt Q0.out)).trans k1; have k2 : w1.cell? ⟨w.heap.size, 1, none⟩ = some (.int .i64 s.2.1) := (hb.cell (p := ⟨w.heap.size, 1, none⟩) (blt Q0.out)).trans k2; have k3 : w1.cell? ⟨w.heap.size, 2, none⟩ = some (.int .i64 s.2.2) := (hb.cell (p := ⟨w.heap.size, 2, none⟩) (blt Q0.out)).trans k3; have HD := Aside0.mk hD; have HB := Aside0.mk hb; clear hD hb)
  go_loopw [25] (fun v25 wr => ∃ (k : Nat) (D : PD) (ps : List Pg), k ≤ n ∧ v25 = .int .i64 (k : Int) ∧ Two (fun _ => False) w.heap.size p w1.heap.size D s ps wr ∧ Sim D s ps ∧ ps.length ≤ k ∧ Below w.heap.size w wr) (fun v25 _ => n - (intOf v25).toNat)
  case atStart => exact ⟨0, _, _, Nat.zero_le _, rfl, Two_new s QB.out.size HD.out HB.out, Sim.new s, Nat.le_refl _, (QB.out.trans (HB.out.mono QB.out.size)).alloc (Nat.le_trans QB.out.size HB.out.size) _⟩
  case round =>
    obtain ⟨k, D, ps, hk, rfl, ht, hsim, hl, hb⟩ := hrel
    have HT := Aside0.mk ht
    have HSIM := Aside0.mk hsim
    have HBB := Aside0.mk hb
    clear ht hsim hb
    by_cases hlt : k < n
    · obtain ⟨d, hd⟩ : ∃ d, ds[k]? = some d := ⟨_, List.getElem?_eq_getElem (by have := HN.out; omega)⟩
      obtain ⟨ad, A1, c1, hA, hc⟩ := HR.out k d hd
      have ROWW0 := Aside0.mk hc.row
      have hc := hc.below HBB.out
      subst hA
      have d0 := hc.c0; have d1 := hc.c1; have d2 := hc.c2; have d3 := hc.c3; have d4 := hc.c4; have d5 := hc.c5; have d6 := hc.c6
      have ROW := Aside0.mk hc.row
      have HDP := Lib.hid (HP.out d (List.mem_of_getElem? hd))
      have k0 : (0 : Int) ≤ (k : Int) := by omega
      have k2 : (k : Int) < (n : Int) := by omega
      clear hd hc
      obtain ⟨dop, da, db, dl, P⟩ := d
      simp only at d0 d1 d2 d3 d4 d5 d6 ROW HDP ROWW0
      obtain ⟨Y, hY⟩ : ∃ Y, Y = wr.alloc (.cells #[.int .i64 dop, .int .i64 da, .int .i64 db, .slice A1 dl.length c1, .int .u64 P.keep, .int .i64 P.torn, .int .i64 P.cut] 62) := ⟨_, rfl⟩
      have y0 : Y.heap[wr.heap.size]? = some (.cells #[.int .i64 dop, .int .i64 da, .int .i64 db, .slice A1 dl.length c1, .int .u64 P.keep, .int .i64 P.torn, .int .i64 P.cut] 62 (0, 0)) := by rw [hY]; exact blk_new wr _
      have yb : Below wr.heap.size wr Y := by rw [hY]; exact below_alloc (Below.refl _ _) _
      have hT2 := HT.out.keep yb
      have HY := Lib.hid hY
      have Y0 := Lib.hid y0
      have YB := Aside0.mk (HBB.out.trans (yb.mono HBB.out.size))
      have ROWY := Aside0.mk (Kd.C_below ROW.out yb)
      have HK := Lib.hid (show False ∨ (wr.heap.size ≤ wr.heap.size ∧ wr.heap.size < Y.heap.size) from .inr ⟨Nat.le_refl _, blt y0⟩)
      have HT2 := Aside0.mk hT2
      clear hY y0 yb hT2
      have HL := Lib.hid hl
      have HM := Lib.hid (show ps.length < 1000000 by omega)
      have HMD := Lib.hid (show D.dirty.length < 1000000 from Nat.lt_of_le_of_lt HSIM.out.dirtyLe HM.out)
      clear hl
      by_cases o1 : dop = 1
      · subst o1
        go_wp2_with fail
        rw [← HY.out]
        go_wp2_with (first
          | (go_at_call 31; (with_reducible refine (HT2.out.sync).mono ?_); rintro e w2 ⟨rfl, ht2, hb2, hk2⟩; have HT3 := Aside0.mk ht2; have HB3 := Aside0.mk hb2; clear ht2 hb2 hk2)
          | (go_at_call 32; (with_reducible refine (HT3.out.rsync HM.out).mono ?_); rintro e w3 ⟨rfl, ht2, hb2, hk2⟩; have HT4 := Aside0.mk ht2; have HB4 := Aside0.mk hb2; clear ht2 hb2 hk2))
        exact ⟨⟨k + 1, _, _, by omega, by go_num, HT4.out.free, HSIM.out.sync, by have := HL.out; simp [syncP]; omega, (YB.out.trans HB3.out).trans HB4.out⟩, by simp [intOf]; omega⟩
      · have e1 : (dop == 1) = false := by simpa using o1
        by_cases o2 : dop = 2
        · subst o2
          have hy0 := Y0.out
          have y0 : Y.cell? ⟨wr.heap.size, 0, none⟩ = some (.int .i64 2) := bcell hy0 0
          have y1 : Y.cell? ⟨wr.heap.size, 1, none⟩ = some (.int .i64 da) := bcell hy0 1
          have y2 : Y.cell? ⟨wr.heap.size, 2, none⟩ = some (.int .i64 db) := bcell hy0 2
          have y3 : Y.cell? ⟨wr.heap.size, 3, none⟩ = some (.slice A1 dl.length c1) := bcell hy0 3
          have y4 : Y.cell? ⟨wr.heap.size, 4, none⟩ = some (.int .u64 P.keep) := bcell hy0 4
          have y5 : Y.cell? ⟨wr.heap.size, 5, none⟩ = some (.int .i64 P.torn) := bcell hy0 5
          have y6 : Y.cell? ⟨wr.heap.size, 6, none⟩ = some (.int .i64 P.cut) := bcell hy0 6
          clear hy0
          cases hh : hasB s da 0 with
          | true =>
            have HH := Lib.hid hh
            have hcE := HT2.out.erase da HMD.out
            rw [eraseE, HSIM.out.sh, if_pos hh] at hcE
            have HCE := Lib.hid hcE
            clear hh hcE
            go_wp2_with fail
            rw [← HY.out]
            go_wp2_with (first
              | (go_at_call 41; (with_reducible refine (HCE.out).mono ?_); rintro e w2 ⟨rfl, ht2, hb2, hk2⟩; have hx2 := (hk2 wr.heap.size HK.out).trans Y0.out; have z1 : w2.cell? ⟨wr.heap.size, 1, none⟩ = some (.int .i64 da) := bcell hx2 1; have HX2 := Lib.hid hx2; have HT3 := Aside0.mk ht2; have HB3 := Aside0.mk hb2; clear ht2 hb2 hk2 hx2)
              | (go_at_call 65; (with_reducible refine (HT3.out.rhas da 0).mono ?_); rw [HH.out]; rintro e w4 ⟨rfl, rfl⟩)
              | (go_at_call 66; (with_reducible refine (HT3.out.rerase da HM.out).mono ?_); rintro e w3 ⟨rfl, ht2, hb2, hk2⟩; have HT4 := Aside0.mk ht2; have HB4 := Aside0.mk hb2; clear ht2 hb2 hk2))
            exact ⟨⟨k + 1, _, _, by omega, by go_num, HT4.out.free, HSIM.out.erase HT2.out.nodup da HH.out, by have := HL.out; exact Nat.le_trans (List.length_filter_le _ _) (by omega), (YB.out.trans HB3.out).trans HB4.out⟩, by simp [intOf]; omega⟩
          | false =>
            have HH := Lib.hid hh
            have hcE := HT2.out.erase da HMD.out
            rw [eraseE, erasedD, HSIM.out.sh, if_neg (by rw [hh]; decide), if_neg (by rw [hh]; decide)] at hcE
            have HCE := Lib.hid hcE
            clear hh hcE
            go_wp2_with fail
            rw [← HY.out]
            go_wp2_with (first
              | (go_at_call 41; (with_reducible refine (HCE.out).mono ?_); rintro e w2 ⟨rfl, ht2, hb2, hk2⟩; have hx2 := (hk2 wr.heap.size HK.out).trans Y0.out; have z1 : w2.cell? ⟨wr.heap.size, 1, none⟩ = some (.int .i64 da) := bcell hx2 1; have HX2 := Lib.hid hx2; have HT3 := Aside0.mk ht2; have HB3 := Aside0.mk hb2; clear ht2 hb2 hk2 hx2)
              | (go_at_call 65; (with_reducible refine (HT3.out.rhas da 0).mono ?_); rw [HH.out]; rintro e w4 ⟨rfl, rfl⟩))
            exact ⟨⟨k + 1, _, _, by omega, by go_num, HT3.out.free, HSIM.out, by have := HL.out; omega, YB.out.trans HB3.out⟩, by simp [intOf]; omega⟩
        · have e2 : (dop == 2) = false := by simpa using o2
          by_cases o3 : dop = 3
          · subst o3
            have hy0 := Y0.out
            have y0 : Y.cell? ⟨wr.heap.size, 0, none⟩ = some (.int .i64 3) := bcell hy0 0
            have y1 : Y.cell? ⟨wr.heap.size, 1, none⟩ = some (.int .i64 da) := bcell hy0 1
            have y2 : Y.cell? ⟨wr.heap.size, 2, none⟩ = some (.int .i64 db) := bcell hy0 2
            have y3 : Y.cell? ⟨wr.heap.size, 3, none⟩ = some (.slice A1 dl.length c1) := bcell hy0 3
            have y4 : Y.cell? ⟨wr.heap.size, 4, none⟩ = some (.int .u64 P.keep) := bcell hy0 4
            have y5 : Y.cell? ⟨wr.heap.size, 5, none⟩ = some (.int .i64 P.torn) := bcell hy0 5
            have y6 : Y.cell? ⟨wr.heap.size, 6, none⟩ = some (.int .i64 P.cut) := bcell hy0 6
            clear hy0
            go_wp2_with fail
            rw [← HY.out]
            go_wp2_with (first
              | (go_at_call 36; (with_reducible refine (HT2.out.crash P HDP.out HMD.out HSIM.out.dirtyNd HSIM.out.dirtyIn).mono ?_); rintro e w2 ⟨rfl, ht2, hb2, hk2⟩; have hx2 := (hk2 wr.heap.size HK.out).trans Y0.out; have z4 : w2.cell? ⟨wr.heap.size, 4, none⟩ = some (.int .u64 P.keep) := bcell hx2 4; have z5 : w2.cell? ⟨wr.heap.size, 5, none⟩ = some (.int .i64 P.torn) := bcell hx2 5; have z6 : w2.cell? ⟨wr.heap.size, 6, none⟩ = some (.int .i64 P.cut) := bcell hx2 6; have HT3 := Aside0.mk ht2; have HB3 := Aside0.mk hb2; clear ht2 hb2 hk2 hx2)
              | (go_at_call 37; (with_reducible refine (HT3.out.rcrash HS.out P HDP.out HM.out HSIM.out.len).mono ?_); rintro e w3 ⟨rfl, ht2, hb2, hk2⟩; have HT4 := Aside0.mk ht2; have HB4 := Aside0.mk hb2; clear ht2 hb2 hk2))
            exact ⟨⟨k + 1, _, _, by omega, by go_num, HT4.out.free, HSIM.out.crash HT2.out.nodup HS.out HDP.out, by have := HL.out; rw [rcTo_eq]; exact Nat.le_trans rcR_len (by omega), (YB.out.trans HB3.out).trans HB4.out⟩, by simp [intOf]; omega⟩
          · have e3 : (dop == 3) = false := by simpa using o3
            have hy0 := Y0.out
            have y0 : Y.cell? ⟨wr.heap.size, 0, none⟩ = some (.int .i64 dop) := bcell hy0 0
            have y1 : Y.cell? ⟨wr.heap.size, 1, none⟩ = some (.int .i64 da) := bcell hy0 1
            have y2 : Y.cell? ⟨wr.heap.size, 2, none⟩ = some (.int .i64 db) := bcell hy0 2
            have y3 : Y.cell? ⟨wr.heap.size, 3, none⟩ = some (.slice A1 dl.length c1) := bcell hy0 3
            have y4 : Y.cell? ⟨wr.heap.size, 4, none⟩ = some (.int .u64 P.keep) := bcell hy0 4
            have y5 : Y.cell? ⟨wr.heap.size, 5, none⟩ = some (.int .i64 P.torn) := bcell hy0 5
            have y6 : Y.cell? ⟨wr.heap.size, 6, none⟩ = some (.int .i64 P.cut) := bcell hy0 6
            have hwe := HSIM.out.writeE da db dl
            have HWE := Lib.hid hwe
            clear hy0 hwe o1 o2 o3
            have e4 : (rwE s ps da db dl != rwE s ps da db dl) = false := by simp
            have hT3 := HT2.out.drew
            have HTD := Aside0.mk hT3
            clear hT3
            go_wp2_with fail
            rw [← HY.out]
            go_region_held3 (fun w' => w'.cell? ⟨wr.heap.size, 1, none⟩ = some (.int .i64 da) ∧ w'.cell? ⟨wr.heap.size, 2, none⟩ = some (.int .i64 db) ∧ w'.cell? ⟨wr.heap.size, 3, none⟩ = some (.slice A1 dl.length c1)) (first | go_keep | exact ⟨z1, z2, z3⟩ | exact ⟨t1, t2, t3⟩)
              (first
                | (go_at_call 34; refine (HTD.out.write da db A1 c1 dl (Kd.C_drew ROWY.out) HMD.out).mono ?_; rw [HWE.out]; rintro e w2 ⟨rfl, ht2, hb2, hk2⟩; have hx2 := (hk2 wr.heap.size HK.out).trans Y0.out; have z1 : w2.cell? ⟨wr.heap.size, 1, none⟩ = some (.int .i64 da) := bcell hx2 1; have z2 : w2.cell? ⟨wr.heap.size, 2, none⟩ = some (.int .i64 db) := bcell hx2 2; have z3 : w2.cell? ⟨wr.heap.size, 3, none⟩ = some (.slice A1 dl.length c1) := bcell hx2 3; have HX2 := Lib.hid hx2; have HT3 := Aside0.mk ht2; have HB3 := Aside0.mk hb2; clear ht2 hb2 hk2 hx2)
                | (go_at_call 35; refine (HT3.out.rwrite HS.out da db A1 c1 dl (Kd.C_below ROWW0.out (YB.out.drew.trans HB3.out)) HM.out).mono ?_; rintro e w3 ⟨rfl, ht2, hb2, hk2⟩; have hx3 := (hk2 wr.heap.size HK.out).trans HX2.out; have t1 : w3.cell? ⟨wr.heap.size, 1, none⟩ = some (.int .i64 da) := bcell hx3 1; have t2 : w3.cell? ⟨wr.heap.size, 2, none⟩ = some (.int .i64 db) := bcell hx3 2; have t3 : w3.cell? ⟨wr.heap.size, 3, none⟩ = some (.slice A1 dl.length c1) := bcell hx3 3; have HT4 := Aside0.mk ht2; have HB4 := Aside0.mk hb2; clear ht2 hb2 hk2 hx3))
            go_wp2
            exact ⟨⟨k + 1, _, _, by omega, by go_num, HT4.out.free, HSIM.out.write da db dl, by have := HL.out; have := rwP_len s ps da db dl; omega, (YB.out.drew.trans HB3.out).trans HB4.out⟩, by simp [intOf]; omega⟩
    · obtain rfl : k = n := by omega
      go_wp2
      go_ret3
      exact ⟨_, _, D, ps, rfl, HT.out, HSIM.out, by omega, HBB.out⟩
end Go.Proofs.Ytkmanjfmffdcbaa.Fl
