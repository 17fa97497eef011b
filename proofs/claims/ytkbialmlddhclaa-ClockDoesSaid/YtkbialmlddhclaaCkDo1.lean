/- ClockDoes: walked. -/
import Derived.Test.YtkbialmlddhclaaCkGrow
import Derived.Test.YtkbialmlddhclaaCkCh0
namespace Go.Proofs.Ytkbialmlddhclaa.Ck
open Go.RowKit Go.Proofs.YtkbialmlddhclaaW.PrintWords Go.Proofs.YtkbialmlddhclaaW.PrintMore
set_option linter.unusedSimpArgs false
set_option linter.unusedVariables false
abbrev TDe : TypeId := 74
theorem own_ne {w : World} {base n : Nat} {v : Value} {cs : Array Value} {b : Nat} {T : TypeId} (h : ∃ inner, w.ownsRow base TI 1 v n inner) (hb : w.heap[b]? = some (.cells cs T (0, 0))) (e : some b = v.ownBlock) (hT : T ≠ TI := by decide) : False := by
  obtain ⟨inner, ho⟩ := h
  rcases ho.2 with ⟨rfl, _⟩ | ⟨g, cap, cur, rfl, _, hg, _⟩
  · cases e
  · injection e with e
    subst e
    rw [hb] at hg
    injection hg with hg
    injection hg with _ hg _
    exact hT hg
/-- A slice of deeds, its cells. -/
def DeRow (w : World) (A : Option Addr) (ds : List (Int × Int)) : Prop := ∀ (i : Nat) (d : Int × Int), ds[i]? = some d → ∃ ad, A = some ad ∧ w.cell? (ad.add (i * 2)) = some (.int .i64 d.1) ∧ w.cell? ⟨(ad.add (i * 2)).block, (ad.add (i * 2)).off + 1, none⟩ = some (.int .i64 d.2)
theorem DeRow.below {w w' : World} {A : Option Addr} {ds : List (Int × Int)} (h : DeRow w A ds) (hb : Below w.heap.size w w') : DeRow w' A ds := fun i d hi => by
  obtain ⟨ad, h1, h2, h3⟩ := h i d hi
  exact ⟨ad, h1, (hb.cell (World.block_lt_of_cell? w _ h2)).trans h2, (hb.cell (World.block_lt_of_cell? w _ h3)).trans h3⟩
/-- The state of the loop. -/
structure DoJ (w : World) (b5 k : Nat) (wr : World) (A6 : Option Addr) (c6 : Nat) (x : List Sit) (r : RG) : Prop where
  s : SRow wr w.heap.size (.slice A6 x.length c6) x
  v : VarR wr b5 r
  sim : SimC r x
  len : x.length ≤ k
  b : Below w.heap.size w wr
theorem stepX {o : Int} {x : List Sit} (k : Nat) (h : x.length ≤ k) : (touchX x o).length ≤ k + 1 ∧ (removeX x o).length ≤ k + 1 ∧ (addX x o).length ≤ k + 1 := by
  refine ⟨?_, ?_, ?_⟩
  · unfold touchX; split
    · rw [List.length_set]; omega
    · omega
  · unfold removeX; split
    · exact Nat.le_trans (List.length_eraseIdx_le _ _) (by omega)
    · omega
  · unfold addX; split
    · rw [List.length_append, List.length_singleton]; omega
    · omega
theorem SRow.at2 {X : World} {base g c k : Nat} {x : List Sit} {s : Sit} (h : SRow X base (.slice (some ⟨g, 0, none⟩) x.length c) x) (hs : x[k]? = some s) : X.cell? ⟨g, k * 2, none⟩ = some (.int .i64 s.1) ∧ X.cell? ⟨g, k * 2 + 1, none⟩ = some (.bool s.2) ∧ ∀ j, X.frozen? ⟨g, j, none⟩ = false := by
  obtain ⟨g', hA, _, h1, h2, h3⟩ := h.at_ rfl hs
  injection hA with hA
  injection hA with hA _ _
  subst hA
  exact ⟨h1, h2, h3⟩
set_option maxHeartbeats 20000000 in
set_option maxRecDepth 100000 in
theorem Does_big {w : World} {A : Option Addr} {n c : Nat} {ob : Int} (hn : 80 < n) (hn2 : n ≤ 9223372036854775807) :
    Calls Try.prog 9 #[.slice A n c, .int .i64 ob] w fun e w' => e = .returned (.bool true) ∧ Below w.heap.size w w' := by
  have e1 : decide ((80 : Int) < (n : Int)) = true := decide_eq_true (by omega)
  go_enter Try.func9, Try.ntmps9
  go_wp2_with (go_at_call 30; (with_reducible refine (Awake_any _).mono ?_); rintro e w1 ⟨rfl, hb⟩; have HB1 := Aside0.mk hb; clear hb)
  go_ret
  exact ⟨rfl, HB1.out⟩
set_option maxHeartbeats 20000000 in
set_option maxRecDepth 100000 in
theorem Does_any {w : World} {A : Option Addr} {c : Nat} {ds : List (Int × Int)} (hd : DeRow w A ds) (hn80 : ds.length ≤ 80) (o : Int) :
    Calls Try.prog 9 #[.slice A ds.length c, .int .i64 o] w fun e w' => e = .returned (.bool true) ∧ Below w.heap.size w w' := by
  obtain ⟨n, hnn⟩ : ∃ n, n = ds.length := ⟨_, rfl⟩
  have HC := Lib.hid (fun (X : World) (hX : Below w.heap.size w X) => hd.below hX)
  have HN := Lib.hid hnn
  rw [← hnn] at hn80
  rw [← hnn]
  have e1 : decide ((80 : Int) < (n : Int)) = false := decide_eq_false (by omega)
  clear hd hnn
  go_enter Try.func9, Try.ntmps9
  go_wp2_with (first
    | (go_at_call 30; (with_reducible refine (Awake_any _).mono ?_); rintro e w1 ⟨rfl, hb⟩; have HB1 := Aside0.mk hb; clear hb)
    | (go_at_call 31; (with_reducible refine (New_any _).mono ?_); rintro e w2 ⟨V2, rfl, ⟨v2, rfl, hr2, h2⟩, hb2⟩; have HR2 := Aside0.mk hr2; have HB2 := Aside0.mk (HB1.out.trans (hb2.mono HB1.out.size)); clear hr2 hb2)
    | ((with_reducible refine gate_store (t := TR) (p := 5) rfl ?_); refine wl_store rfl rfl rfl rfl HR2.out.one (blk_new _ _) rfl h2 ?_; intro Y0 hY hu; have HY0 := Lib.hid hY; have HU0 := Aside0.mk hu; clear hY hu))
  have hv0 : VarR Y0 w2.heap.size newR := VarR.stored (HR2.out.below (below_alloc (Below.refl _ _) _)) h2 (blk_new _ _) HY0.out HU0.out
  have hb0 : Below w.heap.size w Y0 := (below_alloc HB2.out _).trans (HU0.out.below (Nat.le_trans HB2.out.size (below_alloc (Below.refl _ w2) _).size) (fun j hj => by rw [hj]; exact HB2.out.size))
  have HJ0 := Lib.hid (show DoJ w w2.heap.size 0 Y0 none 0 [] newR from ⟨SRow.nil _ _, hv0, SimC.new, Nat.le_refl _, hb0⟩)
  have HB25 : w.heap.size ≤ w2.heap.size := HB2.out.size
  clear hv0 hb0 e1 HY0 HU0 HR2 HB1
  go_loopw [6, 27] (fun v6 v27 wr => ∃ (k : Nat) (A6 : Option Addr) (c6 : Nat) (x : List Sit) (r : RG), k ≤ n ∧ v27 = .int .i64 (k : Int) ∧ v6 = .slice A6 x.length c6 ∧ DoJ w w2.heap.size k wr A6 c6 x r) (fun _ v27 _ => n - (intOf v27).toNat)
  case atStart => exact ⟨0, none, 0, [], newR, Nat.zero_le _, rfl, rfl, HJ0.out⟩
  case round =>
    obtain ⟨k, A6, c6, x, r, hk, rfl, rfl, hJ⟩ := hrel
    have HJ := Lib.hid hJ
    clear hJ HJ0
    by_cases hlt : k < n
    · obtain ⟨⟨kd, ob⟩, hx⟩ : ∃ d, ds[k]? = some d := ⟨_, List.getElem?_eq_getElem (by have := HN.out; omega)⟩
      obtain ⟨ad, rfl, kc0, kc1⟩ := HC.out wr HJ.out.b k _ hx
      simp only at kc0 kc1
      have k0 : (0 : Int) ≤ (k : Int) := by omega
      have k1 : (k : Int) < (n : Int) := by omega
      clear hx
      obtain ⟨Y, hY⟩ : ∃ Y, Y = wr.alloc (.cells #[.int .i64 kd, .int .i64 ob] TDe) := ⟨_, rfl⟩
      have y0 : Y.heap[wr.heap.size]? = some (.cells #[.int .i64 kd, .int .i64 ob] TDe (0, 0)) := by rw [hY]; exact blk_new wr _
      have yb : Below wr.heap.size wr Y := by rw [hY]; exact below_alloc (Below.refl _ _) _
      have q0 : Y.cell? ⟨wr.heap.size, 0, none⟩ = some (.int .i64 kd) := bcell y0 0
      have q1 : Y.cell? ⟨wr.heap.size, 1, none⟩ = some (.int .i64 ob) := bcell y0 1
      have hSY := HJ.out.s.below yb
      have hlen := HJ.out.len
      have hxl : x.length ≤ 80 := by omega
      have hpl := Place_any hSY ob
      obtain ⟨P, hP⟩ : ∃ P, P = placeI ob x := ⟨_, rfl⟩
      rw [← hP] at hpl
      have HP := Lib.hid hP
      have HPL := Lib.hid hpl
      have HY := Lib.hid hY
      have Y0 := Lib.hid y0
      have YB := Aside0.mk yb
      have HSY := Aside0.mk hSY
      have hvY := HJ.out.v.below yb
      have HVY := Lib.hid hvY
      clear hY y0 yb hSY hpl hP hvY
      -- the walk up to Place
      by_cases o1 : kd = 1
      · subst o1
        by_cases hp : 0 ≤ P
        · obtain ⟨j, m, hj1, hj2, hj3⟩ := place_at (x := x) (o := ob) (by rw [← HP.out]; exact hp)
          obtain rfl : P = (j : Int) := by rw [HP.out, hj1]
          have p1 : decide ((0 : Int) ≤ (j : Int)) = true := decide_eq_true hp
          have p2 : (j : Int) < (x.length : Int) := by omega
          have p3 : decide ((j : Int) < 0) = false := decide_eq_false (by omega)

          obtain ⟨g, rfl, _, _, _, _⟩ := HSY.out.at_ rfl hj2
          have HJ2 := Lib.hid hj2
          have htx : touchX x ob = x.set j (ob, true) := by unfold touchX; rw [← HP.out, if_pos hp, Int.toNat_natCast]
          have HTX := Lib.hid htx
          clear hj1 hj2 htx
          go_wp2_with (first
            | (rw [← HY.out])
            | (go_at_call 48; (with_reducible refine HPL.out.mono ?_); rintro e w3 ⟨rfl, hb⟩; have hy3 := (hb.block _ (blt Y0.out)).trans Y0.out; have z0 : w3.cell? ⟨wr.heap.size, 0, none⟩ = some (.int .i64 1) := bcell hy3 0; have z1 : w3.cell? ⟨wr.heap.size, 1, none⟩ = some (.int .i64 ob) := bcell hy3 1; have HY3 := Lib.hid hy3; have HS3 := Aside0.mk (HSY.out.below hb); obtain ⟨v3, hg3, hr3, h163⟩ := HVY.out.below hb; have HG3 := Lib.hid hg3; have HR3 := Aside0.mk hr3; have HB3 := Aside0.mk ((HJ.out.b.trans (YB.out.mono HJ.out.b.size)).trans (hb.mono (Nat.le_trans HJ.out.b.size YB.out.size))); clear hy3 hg3 hr3 hb)
            | ((with_reducible refine gate_dst (N := 66) rfl ?_); refine wl_load rfl rfl rfl HG3.out h163 ?_)
            | (go_at_call 33; (with_reducible refine (Touch_any (RingIs.of HR3.out h163) ob (by rw [HJ.out.sim.len]; omega) HJ.out.sim.ok.rng).mono ?_); rintro e w4 ⟨V4, rfl, ⟨v4, rfl, hr4, h164⟩, hb4⟩; have HR4 := Aside0.mk hr4; have HB4 := Aside0.mk hb4; have u0 : w4.cell? ⟨wr.heap.size, 1, none⟩ = some (.int .i64 ob) := bcell ((hb4.block _ (blt HY3.out)).trans HY3.out) 1; clear hr4 hb4)
            | ((with_reducible refine gate_store (t := TR) (p := 5) rfl ?_); refine wl_store rfl rfl rfl rfl HR4.out.one ((HB4.out.block _ (blt HG3.out)).trans HG3.out) (ringC_size h163) h164 ?_; intro Y5 hY5 hu5; have hs5 := (HS3.out.below HB4.out).upd ((HB4.out.block _ (blt HG3.out)).trans HG3.out) (by decide) hu5; have HS5 := Aside0.mk hs5; have hv5 := VarR.stored HR4.out h164 ((HB4.out.block _ (blt HG3.out)).trans HG3.out) hY5 hu5; have HV5 := Lib.hid hv5; have HB5 := Aside0.mk ((HB3.out.trans (HB4.out.mono HB3.out.size)).trans (hu5.below (Nat.le_trans HB3.out.size HB4.out.size) (fun q hq => by rw [hq]; exact HB25))); obtain ⟨m1, m2, m3⟩ := hs5.at2 HJ2.out; have m4 := m3 (j * 2 + 1); clear hY5 hu5 hs5 hv5))
          obtain ⟨cur, hcur, hbg⟩ := HS5.out.blk (by omega)
          have hu6 := Upd.setCell Y5 (p := ⟨g, j * 2 + 1, none⟩) (S := fun q => q = g) rfl (.bool true)
          have hs6 := HS5.out.mark HJ2.out true
          refine ⟨⟨k + 1, some ⟨g, 0, none⟩, c6, touchX x ob, touchR r ob, by omega, by go_num, ?_, ⟨?_, HV5.out.upd hcur (by decide) (by decide) hu6, HJ.out.sim.touch ob, (stepX k HJ.out.len).1, HB5.out.trans (hu6.below HB5.out.size (fun q hq => by rw [hq]; exact hbg))⟩⟩, by simp [intOf]; omega⟩
          · rw [HTX.out, List.length_set]
          · rw [HTX.out, List.length_set]
            exact hs6
        · have p1 : decide (0 ≤ P) = false := decide_eq_false hp
          have htx : touchX x ob = x := by unfold touchX; rw [← HP.out, if_neg hp]
          have HTX := Lib.hid htx
          clear htx hp
          go_wp2_with (first
            | (rw [← HY.out])
            | (go_at_call 48; (with_reducible refine HPL.out.mono ?_); rintro e w3 ⟨rfl, hb⟩; have hy3 := (hb.block _ (blt Y0.out)).trans Y0.out; have z0 : w3.cell? ⟨wr.heap.size, 0, none⟩ = some (.int .i64 1) := bcell hy3 0; have z1 : w3.cell? ⟨wr.heap.size, 1, none⟩ = some (.int .i64 ob) := bcell hy3 1; have HY3 := Lib.hid hy3; have HS3 := Aside0.mk (HSY.out.below hb); obtain ⟨v3, hg3, hr3, h163⟩ := HVY.out.below hb; have HG3 := Lib.hid hg3; have HR3 := Aside0.mk hr3; have HB3 := Aside0.mk ((HJ.out.b.trans (YB.out.mono HJ.out.b.size)).trans (hb.mono (Nat.le_trans HJ.out.b.size YB.out.size))); clear hy3 hg3 hr3 hb)
            | ((with_reducible refine gate_dst (N := 66) rfl ?_); refine wl_load rfl rfl rfl HG3.out h163 ?_)
            | (go_at_call 33; (with_reducible refine (Touch_any (RingIs.of HR3.out h163) ob (by rw [HJ.out.sim.len]; omega) HJ.out.sim.ok.rng).mono ?_); rintro e w4 ⟨V4, rfl, ⟨v4, rfl, hr4, h164⟩, hb4⟩; have HR4 := Aside0.mk hr4; have HB4 := Aside0.mk hb4; have u0 : w4.cell? ⟨wr.heap.size, 1, none⟩ = some (.int .i64 ob) := bcell ((hb4.block _ (blt HY3.out)).trans HY3.out) 1; clear hr4 hb4)
            | ((with_reducible refine gate_store (t := TR) (p := 5) rfl ?_); refine wl_store rfl rfl rfl rfl HR4.out.one ((HB4.out.block _ (blt HG3.out)).trans HG3.out) (ringC_size h163) h164 ?_; intro Y5 hY5 hu5; have hs5 := (HS3.out.below HB4.out).upd ((HB4.out.block _ (blt HG3.out)).trans HG3.out) (by decide) hu5; have HS5 := Aside0.mk hs5; have hv5 := VarR.stored HR4.out h164 ((HB4.out.block _ (blt HG3.out)).trans HG3.out) hY5 hu5; have HV5 := Lib.hid hv5; have HB5 := Aside0.mk ((HB3.out.trans (HB4.out.mono HB3.out.size)).trans (hu5.below (Nat.le_trans HB3.out.size HB4.out.size) (fun q hq => by rw [hq]; exact HB25)));  clear hY5 hu5 hs5 hv5))
          exact ⟨⟨k + 1, A6, c6, touchX x ob, touchR r ob, by omega, by go_num, by rw [HTX.out], ⟨by rw [HTX.out]; exact HS5.out, HV5.out, HJ.out.sim.touch ob, (stepX k HJ.out.len).1, HB5.out⟩⟩, by simp [intOf]; omega⟩
      · have d1 : (kd == 1) = false := by simpa using o1
        by_cases o2 : kd = 2
        · subst o2
          by_cases hp : 0 ≤ P
          · obtain ⟨j, m, hj1, hj2, hj3⟩ := place_at (x := x) (o := ob) (by rw [← HP.out]; exact hp)
            obtain rfl : P = (j : Int) := by rw [HP.out, hj1]
            have p1 : decide ((0 : Int) ≤ (j : Int)) = true := decide_eq_true hp
            have p2 : (j : Int) < (x.length : Int) := by omega
            have p3 : decide ((j : Int) < 0) = false := decide_eq_false (by omega)

            have htx : removeX x ob = x.eraseIdx j := by unfold removeX; rw [← HP.out, if_pos hp, Int.toNat_natCast]
            have HTX := Lib.hid htx
            clear hj1 hj2 htx
            go_wp2_with (first
              | (rw [← HY.out])
              | (go_at_call 48; (with_reducible refine HPL.out.mono ?_); rintro e w3 ⟨rfl, hb⟩; have hy3 := (hb.block _ (blt Y0.out)).trans Y0.out; have z0 : w3.cell? ⟨wr.heap.size, 0, none⟩ = some (.int .i64 2) := bcell hy3 0; have z1 : w3.cell? ⟨wr.heap.size, 1, none⟩ = some (.int .i64 ob) := bcell hy3 1; have HY3 := Lib.hid hy3; have HS3 := Aside0.mk (HSY.out.below hb); obtain ⟨v3, hg3, hr3, h163⟩ := HVY.out.below hb; have HG3 := Lib.hid hg3; have HR3 := Aside0.mk hr3; have HB3 := Aside0.mk ((HJ.out.b.trans (YB.out.mono HJ.out.b.size)).trans (hb.mono (Nat.le_trans HJ.out.b.size YB.out.size))); clear hy3 hg3 hr3 hb)
              | ((with_reducible refine gate_dst (N := 78) rfl ?_); refine wl_load rfl rfl rfl HG3.out h163 ?_)
              | (go_at_call 49; (with_reducible refine (Remove_any (RingIs.of HR3.out h163) ob (by rw [HJ.out.sim.len]; omega) HJ.out.sim.ok.rng).mono ?_); rintro e w4 ⟨V4, rfl, ⟨v4, rfl, hr4, h164⟩, hb4⟩; have HR4 := Aside0.mk hr4; have HB4 := Aside0.mk hb4; have u0 : w4.cell? ⟨wr.heap.size, 1, none⟩ = some (.int .i64 ob) := bcell ((hb4.block _ (blt HY3.out)).trans HY3.out) 1; clear hr4 hb4)
              | ((with_reducible refine gate_store (t := TR) (p := 5) rfl ?_); refine wl_store rfl rfl rfl rfl HR4.out.one ((HB4.out.block _ (blt HG3.out)).trans HG3.out) (ringC_size h163) h164 ?_; intro Y5 hY5 hu5; have hs5 := (HS3.out.below HB4.out).upd ((HB4.out.block _ (blt HG3.out)).trans HG3.out) (by decide) hu5; have HS5 := Aside0.mk hs5; have hv5 := VarR.stored HR4.out h164 ((HB4.out.block _ (blt HG3.out)).trans HG3.out) hY5 hu5; have HV5 := Lib.hid hv5; have HB5 := Aside0.mk ((HB3.out.trans (HB4.out.mono HB3.out.size)).trans (hu5.below (Nat.le_trans HB3.out.size HB4.out.size) (fun q hq => by rw [hq]; exact HB25)));  clear hY5 hu5 hs5 hv5)
              | (go_at_call 50; (with_reducible refine (Without_any HS5.out hj3 (by omega)).mono ?_); rintro e w6 ⟨v6, rfl, hs6, hb6⟩; obtain ⟨A7, c7, hv7, -, -, -⟩ := hs6.cels; subst hv7; have HS6 := Aside0.mk hs6; have HB6 := Aside0.mk hb6; clear hs6 hb6))
            exact ⟨⟨k + 1, A7, c7, removeX x ob, removeR r ob, by omega, by go_num, by rw [HTX.out], ⟨by rw [HTX.out]; exact HS6.out.lower HB5.out.size, HV5.out.below HB6.out, HJ.out.sim.remove ob, (stepX k HJ.out.len).2.1, HB5.out.trans (HB6.out.mono HB5.out.size)⟩⟩, by simp [intOf]; omega⟩
          · have p1 : decide (0 ≤ P) = false := decide_eq_false hp
            have htx : removeX x ob = x := by unfold removeX; rw [← HP.out, if_neg hp]
            have HTX := Lib.hid htx
            clear htx hp
            go_wp2_with (first
              | (rw [← HY.out])
              | (go_at_call 48; (with_reducible refine HPL.out.mono ?_); rintro e w3 ⟨rfl, hb⟩; have hy3 := (hb.block _ (blt Y0.out)).trans Y0.out; have z0 : w3.cell? ⟨wr.heap.size, 0, none⟩ = some (.int .i64 2) := bcell hy3 0; have z1 : w3.cell? ⟨wr.heap.size, 1, none⟩ = some (.int .i64 ob) := bcell hy3 1; have HY3 := Lib.hid hy3; have HS3 := Aside0.mk (HSY.out.below hb); obtain ⟨v3, hg3, hr3, h163⟩ := HVY.out.below hb; have HG3 := Lib.hid hg3; have HR3 := Aside0.mk hr3; have HB3 := Aside0.mk ((HJ.out.b.trans (YB.out.mono HJ.out.b.size)).trans (hb.mono (Nat.le_trans HJ.out.b.size YB.out.size))); clear hy3 hg3 hr3 hb)
              | ((with_reducible refine gate_dst (N := 78) rfl ?_); refine wl_load rfl rfl rfl HG3.out h163 ?_)
              | (go_at_call 49; (with_reducible refine (Remove_any (RingIs.of HR3.out h163) ob (by rw [HJ.out.sim.len]; omega) HJ.out.sim.ok.rng).mono ?_); rintro e w4 ⟨V4, rfl, ⟨v4, rfl, hr4, h164⟩, hb4⟩; have HR4 := Aside0.mk hr4; have HB4 := Aside0.mk hb4; have u0 : w4.cell? ⟨wr.heap.size, 1, none⟩ = some (.int .i64 ob) := bcell ((hb4.block _ (blt HY3.out)).trans HY3.out) 1; clear hr4 hb4)
              | ((with_reducible refine gate_store (t := TR) (p := 5) rfl ?_); refine wl_store rfl rfl rfl rfl HR4.out.one ((HB4.out.block _ (blt HG3.out)).trans HG3.out) (ringC_size h163) h164 ?_; intro Y5 hY5 hu5; have hs5 := (HS3.out.below HB4.out).upd ((HB4.out.block _ (blt HG3.out)).trans HG3.out) (by decide) hu5; have HS5 := Aside0.mk hs5; have hv5 := VarR.stored HR4.out h164 ((HB4.out.block _ (blt HG3.out)).trans HG3.out) hY5 hu5; have HV5 := Lib.hid hv5; have HB5 := Aside0.mk ((HB3.out.trans (HB4.out.mono HB3.out.size)).trans (hu5.below (Nat.le_trans HB3.out.size HB4.out.size) (fun q hq => by rw [hq]; exact HB25)));  clear hY5 hu5 hs5 hv5))
            exact ⟨⟨k + 1, A6, c6, removeX x ob, removeR r ob, by omega, by go_num, by rw [HTX.out], ⟨by rw [HTX.out]; exact HS5.out, HV5.out, HJ.out.sim.remove ob, (stepX k HJ.out.len).2.1, HB5.out⟩⟩, by simp [intOf]; omega⟩
        · have d2 : (kd == 2) = false := by simpa using o2
          by_cases o3 : kd = 3
          · subst o3
            have hok := HJ.out.sim.ok
            have hrl := HJ.out.sim.len
            have hvi := fun (X : World) (v : Value) (hX : RowV X v r.row) => Victim_any (RingIs.of hX hok.m16) (by omega) hok
            unfold VicPost at hvi
            by_cases hx0 : x = []
            · have hr0 : r.row = [] := by rw [HJ.out.sim.row, hx0]; rfl
              have hw0 : vicW r = 0 := by unfold vicW; rw [if_pos hr0]
              have hn0 : vicN r = r := by unfold vicN; rw [if_pos hr0]
              have hb0 : (!r.row.isEmpty) = false := by rw [hr0]; rfl
              rw [hw0, hn0, hb0] at hvi
              have hl0 : x.length = 0 := by rw [hx0]; rfl
              have dl : ((x.length : Int) == 0) = true := by rw [hl0]; rfl
              have HVIC := Lib.hid (fun (X : World) {v : Value} (hX : RowV X v r.row) => hvi X v hX)
              clear hok hrl hvi hr0 hw0 hn0 hb0 hx0 hl0
              go_wp2_with (first
                | (rw [← HY.out])
                | (go_at_call 48; (with_reducible refine HPL.out.mono ?_); rintro e w3 ⟨rfl, hb⟩; have hy3 := (hb.block _ (blt Y0.out)).trans Y0.out; have z0 : w3.cell? ⟨wr.heap.size, 0, none⟩ = some (.int .i64 3) := bcell hy3 0; have z1 : w3.cell? ⟨wr.heap.size, 1, none⟩ = some (.int .i64 ob) := bcell hy3 1; have HY3 := Lib.hid hy3; have HS3 := Aside0.mk (HSY.out.below hb); obtain ⟨v3, hg3, hr3, h163⟩ := HVY.out.below hb; have HG3 := Lib.hid hg3; have HR3 := Aside0.mk hr3; have HB3 := Aside0.mk ((HJ.out.b.trans (YB.out.mono HJ.out.b.size)).trans (hb.mono (Nat.le_trans HJ.out.b.size YB.out.size))); clear hy3 hg3 hr3 hb)
                | ((with_reducible refine gate_dst (N := 90) rfl ?_); refine wl_load rfl rfl rfl HG3.out h163 ?_)
                | (go_at_call 35; (with_reducible refine (HVIC.out _ HR3.out).mono ?_); rintro e w4 ⟨V4, rfl, ⟨v4, rfl, hr4, h164⟩, hb4⟩; have HR4 := Aside0.mk hr4; have HB4 := Aside0.mk hb4; have HG4 := Lib.hid ((hb4.block _ (blt HG3.out)).trans HG3.out); have HR34 := Aside0.mk (HR3.out.below hb4); clear hr4 hb4)
                | ((with_reducible refine gate_store (t := TR) (p := 11) rfl ?_); refine wl_store rfl rfl rfl rfl HR4.out.one (blk_new _ _) rfl h164 ?_; intro Y7 hY7 hu7; have ha4 := below_alloc (Below.refl _ w4) ZR; have HY7 := Lib.hid hY7; have HR7 := Aside0.mk (row_stored (HR4.out.below ha4) (blk_new _ _) hu7); have HG7 := Lib.hid ((hu7.block _ (Nat.lt_of_lt_of_le (blt HG4.out) ha4.size) (by have := blt HG4.out; omega)).trans ((ha4.block _ (blt HG4.out)).trans HG4.out)); have HR37 := Aside0.mk (row_stored (HR34.out.below ha4) (blk_new _ _) hu7); have HS7 := Aside0.mk (((HS3.out.below HB4.out).below ha4).upd (blk_new _ _) (by decide) hu7); have HB7 := Aside0.mk ((below_alloc (HB3.out.trans (HB4.out.mono HB3.out.size)) ZR).trans (hu7.below (Nat.le_trans (Nat.le_trans HB3.out.size HB4.out.size) ha4.size) (fun q hq => by rw [hq]; exact Nat.le_trans HB3.out.size HB4.out.size))); clear hY7 hu7 ha4))
              refine ⟨⟨k + 1, A6, c6, x, r, by omega, by go_num, rfl, ⟨HS7.out, ⟨v3, HG7.out, HR37.out, h163⟩, HJ.out.sim, by have := HJ.out.len; omega, HB7.out⟩⟩, by simp [intOf]; omega⟩
            · have hrne : r.row ≠ [] := by
                rw [HJ.out.sim.row]
                intro he
                exact hx0 (List.map_eq_nil_iff.1 he)
              have hw0 : vicW r = (victR r).1 := by unfold vicW; rw [if_neg hrne]
              have hn0 : vicN r = (victR r).2 := by unfold vicN; rw [if_neg hrne]
              have hb0 : (!r.row.isEmpty) = true := by rw [isEmpty_false hrne]; rfl
              obtain ⟨W, hWW⟩ : ∃ W, W = (victR r).1 := ⟨_, rfl⟩
              rw [hw0, hn0, hb0, ← hWW] at hvi
              have hx1 : 0 < x.length := by
                cases hxx : x with
                | nil => exact absurd hxx hx0
                | cons a l => simp
              have dl : ((x.length : Int) == 0) = false := by simp; omega
              have HVIC := Lib.hid (fun (X : World) {v : Value} (hX : RowV X v r.row) => hvi X v hX)
              have HWW := Lib.hid hWW
              clear hok hrl hvi hrne hw0 hn0 hb0 hWW
              go_wp2_with (first
                | (rw [← HY.out])
                | (go_at_call 48; (with_reducible refine HPL.out.mono ?_); rintro e w3 ⟨rfl, hb⟩; have hy3 := (hb.block _ (blt Y0.out)).trans Y0.out; have z0 : w3.cell? ⟨wr.heap.size, 0, none⟩ = some (.int .i64 3) := bcell hy3 0; have z1 : w3.cell? ⟨wr.heap.size, 1, none⟩ = some (.int .i64 ob) := bcell hy3 1; have HY3 := Lib.hid hy3; have HS3 := Aside0.mk (HSY.out.below hb); obtain ⟨v3, hg3, hr3, h163⟩ := HVY.out.below hb; have HG3 := Lib.hid hg3; have HR3 := Aside0.mk hr3; have HB3 := Aside0.mk ((HJ.out.b.trans (YB.out.mono HJ.out.b.size)).trans (hb.mono (Nat.le_trans HJ.out.b.size YB.out.size))); clear hy3 hg3 hr3 hb)
                | ((with_reducible refine gate_dst (N := 90) rfl ?_); refine wl_load rfl rfl rfl HG3.out h163 ?_)
                | (go_at_call 35; (with_reducible refine (HVIC.out _ HR3.out).mono ?_); rintro e w4 ⟨V4, rfl, ⟨v4, rfl, hr4, h164⟩, hb4⟩; have HR4 := Aside0.mk hr4; have HB4 := Aside0.mk hb4; have HG4 := Lib.hid ((hb4.block _ (blt HG3.out)).trans HG3.out); have HR34 := Aside0.mk (HR3.out.below hb4); clear hr4 hb4)
                | ((with_reducible refine gate_store (t := TR) (p := 11) rfl ?_); refine wl_store rfl rfl rfl rfl HR4.out.one (blk_new _ _) rfl h164 ?_; intro Y7 hY7 hu7; have ha4 := below_alloc (Below.refl _ w4) ZR; have HY7 := Lib.hid hY7; have HR7 := Aside0.mk (row_stored (HR4.out.below ha4) (blk_new _ _) hu7); have HG7 := Lib.hid ((hu7.block _ (Nat.lt_of_lt_of_le (blt HG4.out) ha4.size) (by have := blt HG4.out; omega)).trans ((ha4.block _ (blt HG4.out)).trans HG4.out)); have HR37 := Aside0.mk (row_stored (HR34.out.below ha4) (blk_new _ _) hu7); have HS7 := Aside0.mk (((HS3.out.below HB4.out).below ha4).upd (blk_new _ _) (by decide) hu7); have HB7 := Aside0.mk ((below_alloc (HB3.out.trans (HB4.out.mono HB3.out.size)) ZR).trans (hu7.below (Nat.le_trans (Nat.le_trans HB3.out.size HB4.out.size) ha4.size) (fun q hq => by rw [hq]; exact Nat.le_trans HB3.out.size HB4.out.size))); clear hY7 hu7 ha4)
                | (go_at_call 51; (refine (RVictim_any HS7.out hx1 (by omega) HB7.out.size).mono ?_; rintro e w8 ⟨s, l, v8, hrv, rfl, hs8, hb8, hl8⟩; obtain ⟨A9, c9, hv9, -, -, -⟩ := hs8.cels; subst hv9; obtain ⟨hw1, hsim⟩ := HJ.out.sim.vict hrv hx0; have d9 : (W != s.1) = false := (by simp [HWW.out, hw1]); have HS8 := Aside0.mk hs8; have HB8 := Aside0.mk hb8; have HG8 := Lib.hid ((hb8.block _ (blt HG7.out)).trans HG7.out); have HY8 := Lib.hid ((hb8.block _ (blt HY7.out)).trans HY7.out); have HR8 := Aside0.mk (HR7.out.below hb8); have HSIM := Lib.hid hsim; have HL8 := Lib.hid hl8; clear hs8 hb8 hrv hw1 hsim hl8))
                | ((with_reducible refine gate_dst (N := 115) rfl ?_); refine wl_load rfl rfl rfl HY8.out h164 ?_)
                | ((with_reducible refine gate_store (t := TR) (p := 5) rfl ?_); refine wl_store rfl rfl rfl rfl HR8.out.one HG8.out (ringC_size h163) h164 ?_; intro Y9 hY9 hu9; have HV9 := Lib.hid (VarR.stored HR8.out h164 HG8.out hY9 hu9); have HS9 := Aside0.mk (HS8.out.upd HG8.out (by decide) hu9); have HB9 := Aside0.mk ((HB7.out.trans (HB8.out.mono HB7.out.size)).trans (hu9.below (Nat.le_trans HB7.out.size HB8.out.size) (fun q hq => by rw [hq]; exact HB25))); clear hY9 hu9))
              refine ⟨⟨k + 1, A9, c9, s :: l, (victR r).2, by omega, by go_num, by rw [List.length_cons], ⟨HS9.out, HV9.out, HSIM.out, by have := HJ.out.len; have := HL8.out; rw [List.length_cons]; omega, HB9.out⟩⟩, by simp [intOf]; omega⟩
          · have d3 : (kd == 3) = false := by simpa using o3
            by_cases hp : P < 0
            · have p1 : decide (P < 0) = true := decide_eq_true hp
              by_cases h1 : 0 ≤ ob
              · have p2 : decide (0 ≤ ob) = true := decide_eq_true h1
                by_cases h2 : ob ≤ 15
                · have p3 : decide (ob ≤ 15) = true := decide_eq_true h2
                  have htx : addX x ob = x ++ [(ob, false)] := by unfold addX; rw [← HP.out, if_pos ⟨hp, h1, h2⟩]
                  have HTX := Lib.hid htx
                  have c60 : x.length ≤ c6 := by
                    obtain ⟨A', c', hv, hc, _, _⟩ := HSY.out.cels
                    injection hv with e1 e2 e3
                    rw [e3]
                    exact hc
                  clear htx
                  go_wp2_with (first
                    | (rw [← HY.out])
                    | (go_at_call 48; (with_reducible refine HPL.out.mono ?_); rintro e w3 ⟨rfl, hb⟩; have hy3 := (hb.block _ (blt Y0.out)).trans Y0.out; have z0 : w3.cell? ⟨wr.heap.size, 0, none⟩ = some (.int .i64 kd) := bcell hy3 0; have z1 : w3.cell? ⟨wr.heap.size, 1, none⟩ = some (.int .i64 ob) := bcell hy3 1; have HY3 := Lib.hid hy3; have HS3 := Aside0.mk (HSY.out.below hb); obtain ⟨v3, hg3, hr3, h163⟩ := HVY.out.below hb; have HG3 := Lib.hid hg3; have HR3 := Aside0.mk hr3; have HB3 := Aside0.mk ((HJ.out.b.trans (YB.out.mono HJ.out.b.size)).trans (hb.mono (Nat.le_trans HJ.out.b.size YB.out.size))); clear hy3 hg3 hr3 hb)
                    | ((with_reducible refine gate_dst (N := 37) rfl ?_); refine wl_load rfl rfl rfl HG3.out h163 ?_)
                    | (go_at_call 32; (with_reducible refine (Add_any (RingIs.of HR3.out h163) ob (by rw [HJ.out.sim.len]; omega)).mono ?_); rintro e w4 ⟨V4, rfl, ⟨v4, rfl, hr4, h164⟩, hb4⟩; have HR4 := Aside0.mk hr4; have HB4 := Aside0.mk hb4; have u0 : w4.cell? ⟨wr.heap.size, 1, none⟩ = some (.int .i64 ob) := bcell ((hb4.block _ (blt HY3.out)).trans HY3.out) 1; clear hr4 hb4)
                    | ((with_reducible refine gate_store (t := TR) (p := 5) rfl ?_); refine wl_store rfl rfl rfl rfl HR4.out.one ((HB4.out.block _ (blt HG3.out)).trans HG3.out) (ringC_size h163) h164 ?_; intro Y5 hY5 hu5; have hs5 := (HS3.out.below HB4.out).upd ((HB4.out.block _ (blt HG3.out)).trans HG3.out) (by decide) hu5; have HS5 := Aside0.mk hs5; have hv5 := VarR.stored HR4.out h164 ((HB4.out.block _ (blt HG3.out)).trans HG3.out) hY5 hu5; have HV5 := Lib.hid hv5; have HB5 := Aside0.mk ((HB3.out.trans (HB4.out.mono HB3.out.size)).trans (hu5.below (Nat.le_trans HB3.out.size HB4.out.size) (fun q hq => by rw [hq]; exact HB25))); have u5 : Y5.cell? ⟨wr.heap.size, 1, none⟩ = some (.int .i64 ob) := bcell ((hu5.block _ (blt ((HB4.out.block _ (blt HY3.out)).trans HY3.out)) (fun e => by have := (HB4.out.block _ (blt HG3.out)).trans HG3.out; rw [← e, (HB4.out.block _ (blt HY3.out)).trans HY3.out] at this; injection this with this; injection this with _ this _; exact absurd this (by decide))).trans ((HB4.out.block _ (blt HY3.out)).trans HY3.out)) 1; clear hY5 hu5 hs5 hv5))
                  refine wp_region_held_drew (S := (fun w' => w'.cell? ⟨wr.heap.size, 1, none⟩ = some (.int .i64 ob))) (by kernel_rfl) ?_ (fun hHeld => ?_)
                  · exact u5
                  first | (refine wpAnyH_take (i := 0) (oi := ?o1) (v := ?v1) ?i1 (by kernel_rfl) (by kernel_rfl) (by kernel_rfl) ?q1 ?y1 (by assumption) ?r1; (case i1 => (simp only [List.getElem?_toArray, List.getElem?_cons_succ, List.getElem?_cons_zero]; rfl)); (case q1 => exact fun _ _ _ h => h); (case y1 => (refine Or.inl ⟨by rfl, ?_⟩; intro w hSw; (try dsimp only at hSw); go_simp; (try (with_reducible rfl))))) | (refine wpAnyH_take (i := 0) (oi := ?o2) (v := undef) ?i2 (by kernel_rfl) (by kernel_rfl) (by kernel_rfl) ?q2 ?y2 (by assumption) ?r2; (case i2 => (simp only [List.getElem?_toArray, List.getElem?_cons_succ, List.getElem?_cons_zero]; rfl)); (case q2 => exact fun _ _ _ h => h); (case y2 => exact Or.inr ⟨by rfl, rfl⟩))
                  try simp only [Act.put, List.setIfInBounds_toArray, List.set_cons_zero, List.set_cons_succ]
                  first | (refine wpAnyH_take (i := 1) (oi := ?o3) (v := ?v3) ?i3 (by kernel_rfl) (by kernel_rfl) (by kernel_rfl) ?q3 ?y3 (by assumption) ?r3; (case i3 => (simp only [List.getElem?_toArray, List.getElem?_cons_succ, List.getElem?_cons_zero]; rfl)); (case q3 => exact fun _ _ _ h => h); (case y3 => (refine Or.inl ⟨by rfl, ?_⟩; intro w hSw; (try dsimp only at hSw); go_simp; (try (with_reducible rfl))))) | (refine wpAnyH_take (i := 1) (oi := ?o4) (v := undef) ?i4 (by kernel_rfl) (by kernel_rfl) (by kernel_rfl) ?q4 ?y4 (by assumption) ?r4; (case i4 => (simp only [List.getElem?_toArray, List.getElem?_cons_succ, List.getElem?_cons_zero]; rfl)); (case q4 => exact fun _ _ _ h => h); (case y4 => exact Or.inr ⟨by rfl, rfl⟩))
                  try simp only [Act.put, List.setIfInBounds_toArray, List.set_cons_zero, List.set_cons_succ]
                  first | (refine wpAnyH_take (i := 2) (oi := ?o5) (v := ?v5) ?i5 (by kernel_rfl) (by kernel_rfl) (by kernel_rfl) ?q5 ?y5 (by assumption) ?r5; (case i5 => (simp only [List.getElem?_toArray, List.getElem?_cons_succ, List.getElem?_cons_zero]; rfl)); (case q5 => exact fun _ _ _ h => h); (case y5 => (refine Or.inl ⟨by rfl, ?_⟩; intro w hSw; (try dsimp only at hSw); go_simp; (try (with_reducible rfl))))) | (refine wpAnyH_take (i := 2) (oi := ?o6) (v := undef) ?i6 (by kernel_rfl) (by kernel_rfl) (by kernel_rfl) ?q6 ?y6 (by assumption) ?r6; (case i6 => (simp only [List.getElem?_toArray, List.getElem?_cons_succ, List.getElem?_cons_zero]; rfl)); (case q6 => exact fun _ _ _ h => h); (case y6 => exact Or.inr ⟨by rfl, rfl⟩))
                  try simp only [Act.put, List.setIfInBounds_toArray, List.set_cons_zero, List.set_cons_succ]
                  first | (refine wpAnyH_take (i := 3) (oi := ?o7) (v := ?v7) ?i7 (by kernel_rfl) (by kernel_rfl) (by kernel_rfl) ?q7 ?y7 (by assumption) ?r7; (case i7 => (simp only [List.getElem?_toArray, List.getElem?_cons_succ, List.getElem?_cons_zero]; rfl)); (case q7 => exact fun _ _ _ h => h); (case y7 => (refine Or.inl ⟨by rfl, ?_⟩; intro w hSw; (try dsimp only at hSw); go_simp; (try (with_reducible rfl))))) | (refine wpAnyH_take (i := 3) (oi := ?o8) (v := undef) ?i8 (by kernel_rfl) (by kernel_rfl) (by kernel_rfl) ?q8 ?y8 (by assumption) ?r8; (case i8 => (simp only [List.getElem?_toArray, List.getElem?_cons_succ, List.getElem?_cons_zero]; rfl)); (case q8 => exact fun _ _ _ h => h); (case y8 => exact Or.inr ⟨by rfl, rfl⟩))
                  try simp only [Act.put, List.setIfInBounds_toArray, List.set_cons_zero, List.set_cons_succ]
                  first | (refine wpAnyH_take (i := 4) (oi := ?o9) (v := ?v9) ?i9 (by kernel_rfl) (by kernel_rfl) (by kernel_rfl) ?q9 ?y9 (by assumption) ?r9; (case i9 => (simp only [List.getElem?_toArray, List.getElem?_cons_succ, List.getElem?_cons_zero]; rfl)); (case q9 => exact fun _ _ _ h => h); (case y9 => (refine Or.inl ⟨by rfl, ?_⟩; intro w hSw; (try dsimp only at hSw); go_simp; (try (with_reducible rfl))))) | (refine wpAnyH_take (i := 4) (oi := ?o10) (v := undef) ?i10 (by kernel_rfl) (by kernel_rfl) (by kernel_rfl) ?q10 ?y10 (by assumption) ?r10; (case i10 => (simp only [List.getElem?_toArray, List.getElem?_cons_succ, List.getElem?_cons_zero]; rfl)); (case q10 => exact fun _ _ _ h => h); (case y10 => exact Or.inr ⟨by rfl, rfl⟩))
                  try simp only [Act.put, List.setIfInBounds_toArray, List.set_cons_zero, List.set_cons_succ]
                  first | (refine wpAnyH_take (i := 5) (oi := ?o11) (v := ?v11) ?i11 (by kernel_rfl) (by kernel_rfl) (by kernel_rfl) ?q11 ?y11 (by assumption) ?r11; (case i11 => (simp only [List.getElem?_toArray, List.getElem?_cons_succ, List.getElem?_cons_zero]; rfl)); (case q11 => exact fun _ _ _ h => h); (case y11 => (refine Or.inl ⟨by rfl, ?_⟩; intro w hSw; (try dsimp only at hSw); go_simp; (try (with_reducible rfl))))) | (refine wpAnyH_take (i := 5) (oi := ?o12) (v := undef) ?i12 (by kernel_rfl) (by kernel_rfl) (by kernel_rfl) ?q12 ?y12 (by assumption) ?r12; (case i12 => (simp only [List.getElem?_toArray, List.getElem?_cons_succ, List.getElem?_cons_zero]; rfl)); (case q12 => exact fun _ _ _ h => h); (case y12 => exact Or.inr ⟨by rfl, rfl⟩))
                  try simp only [Act.put, List.setIfInBounds_toArray, List.set_cons_zero, List.set_cons_succ]
                  first | (refine wpAnyH_take (i := 6) (oi := ?o13) (v := ?v13) ?i13 (by kernel_rfl) (by kernel_rfl) (by kernel_rfl) ?q13 ?y13 (by assumption) ?r13; (case i13 => (simp only [List.getElem?_toArray, List.getElem?_cons_succ, List.getElem?_cons_zero]; rfl)); (case q13 => exact fun _ _ _ h => h); (case y13 => (refine Or.inl ⟨by rfl, ?_⟩; intro w hSw; (try dsimp only at hSw); go_simp; (try (with_reducible rfl))))) | (refine wpAnyH_take (i := 6) (oi := ?o14) (v := undef) ?i14 (by kernel_rfl) (by kernel_rfl) (by kernel_rfl) ?q14 ?y14 (by assumption) ?r14; (case i14 => (simp only [List.getElem?_toArray, List.getElem?_cons_succ, List.getElem?_cons_zero]; rfl)); (case q14 => exact fun _ _ _ h => h); (case y14 => exact Or.inr ⟨by rfl, rfl⟩))
                  try simp only [Act.put, List.setIfInBounds_toArray, List.set_cons_zero, List.set_cons_succ]
                  first | (refine wpAnyH_take (i := 7) (oi := ?o15) (v := ?v15) ?i15 (by kernel_rfl) (by kernel_rfl) (by kernel_rfl) ?q15 ?y15 (by assumption) ?r15; (case i15 => (simp only [List.getElem?_toArray, List.getElem?_cons_succ, List.getElem?_cons_zero]; rfl)); (case q15 => exact fun _ _ _ h => h); (case y15 => (refine Or.inl ⟨by rfl, ?_⟩; intro w hSw; (try dsimp only at hSw); go_simp; (try (with_reducible rfl))))) | (refine wpAnyH_take (i := 7) (oi := ?o16) (v := undef) ?i16 (by kernel_rfl) (by kernel_rfl) (by kernel_rfl) ?q16 ?y16 (by assumption) ?r16; (case i16 => (simp only [List.getElem?_toArray, List.getElem?_cons_succ, List.getElem?_cons_zero]; rfl)); (case q16 => exact fun _ _ _ h => h); (case y16 => exact Or.inr ⟨by rfl, rfl⟩))
                  try simp only [Act.put, List.setIfInBounds_toArray, List.set_cons_zero, List.set_cons_succ]
                  first | (refine wpAnyH_take (i := 8) (oi := ?o17) (v := ?v17) ?i17 (by kernel_rfl) (by kernel_rfl) (by kernel_rfl) ?q17 ?y17 (by assumption) ?r17; (case i17 => (simp only [List.getElem?_toArray, List.getElem?_cons_succ, List.getElem?_cons_zero]; rfl)); (case q17 => exact fun _ _ _ h => h); (case y17 => (refine Or.inl ⟨by rfl, ?_⟩; intro w hSw; (try dsimp only at hSw); go_simp; (try (with_reducible rfl))))) | (refine wpAnyH_take (i := 8) (oi := ?o18) (v := undef) ?i18 (by kernel_rfl) (by kernel_rfl) (by kernel_rfl) ?q18 ?y18 (by assumption) ?r18; (case i18 => (simp only [List.getElem?_toArray, List.getElem?_cons_succ, List.getElem?_cons_zero]; rfl)); (case q18 => exact fun _ _ _ h => h); (case y18 => exact Or.inr ⟨by rfl, rfl⟩))
                  try simp only [Act.put, List.setIfInBounds_toArray, List.set_cons_zero, List.set_cons_succ]
                  refine wpAnyH_ready (rs := [9]) (by kernel_rfl) (by simp) ?_
                  refine (AllReadyH.cons (by (simp only [List.getElem?_toArray, List.getElem?_cons_succ, List.getElem?_cons_zero]; rfl)) (fun K hK => ?_) AllReadyH.nil)
                  go_simp
                  (try dsimp only)
                  refine hK.out _ _ ?_ (fun hHeld => ?_)
                  · exact below_cell hHeld _
                  clear hK K
                  try simp only [Act.put, List.setIfInBounds_toArray, List.set_cons_zero, List.set_cons_succ]
                  refine wpAnyH_ready (rs := [10]) (by kernel_rfl) (by simp) ?_
                  refine (AllReadyH.cons (by (simp only [List.getElem?_toArray, List.getElem?_cons_succ, List.getElem?_cons_zero]; rfl)) (fun K hK => ?_) AllReadyH.nil)
                  (refine st_grow (by rfl) rfl (HS5.out.below (show Below Y5.heap.size Y5 (Y5.drew.alloc (.cells #[.int .i64 ob, .bool false] TS)) from below_alloc (Below.refl _ _).drew _)) rfl rfl rfl (blk_new Y5.drew _) (by omega) ?_; intro v6 Y6 hs6 hb6; obtain ⟨A7, c7, hv7, -, -, -⟩ := hs6.cels; subst hv7; have HS6 := Aside0.mk hs6; have HB6 := Aside0.mk hb6; clear hs6 hb6)
                  (try dsimp only)
                  refine hK.out _ _ ?_ (fun hHeld => ?_)
                  · exact (HB6.out.cell (p := ⟨wr.heap.size, 1, none⟩) (World.block_lt_of_cell? _ _ hHeld)).trans hHeld
                  clear hK K
                  try simp only [Act.put, List.setIfInBounds_toArray, List.set_cons_zero, List.set_cons_succ]
                  first | (refine wpAnyH_take (i := 11) (oi := ?o19) (v := ?v19) ?i19 (by kernel_rfl) (by kernel_rfl) (by kernel_rfl) ?q19 ?y19 (by assumption) ?r19; (case i19 => (simp only [List.getElem?_toArray, List.getElem?_cons_succ, List.getElem?_cons_zero]; rfl)); (case q19 => exact fun _ _ _ h => h); (case y19 => (refine Or.inl ⟨by rfl, ?_⟩; intro w hSw; (try dsimp only at hSw); go_simp; (try (with_reducible rfl))))) | (refine wpAnyH_take (i := 11) (oi := ?o20) (v := undef) ?i20 (by kernel_rfl) (by kernel_rfl) (by kernel_rfl) ?q20 ?y20 (by assumption) ?r20; (case i20 => (simp only [List.getElem?_toArray, List.getElem?_cons_succ, List.getElem?_cons_zero]; rfl)); (case q20 => exact fun _ _ _ h => h); (case y20 => exact Or.inr ⟨by rfl, rfl⟩))
                  try simp only [Act.put, List.setIfInBounds_toArray, List.set_cons_zero, List.set_cons_succ]
                  refine wpAnyH_done (by kernel_rfl) ?_ _
                  go_wp2
                  have hba : Below Y5.heap.size Y5 Y6 := (show Below Y5.heap.size Y5 (Y5.drew.alloc (.cells #[.int .i64 ob, .bool false] TS)) from below_alloc (Below.refl _ _).drew _).trans (HB6.out.mono (below_alloc (Below.refl _ Y5).drew _).size)
                  exact ⟨⟨k + 1, A7, c7, addX x ob, addR r ob, by omega, by go_num, by rw [HTX.out, List.length_append]; rfl, ⟨by rw [HTX.out]; exact HS6.out.lower (Nat.le_trans HB5.out.size (below_alloc (Below.refl _ Y5).drew _).size), HV5.out.below hba, HJ.out.sim.add ob, (stepX k HJ.out.len).2.2, HB5.out.trans (hba.mono HB5.out.size)⟩⟩, by simp [intOf]; omega⟩
                · have p3 : decide (ob ≤ 15) = false := decide_eq_false h2
                  have htx : addX x ob = x := by unfold addX; rw [← HP.out, if_neg (by omega)]
                  have HTX := Lib.hid htx
                  clear htx
                  go_wp2_with (first
                    | (rw [← HY.out])
                    | (go_at_call 48; (with_reducible refine HPL.out.mono ?_); rintro e w3 ⟨rfl, hb⟩; have hy3 := (hb.block _ (blt Y0.out)).trans Y0.out; have z0 : w3.cell? ⟨wr.heap.size, 0, none⟩ = some (.int .i64 kd) := bcell hy3 0; have z1 : w3.cell? ⟨wr.heap.size, 1, none⟩ = some (.int .i64 ob) := bcell hy3 1; have HY3 := Lib.hid hy3; have HS3 := Aside0.mk (HSY.out.below hb); obtain ⟨v3, hg3, hr3, h163⟩ := HVY.out.below hb; have HG3 := Lib.hid hg3; have HR3 := Aside0.mk hr3; have HB3 := Aside0.mk ((HJ.out.b.trans (YB.out.mono HJ.out.b.size)).trans (hb.mono (Nat.le_trans HJ.out.b.size YB.out.size))); clear hy3 hg3 hr3 hb)
                    | ((with_reducible refine gate_dst (N := 37) rfl ?_); refine wl_load rfl rfl rfl HG3.out h163 ?_)
                    | (go_at_call 32; (with_reducible refine (Add_any (RingIs.of HR3.out h163) ob (by rw [HJ.out.sim.len]; omega)).mono ?_); rintro e w4 ⟨V4, rfl, ⟨v4, rfl, hr4, h164⟩, hb4⟩; have HR4 := Aside0.mk hr4; have HB4 := Aside0.mk hb4; have u0 : w4.cell? ⟨wr.heap.size, 1, none⟩ = some (.int .i64 ob) := bcell ((hb4.block _ (blt HY3.out)).trans HY3.out) 1; clear hr4 hb4)
                    | ((with_reducible refine gate_store (t := TR) (p := 5) rfl ?_); refine wl_store rfl rfl rfl rfl HR4.out.one ((HB4.out.block _ (blt HG3.out)).trans HG3.out) (ringC_size h163) h164 ?_; intro Y5 hY5 hu5; have hs5 := (HS3.out.below HB4.out).upd ((HB4.out.block _ (blt HG3.out)).trans HG3.out) (by decide) hu5; have HS5 := Aside0.mk hs5; have hv5 := VarR.stored HR4.out h164 ((HB4.out.block _ (blt HG3.out)).trans HG3.out) hY5 hu5; have HV5 := Lib.hid hv5; have HB5 := Aside0.mk ((HB3.out.trans (HB4.out.mono HB3.out.size)).trans (hu5.below (Nat.le_trans HB3.out.size HB4.out.size) (fun q hq => by rw [hq]; exact HB25))); have u5 : Y5.cell? ⟨wr.heap.size, 1, none⟩ = some (.int .i64 ob) := bcell ((hu5.block _ (blt ((HB4.out.block _ (blt HY3.out)).trans HY3.out)) (fun e => by have := (HB4.out.block _ (blt HG3.out)).trans HG3.out; rw [← e, (HB4.out.block _ (blt HY3.out)).trans HY3.out] at this; injection this with this; injection this with _ this _; exact absurd this (by decide))).trans ((HB4.out.block _ (blt HY3.out)).trans HY3.out)) 1; clear hY5 hu5 hs5 hv5))
                  exact ⟨⟨k + 1, A6, c6, addX x ob, addR r ob, by omega, by go_num, by rw [HTX.out], ⟨by rw [HTX.out]; exact HS5.out, HV5.out, HJ.out.sim.add ob, (stepX k HJ.out.len).2.2, HB5.out⟩⟩, by simp [intOf]; omega⟩
              · have p2 : decide (0 ≤ ob) = false := decide_eq_false h1
                have htx : addX x ob = x := by unfold addX; rw [← HP.out, if_neg (by omega)]
                have HTX := Lib.hid htx
                clear htx
                go_wp2_with (first
                  | (rw [← HY.out])
                  | (go_at_call 48; (with_reducible refine HPL.out.mono ?_); rintro e w3 ⟨rfl, hb⟩; have hy3 := (hb.block _ (blt Y0.out)).trans Y0.out; have z0 : w3.cell? ⟨wr.heap.size, 0, none⟩ = some (.int .i64 kd) := bcell hy3 0; have z1 : w3.cell? ⟨wr.heap.size, 1, none⟩ = some (.int .i64 ob) := bcell hy3 1; have HY3 := Lib.hid hy3; have HS3 := Aside0.mk (HSY.out.below hb); obtain ⟨v3, hg3, hr3, h163⟩ := HVY.out.below hb; have HG3 := Lib.hid hg3; have HR3 := Aside0.mk hr3; have HB3 := Aside0.mk ((HJ.out.b.trans (YB.out.mono HJ.out.b.size)).trans (hb.mono (Nat.le_trans HJ.out.b.size YB.out.size))); clear hy3 hg3 hr3 hb)
                  | ((with_reducible refine gate_dst (N := 37) rfl ?_); refine wl_load rfl rfl rfl HG3.out h163 ?_)
                  | (go_at_call 32; (with_reducible refine (Add_any (RingIs.of HR3.out h163) ob (by rw [HJ.out.sim.len]; omega)).mono ?_); rintro e w4 ⟨V4, rfl, ⟨v4, rfl, hr4, h164⟩, hb4⟩; have HR4 := Aside0.mk hr4; have HB4 := Aside0.mk hb4; have u0 : w4.cell? ⟨wr.heap.size, 1, none⟩ = some (.int .i64 ob) := bcell ((hb4.block _ (blt HY3.out)).trans HY3.out) 1; clear hr4 hb4)
                  | ((with_reducible refine gate_store (t := TR) (p := 5) rfl ?_); refine wl_store rfl rfl rfl rfl HR4.out.one ((HB4.out.block _ (blt HG3.out)).trans HG3.out) (ringC_size h163) h164 ?_; intro Y5 hY5 hu5; have hs5 := (HS3.out.below HB4.out).upd ((HB4.out.block _ (blt HG3.out)).trans HG3.out) (by decide) hu5; have HS5 := Aside0.mk hs5; have hv5 := VarR.stored HR4.out h164 ((HB4.out.block _ (blt HG3.out)).trans HG3.out) hY5 hu5; have HV5 := Lib.hid hv5; have HB5 := Aside0.mk ((HB3.out.trans (HB4.out.mono HB3.out.size)).trans (hu5.below (Nat.le_trans HB3.out.size HB4.out.size) (fun q hq => by rw [hq]; exact HB25))); have u5 : Y5.cell? ⟨wr.heap.size, 1, none⟩ = some (.int .i64 ob) := bcell ((hu5.block _ (blt ((HB4.out.block _ (blt HY3.out)).trans HY3.out)) (fun e => by have := (HB4.out.block _ (blt HG3.out)).trans HG3.out; rw [← e, (HB4.out.block _ (blt HY3.out)).trans HY3.out] at this; injection this with this; injection this with _ this _; exact absurd this (by decide))).trans ((HB4.out.block _ (blt HY3.out)).trans HY3.out)) 1; clear hY5 hu5 hs5 hv5))
                exact ⟨⟨k + 1, A6, c6, addX x ob, addR r ob, by omega, by go_num, by rw [HTX.out], ⟨by rw [HTX.out]; exact HS5.out, HV5.out, HJ.out.sim.add ob, (stepX k HJ.out.len).2.2, HB5.out⟩⟩, by simp [intOf]; omega⟩
            · have p1 : decide (P < 0) = false := decide_eq_false hp
              have htx : addX x ob = x := by unfold addX; rw [← HP.out, if_neg (by omega)]
              have HTX := Lib.hid htx
              clear htx
              go_wp2_with (first
                | (rw [← HY.out])
                | (go_at_call 48; (with_reducible refine HPL.out.mono ?_); rintro e w3 ⟨rfl, hb⟩; have hy3 := (hb.block _ (blt Y0.out)).trans Y0.out; have z0 : w3.cell? ⟨wr.heap.size, 0, none⟩ = some (.int .i64 kd) := bcell hy3 0; have z1 : w3.cell? ⟨wr.heap.size, 1, none⟩ = some (.int .i64 ob) := bcell hy3 1; have HY3 := Lib.hid hy3; have HS3 := Aside0.mk (HSY.out.below hb); obtain ⟨v3, hg3, hr3, h163⟩ := HVY.out.below hb; have HG3 := Lib.hid hg3; have HR3 := Aside0.mk hr3; have HB3 := Aside0.mk ((HJ.out.b.trans (YB.out.mono HJ.out.b.size)).trans (hb.mono (Nat.le_trans HJ.out.b.size YB.out.size))); clear hy3 hg3 hr3 hb)
                | ((with_reducible refine gate_dst (N := 37) rfl ?_); refine wl_load rfl rfl rfl HG3.out h163 ?_)
                | (go_at_call 32; (with_reducible refine (Add_any (RingIs.of HR3.out h163) ob (by rw [HJ.out.sim.len]; omega)).mono ?_); rintro e w4 ⟨V4, rfl, ⟨v4, rfl, hr4, h164⟩, hb4⟩; have HR4 := Aside0.mk hr4; have HB4 := Aside0.mk hb4; have u0 : w4.cell? ⟨wr.heap.size, 1, none⟩ = some (.int .i64 ob) := bcell ((hb4.block _ (blt HY3.out)).trans HY3.out) 1; clear hr4 hb4)
                | ((with_reducible refine gate_store (t := TR) (p := 5) rfl ?_); refine wl_store rfl rfl rfl rfl HR4.out.one ((HB4.out.block _ (blt HG3.out)).trans HG3.out) (ringC_size h163) h164 ?_; intro Y5 hY5 hu5; have hs5 := (HS3.out.below HB4.out).upd ((HB4.out.block _ (blt HG3.out)).trans HG3.out) (by decide) hu5; have HS5 := Aside0.mk hs5; have hv5 := VarR.stored HR4.out h164 ((HB4.out.block _ (blt HG3.out)).trans HG3.out) hY5 hu5; have HV5 := Lib.hid hv5; have HB5 := Aside0.mk ((HB3.out.trans (HB4.out.mono HB3.out.size)).trans (hu5.below (Nat.le_trans HB3.out.size HB4.out.size) (fun q hq => by rw [hq]; exact HB25))); have u5 : Y5.cell? ⟨wr.heap.size, 1, none⟩ = some (.int .i64 ob) := bcell ((hu5.block _ (blt ((HB4.out.block _ (blt HY3.out)).trans HY3.out)) (fun e => by have := (HB4.out.block _ (blt HG3.out)).trans HG3.out; rw [← e, (HB4.out.block _ (blt HY3.out)).trans HY3.out] at this; injection this with this; injection this with _ this _; exact absurd this (by decide))).trans ((HB4.out.block _ (blt HY3.out)).trans HY3.out)) 1; clear hY5 hu5 hs5 hv5))
              exact ⟨⟨k + 1, A6, c6, addX x ob, addR r ob, by omega, by go_num, by rw [HTX.out], ⟨by rw [HTX.out]; exact HS5.out, HV5.out, HJ.out.sim.add ob, (stepX k HJ.out.len).2.2, HB5.out⟩⟩, by simp [intOf]; omega⟩

    · obtain rfl : k = n := by omega
      obtain ⟨wa, rfl⟩ : ∃ wa : World, wa = wr := ⟨_, rfl⟩
      obtain ⟨va, hga, hra, ha16⟩ := HJ.out.v
      have hsim := HJ.out.sim
      have hrl := hsim.len
      have hlen := HJ.out.len
      obtain ⟨N, hN⟩ : ∃ N, N = x.length := ⟨_, rfl⟩
      have HNN := Lib.hid hN
      have HGA := Lib.hid hga
      have HRA := Aside0.mk hra
      have HSIM := Lib.hid hsim
      have HBA := Aside0.mk HJ.out.b
      have hs := HJ.out.s
      rw [← hN] at hs hrl hlen
      have HS := Aside0.mk hs
      rw [← hN]
      have hl5 : ∀ X : World, RowV X va r.row → Calls Try.prog 36 #[ringV va r.ms] X fun e w' => e = .returned (.int .i64 (N : Int)) ∧ Below X.heap.size X w' := fun X hX => by
        have := Len_any (RingIs.of hX ha16)
        rwa [hrl] at this
      have HL5 := Lib.hid hl5
      have n80 : N ≤ 80 := by omega
      have b5lt : w2.heap.size < wa.heap.size := blt hga
      clear hsim hN hga hra hs hl5 hlt HC
      go_wp2
      go_loopw [15, 120] (fun v15 v120 wr => ∃ i : Nat, i ≤ N ∧ v120 = .int .i64 (i : Int) ∧ kI.R TI wr wa.heap.size (fun _ => True) v15 (r.row.take i) ∧ Below wa.heap.size wa wr) (fun _ v120 _ => N - (intOf v120).toNat)
      case atStart => exact ⟨0, Nat.zero_le _, rfl, Kd.R_nil _ _ _ _ _, Below.refl _ _⟩
      case round =>
        obtain ⟨i, hi, rfl, hR, hb⟩ := hrel
        obtain ⟨A15, c15, rfl⟩ := Kd.R_slice hR
        have htk : (r.row.take i).length = i := by rw [List.length_take]; omega
        rw [htk] at hR ⊢
        have HR := Aside0.mk hR
        have HB := Aside0.mk hb
        clear hR hb htk
        by_cases hlt : i < N
        · obtain ⟨⟨so, sm⟩, hx⟩ : ∃ s, x[i]? = some s := ⟨_, List.getElem?_eq_getElem (by have := HNN.out; omega)⟩
          have hsr : SRow wr w.heap.size (.slice A6 x.length c6) x := by rw [← HNN.out]; exact HS.out.below HB.out
          obtain ⟨g, rfl, _, kc0, kc1, _⟩ := hsr.at_ rfl hx
          simp only at kc0 kc1
          have hrow : r.row[i]? = some so := by rw [HSIM.out.row, List.getElem?_map, hx]; rfl
          have hin := List.mem_of_getElem? hrow
          have hmk : markB r so = sm := by
            have h0 := HSIM.out.ok.rng so hin
            unfold markB
            rw [mayB_iff.2 h0]
            exact HSIM.out.mrk _ (List.mem_of_getElem? hx)
          have HROW := Lib.hid hrow
          have k0 : (0 : Int) ≤ (i : Int) := by omega
          have k1 : (i : Int) < (N : Int) := by omega
          have hneq : (sm != sm) = false := by simp
          have hmc : ∀ X : World, RowV X va r.row → Calls Try.prog 37 #[ringV va r.ms, .int .i64 so] X fun e w' => e = .returned (.bool sm) ∧ Below X.heap.size X w' := fun X hX => by
            have := Marked_any (RingIs.of hX ha16) so
            rwa [hmk] at this
          have HMC := Lib.hid hmc
          obtain ⟨Y, hY⟩ : ∃ Y, Y = wr.alloc (.cells #[.int .i64 so, .bool sm] TS) := ⟨_, rfl⟩
          have y0 : Y.heap[wr.heap.size]? = some (.cells #[.int .i64 so, .bool sm] TS (0, 0)) := by rw [hY]; exact blk_new wr _
          have yb : Below wr.heap.size wr Y := by rw [hY]; exact below_alloc (Below.refl _ _) _
          have q0 : Y.cell? ⟨wr.heap.size, 0, none⟩ = some (.int .i64 so) := bcell y0 0
          have HY := Lib.hid hY
          have Y0 := Lib.hid y0
          have YB := Aside0.mk (HB.out.trans (yb.mono HB.out.size))
          have hRY := Kd.R_below HR.out yb
          have HRY := Aside0.mk hRY
          clear hsr hx hrow hin hmk hmc hY y0 yb hRY
          go_wp2_with (first
            | (rw [← HY.out])
            | (at_builtin; refine Kd.R_append kI (w0 := wa) wa.heap.size rfl (.tmp 124) (.tmp 127) 44 TI (.int .i64 0) 8 rfl Try.underlying44 info_int rfl (by decide) (by decide) _ (r.row.take i) so [.int .i64 so] (fun _ => True) (fun _ => False) rfl rfl rfl (fun _ h => h.elim) (fun j hj => trivial) HRY.out YB.out YB.out.size (by rw [List.length_take]; omega) ?_; intro v4 w4 hr4 hb4 hg4 hat4; have hy4 := (hg4.block _ (blt Y0.out) (fun e => own_ne (Kd.R_own HRY.out) Y0.out e)).trans Y0.out; have HY4 := Lib.hid hy4; have HR4 := Aside0.mk hr4; have HB4 := Aside0.mk hb4; clear hr4 hb4 hg4 hat4 hy4))
          have t0 : w4.cell? ⟨wr.heap.size, 0, none⟩ = some (.int .i64 so) := bcell HY4.out 0
          have t1 : w4.cell? ⟨wr.heap.size, 1, none⟩ = some (.bool sm) := bcell HY4.out 1
          have g4 := (HB4.out.block _ b5lt).trans HGA.out
          have hS4 := Lib.hid (And.intro g4 (And.intro t0 t1))
          clear g4
          refine wp_region_held_drew (S := (fun w' => w'.heap[w2.heap.size]? = some (.cells (ringC va r.ms).toArray TR (0, 0)) ∧ w'.cell? ⟨wr.heap.size, 0, none⟩ = some (.int .i64 so) ∧ w'.cell? ⟨wr.heap.size, 1, none⟩ = some (.bool sm))) (by kernel_rfl) ?_ (fun hHeld => ?_)
          · first | exact hS4.out | exact hS5.out
          (refine wpAnyH_take (i := 0) (oi := ?o21) (v := ringV va r.ms) ?i21 (by kernel_rfl) (by kernel_rfl) (by kernel_rfl) ?q21 ?y21 (by assumption) ?r21; (case i21 => (simp only [List.getElem?_toArray, List.getElem?_cons_succ, List.getElem?_cons_zero]; rfl)); (case q21 => exact fun _ _ _ h => h); (case y21 => (refine Or.inl ⟨by rfl, ?_⟩; intro w9 hSw; (try dsimp only at hSw); have hld := run_loadVar_row (P := Try.prog) w9 _ TR TR _ (0, 0) _ hSw.1 Try.underlying47 rfl (by rw [info_ring, ringC_size ha16]); simp only [execOp, Act.eval, List.getElem?_toArray, List.getElem?_cons_succ, List.getElem?_cons_zero, Array.getD_eq_getD_getElem?, Option.getD_some, Instr.loadAt, Instr.sureAddr, Sem.run_bind, Sem.run_pure, Result.andThen_ok, hld]; rfl)))
          try simp only [Act.put, List.setIfInBounds_toArray, List.set_cons_zero, List.set_cons_succ]
          first | (refine wpAnyH_take (i := 1) (oi := ?o22) (v := ?v22) ?i22 (by kernel_rfl) (by kernel_rfl) (by kernel_rfl) ?q22 ?y22 (by assumption) ?r22; (case i22 => (simp only [List.getElem?_toArray, List.getElem?_cons_succ, List.getElem?_cons_zero]; rfl)); (case q22 => exact fun _ _ _ h => h); (case y22 => (refine Or.inl ⟨by rfl, ?_⟩; intro w hSw; (try dsimp only at hSw); go_simp; (try (with_reducible rfl))))) | (refine wpAnyH_take (i := 1) (oi := ?o23) (v := undef) ?i23 (by kernel_rfl) (by kernel_rfl) (by kernel_rfl) ?q23 ?y23 (by assumption) ?r23; (case i23 => (simp only [List.getElem?_toArray, List.getElem?_cons_succ, List.getElem?_cons_zero]; rfl)); (case q23 => exact fun _ _ _ h => h); (case y23 => exact Or.inr ⟨by rfl, rfl⟩))
          try simp only [Act.put, List.setIfInBounds_toArray, List.set_cons_zero, List.set_cons_succ]
          first | (refine wpAnyH_take (i := 2) (oi := ?o24) (v := ?v24) ?i24 (by kernel_rfl) (by kernel_rfl) (by kernel_rfl) ?q24 ?y24 (by assumption) ?r24; (case i24 => (simp only [List.getElem?_toArray, List.getElem?_cons_succ, List.getElem?_cons_zero]; rfl)); (case q24 => exact fun _ _ _ h => h); (case y24 => (refine Or.inl ⟨by rfl, ?_⟩; intro w hSw; (try dsimp only at hSw); go_simp; (try (with_reducible rfl))))) | (refine wpAnyH_take (i := 2) (oi := ?o25) (v := undef) ?i25 (by kernel_rfl) (by kernel_rfl) (by kernel_rfl) ?q25 ?y25 (by assumption) ?r25; (case i25 => (simp only [List.getElem?_toArray, List.getElem?_cons_succ, List.getElem?_cons_zero]; rfl)); (case q25 => exact fun _ _ _ h => h); (case y25 => exact Or.inr ⟨by rfl, rfl⟩))
          try simp only [Act.put, List.setIfInBounds_toArray, List.set_cons_zero, List.set_cons_succ]
          first | (refine wpAnyH_take (i := 4) (oi := ?o26) (v := ?v26) ?i26 (by kernel_rfl) (by kernel_rfl) (by kernel_rfl) ?q26 ?y26 (by assumption) ?r26; (case i26 => (simp only [List.getElem?_toArray, List.getElem?_cons_succ, List.getElem?_cons_zero]; rfl)); (case q26 => exact fun _ _ _ h => h); (case y26 => (refine Or.inl ⟨by rfl, ?_⟩; intro w hSw; (try dsimp only at hSw); go_simp; (try (with_reducible rfl))))) | (refine wpAnyH_take (i := 4) (oi := ?o27) (v := undef) ?i27 (by kernel_rfl) (by kernel_rfl) (by kernel_rfl) ?q27 ?y27 (by assumption) ?r27; (case i27 => (simp only [List.getElem?_toArray, List.getElem?_cons_succ, List.getElem?_cons_zero]; rfl)); (case q27 => exact fun _ _ _ h => h); (case y27 => exact Or.inr ⟨by rfl, rfl⟩))
          try simp only [Act.put, List.setIfInBounds_toArray, List.set_cons_zero, List.set_cons_succ]
          first | (refine wpAnyH_take (i := 5) (oi := ?o28) (v := ?v28) ?i28 (by kernel_rfl) (by kernel_rfl) (by kernel_rfl) ?q28 ?y28 (by assumption) ?r28; (case i28 => (simp only [List.getElem?_toArray, List.getElem?_cons_succ, List.getElem?_cons_zero]; rfl)); (case q28 => exact fun _ _ _ h => h); (case y28 => (refine Or.inl ⟨by rfl, ?_⟩; intro w hSw; (try dsimp only at hSw); go_simp; (try (with_reducible rfl))))) | (refine wpAnyH_take (i := 5) (oi := ?o29) (v := undef) ?i29 (by kernel_rfl) (by kernel_rfl) (by kernel_rfl) ?q29 ?y29 (by assumption) ?r29; (case i29 => (simp only [List.getElem?_toArray, List.getElem?_cons_succ, List.getElem?_cons_zero]; rfl)); (case q29 => exact fun _ _ _ h => h); (case y29 => exact Or.inr ⟨by rfl, rfl⟩))
          try simp only [Act.put, List.setIfInBounds_toArray, List.set_cons_zero, List.set_cons_succ]
          refine wpAnyH_ready (rs := [3]) (by kernel_rfl) (by simp) ?_
          refine AllReadyH.cons (by (simp only [List.getElem?_toArray, List.getElem?_cons_succ, List.getElem?_cons_zero]; rfl)) (fun K hK => ?_) AllReadyH.nil
          go_simp
          (go_at_call 37; (with_reducible refine (HMC.out _ ((HRA.out.below HB4.out).below (Below.refl _ _).drew)).mono ?_); rintro e w5 ⟨rfl, hb5⟩; have hb6 : Below w4.heap.size w4 w5 := (Below.refl _ _).drew.trans hb5; have hS5 := Lib.hid (And.intro ((hb6.block _ (blt hS4.out.1)).trans hS4.out.1) (And.intro ((hb6.cell (World.block_lt_of_cell? w4 _ hS4.out.2.1)).trans hS4.out.2.1) ((hb6.cell (World.block_lt_of_cell? w4 _ hS4.out.2.2)).trans hS4.out.2.2))); have HB6 := Aside0.mk hb6; clear hb5 hb6)
          (try dsimp only)
          refine hK.out _ _ ?_ (fun hHeld => ?_)
          · first | exact hS4.out | exact hS5.out
          clear hK K
          try simp only [Act.put, List.setIfInBounds_toArray, List.set_cons_zero, List.set_cons_succ]
          first | (refine wpAnyH_take (i := 6) (oi := ?o30) (v := ?v30) ?i30 (by kernel_rfl) (by kernel_rfl) (by kernel_rfl) ?q30 ?y30 (by assumption) ?r30; (case i30 => (simp only [List.getElem?_toArray, List.getElem?_cons_succ, List.getElem?_cons_zero]; rfl)); (case q30 => exact fun _ _ _ h => h); (case y30 => (refine Or.inl ⟨by rfl, ?_⟩; intro w hSw; (try dsimp only at hSw); go_simp; (try (with_reducible rfl))))) | (refine wpAnyH_take (i := 6) (oi := ?o31) (v := undef) ?i31 (by kernel_rfl) (by kernel_rfl) (by kernel_rfl) ?q31 ?y31 (by assumption) ?r31; (case i31 => (simp only [List.getElem?_toArray, List.getElem?_cons_succ, List.getElem?_cons_zero]; rfl)); (case q31 => exact fun _ _ _ h => h); (case y31 => exact Or.inr ⟨by rfl, rfl⟩))
          try simp only [Act.put, List.setIfInBounds_toArray, List.set_cons_zero, List.set_cons_succ]
          refine wpAnyH_done (by kernel_rfl) ?_ _
          go_wp2
          refine ⟨⟨i + 1, by omega, by go_num, ?_, HB4.out.trans (HB6.out.mono HB4.out.size)⟩, by simp [intOf]; omega⟩
          rw [List.take_add_one, HROW.out]
          exact Kd.R_below HR4.out HB6.out
        · obtain rfl : i = N := by omega
          have htk : r.row.take i = r.row := List.take_of_length_le (by rw [HSIM.out.len, ← HNN.out]; exact Nat.le_refl _)
          rw [htk] at HR
          obtain ⟨A8, c8, hv8, _, hC8⟩ := Kd.R_reads HR.out
          injection hv8 with e1 e2 e3
          subst e1
          have hrli : r.row.length = i := by rw [HSIM.out.len, ← HNN.out]
          have hpl := Place_any (show SRow wr w.heap.size (.slice A6 x.length c6) x by rw [← HNN.out]; exact HS.out.below HB.out) o
          rw [← HNN.out, HSIM.out.place] at hpl
          have hin2 := indexI_mem (a := o) (l := r.row)
          obtain ⟨P, hP⟩ : ∃ P, P = indexI o r.row := ⟨_, rfl⟩
          rw [← hP] at hpl hin2
          have HPL := Lib.hid hpl
          have HC8 := Aside0.mk hC8
          have hall : ∀ X : World, RowV X va r.row → Calls Try.prog 38 #[ringV va r.ms] X fun e w' => ∃ v, e = .returned v ∧ RowV w' v r.row ∧ Below X.heap.size X w' := fun X hX => All_any (RingIs.of hX ha16) (by omega)
          have hints : ∀ (X : World) (A B : Option Addr) (c d : Nat), kI.C X A r.row.length r.row → kI.C X B r.row.length r.row → Calls Try.prog 52 #[.slice A i c, .slice B i d] X fun e w' => e = .returned (.bool true) ∧ Below X.heap.size X w' := fun X A B c d h1 h2 => by
            have := Ints_same (c := c) (d := d) h1 h2
            rwa [hrli] at this
          have hhas := fun (X : World) (hX : RowV X va r.row) => Has_any (RingIs.of hX ha16) o
          have hmk := fun (X : World) (hX : RowV X va r.row) => Marked_any (RingIs.of hX ha16) o
          have HALL := Lib.hid hall
          have HINTS := Lib.hid hints
          have HRLI := Lib.hid hrli
          have HG := Lib.hid ((HB.out.block _ b5lt).trans HGA.out)
          have HRW := Aside0.mk (HRA.out.below HB.out)
          have HBW := Aside0.mk (HBA.out.trans (HB.out.mono HBA.out.size))
          have dl : ((i : Int) == (i : Int)) = true := by simp
          clear e2 e3 hrl
          by_cases hp : 0 ≤ P
          · have p1 : decide (0 ≤ P) = true := decide_eq_true hp
            have hd : decide (o ∈ r.row) = true := decide_eq_true (hin2.1 hp)
            rw [hd] at hhas
            have HHAS := Lib.hid hhas
            clear hp hd hhas hmk hin2 hP hpl hC8 hall hints hrli htk
            go_wp2_with (first
              | (go_at_call 48; (with_reducible refine HPL.out.mono ?_); rintro e w3 ⟨rfl, hb⟩; have HG3 := Lib.hid ((hb.block _ (blt HG.out)).trans HG.out); have HR3 := Aside0.mk (HRW.out.below hb); have HC3 := Aside0.mk (Kd.C_below HC8.out hb); have HB3 := Aside0.mk (HBW.out.trans (hb.mono HBW.out.size)); clear hb)
              | ((with_reducible refine gate_dst (N := 140) rfl ?_); refine wl_load rfl rfl rfl HG3.out ha16 ?_)
              | (go_at_call 38; (with_reducible refine (HALL.out _ HR3.out).mono ?_); rintro e w4 ⟨v4, rfl, ⟨A4, c4, rfl, _, hC4, _⟩, hb⟩; rw [HRLI.out]; have HCA := Aside0.mk hC4; have HG4 := Lib.hid ((hb.block _ (blt HG3.out)).trans HG3.out); have HR4 := Aside0.mk (HR3.out.below hb); have HC4 := Aside0.mk (Kd.C_below HC3.out hb); have HB4 := Aside0.mk (HB3.out.trans (hb.mono HB3.out.size)); clear hb hC4)
              | (go_at_call 52; (with_reducible refine (HINTS.out _ _ _ _ _ HCA.out HC4.out).mono ?_); rintro e w5 ⟨rfl, hb⟩; have HG5 := Lib.hid ((hb.block _ (blt HG4.out)).trans HG4.out); have HR5 := Aside0.mk (HR4.out.below hb); have HB5 := Aside0.mk (HB4.out.trans (hb.mono HB4.out.size)); clear hb)
              | ((with_reducible refine gate_dst (N := 145) rfl ?_); refine wl_loadG (by rfl) rfl rfl HG5.out ha16 ?_)
              | (go_at_call 36; (with_reducible refine (HL5.out _ HR5.out).mono ?_); rintro e w7 ⟨rfl, hb⟩; have HG7 := Lib.hid ((hb.block _ (blt HG5.out)).trans HG5.out); have HR7 := Aside0.mk (HR5.out.below hb); have HB7 := Aside0.mk (HB5.out.trans (hb.mono HB5.out.size)); clear hb)
              | (go_at_call 39; (with_reducible refine (HHAS.out _ HR7.out).mono ?_); rintro e w8 ⟨rfl, hb⟩; have HB8 := Aside0.mk (HB7.out.trans (hb.mono HB7.out.size)); clear hb)
              | ((with_reducible refine gate_dst (N := 152) rfl ?_); refine wl_loadG (by rfl) rfl rfl HG7.out ha16 ?_))
            go_ret
            exact ⟨rfl, HB8.out⟩
          · have p1 : decide (0 ≤ P) = false := decide_eq_false hp
            have hnin : o ∉ r.row := fun h => hp (hin2.2 h)
            have hd : decide (o ∈ r.row) = false := decide_eq_false hnin
            have hm0 : markB r o = false := by
              unfold markB
              cases hh : mayB o with
              | false => rfl
              | true => exact HSIM.out.ok.out o (mayB_iff.1 hh).1 hnin
            rw [hd] at hhas
            rw [hm0] at hmk
            have HHAS := Lib.hid hhas
            have HMK := Lib.hid hmk
            clear hp hd hhas hmk hin2 hP hpl hC8 hall hints hrli htk hnin hm0
            go_wp2_with (first
              | (go_at_call 48; (with_reducible refine HPL.out.mono ?_); rintro e w3 ⟨rfl, hb⟩; have HG3 := Lib.hid ((hb.block _ (blt HG.out)).trans HG.out); have HR3 := Aside0.mk (HRW.out.below hb); have HC3 := Aside0.mk (Kd.C_below HC8.out hb); have HB3 := Aside0.mk (HBW.out.trans (hb.mono HBW.out.size)); clear hb)
              | ((with_reducible refine gate_dst (N := 140) rfl ?_); refine wl_load rfl rfl rfl HG3.out ha16 ?_)
              | (go_at_call 38; (with_reducible refine (HALL.out _ HR3.out).mono ?_); rintro e w4 ⟨v4, rfl, ⟨A4, c4, rfl, _, hC4, _⟩, hb⟩; rw [HRLI.out]; have HCA := Aside0.mk hC4; have HG4 := Lib.hid ((hb.block _ (blt HG3.out)).trans HG3.out); have HR4 := Aside0.mk (HR3.out.below hb); have HC4 := Aside0.mk (Kd.C_below HC3.out hb); have HB4 := Aside0.mk (HB3.out.trans (hb.mono HB3.out.size)); clear hb hC4)
              | (go_at_call 52; (with_reducible refine (HINTS.out _ _ _ _ _ HCA.out HC4.out).mono ?_); rintro e w5 ⟨rfl, hb⟩; have HG5 := Lib.hid ((hb.block _ (blt HG4.out)).trans HG4.out); have HR5 := Aside0.mk (HR4.out.below hb); have HB5 := Aside0.mk (HB4.out.trans (hb.mono HB4.out.size)); clear hb)
              | ((with_reducible refine gate_dst (N := 145) rfl ?_); refine wl_loadG (by rfl) rfl rfl HG5.out ha16 ?_)
              | (go_at_call 36; (with_reducible refine (HL5.out _ HR5.out).mono ?_); rintro e w7 ⟨rfl, hb⟩; have HG7 := Lib.hid ((hb.block _ (blt HG5.out)).trans HG5.out); have HR7 := Aside0.mk (HR5.out.below hb); have HB7 := Aside0.mk (HB5.out.trans (hb.mono HB5.out.size)); clear hb)
              | (go_at_call 39; (with_reducible refine (HHAS.out _ HR7.out).mono ?_); rintro e w8 ⟨rfl, hb⟩; have HG8 := Lib.hid ((hb.block _ (blt HG7.out)).trans HG7.out); have HR8 := Aside0.mk (HR7.out.below hb); have HB8 := Aside0.mk (HB7.out.trans (hb.mono HB7.out.size)); clear hb)
              | (go_at_call 37; (with_reducible refine (HMK.out _ HR8.out).mono ?_); rintro e w9 ⟨rfl, hb⟩; have HB9 := Aside0.mk (HB8.out.trans (hb.mono HB8.out.size)); clear hb)
              | ((with_reducible refine gate_dst (N := 152) rfl ?_); refine wl_loadG (by rfl) rfl rfl HG7.out ha16 ?_)
              | ((with_reducible refine gate_dst (N := 163) rfl ?_); refine wl_loadG (by rfl) rfl rfl HG8.out ha16 ?_))
            go_ret
            exact ⟨rfl, HB9.out⟩
end Go.Proofs.Ytkbialmlddhclaa.Ck
