/- Like: walked. No condition. -/
import Derived.Test.YtkmanjfmffdcbaaFlMade
namespace Go.Proofs.Ytkmanjfmffdcbaa.Fl
open Go.RowKit Go.Proofs.YtkmanjfmffdcbaaW.PrintWords Go.Proofs.YtkmanjfmffdcbaaW.PrintMore Go.Maps
set_option linter.unusedSimpArgs false
set_option linter.unusedVariables false
section
variable {K : Nat → Prop} {N0 p x : Nat} {D : PD} {s : Int × Int × Int} {ps : List Pg} {w : World}
theorem Two.refblk (h : Two K N0 p x D s ps w) : ∃ v, w.heap[x]? = some (.cells #[.int .i64 s.1, .int .i64 s.2.1, .int .i64 s.2.2, v] TX (0, 0)) := by
  obtain ⟨okD, okX, hD, ⟨_, _, v, hx, _⟩, _⟩ := h
  exact ⟨v, hx⟩
theorem Two.read (h : Two K N0 p x D s ps w) (a b : Int) (hh : hasB D.s a b = true) : Calls Try.prog 38 #[.pointer (some ⟨p, 0, none⟩), .int .i64 a, .int .i64 b] w fun e w' => ∃ A c, e = .returned (.tuple #[.slice A (readD D a b).length c, .int .i64 0]) ∧ kB.C w' A (readD D a b).length (readD D a b) ∧ Below w.heap.size w w' := by
  obtain ⟨okD, okX, hD, hX, _⟩ := h
  refine (Read_any hD a b).mono fun e w' ⟨v, he, hr, hb⟩ => ?_
  rw [gotD, if_pos hh] at hr
  obtain ⟨A, c, rfl, _, hC⟩ := hr.reads
  rw [hasE, if_pos hh] at he
  exact ⟨A, c, he, hC, hb⟩
theorem Two.rread (h : Two K N0 p x D s ps w) (hs : ShapeOk s) (hl : ps.length < 1000000) (a b : Int) : Calls Try.prog 49 #[.pointer (some ⟨x, 0, none⟩), .int .i64 a, .int .i64 b] w fun e w' => ∃ A c, e = .returned (.slice A (readP s.2.2.toNat a b ps).length c) ∧ kB.C w' A (readP s.2.2.toNat a b ps).length (readP s.2.2.toNat a b ps) ∧ Below w.heap.size w w' := by
  obtain ⟨okD, okX, hD, hX, _⟩ := h
  refine (RRead_any hX hs hl a b).mono fun e w' ⟨v, he, hr, hb⟩ => ?_
  obtain ⟨A, c, rfl, _, hC⟩ := hr.reads
  exact ⟨A, c, he, hC, hb⟩
theorem Two.used (h : Two K N0 p x D s ps w) (a b : Int) : Calls Try.prog 39 #[.pointer (some ⟨p, 0, none⟩), .int .i64 a, .int .i64 b] w fun e w' => e = .returned (.bool (usedB D a b)) ∧ w = w' := by
  obtain ⟨okD, okX, hD, hX, _⟩ := h
  exact Used_any hD a b
theorem Two.rfind (h : Two K N0 p x D s ps w) (hl : ps.length < 1000000) (a b : Int) : Calls Try.prog 48 #[.pointer (some ⟨x, 0, none⟩), .int .i64 a, .int .i64 b] w fun e w' => e = .returned (.int .i64 (findI a b ps)) ∧ Below w.heap.size w w' := by
  obtain ⟨okD, okX, hD, hX, _⟩ := h
  exact RFind_any hX hl a b
theorem Two.dirty (h : Two K N0 p x D s ps w) : Calls Try.prog 40 #[.pointer (some ⟨p, 0, none⟩)] w fun e w' => e = .returned (.int .i64 (D.dirty.length : Int)) ∧ w = w' := by
  obtain ⟨okD, okX, hD, hX, _⟩ := h
  exact Dirty_any hD
theorem Two.rdirty (h : Two K N0 p x D s ps w) (hl : ps.length < 1000000) : Calls Try.prog 67 #[.pointer (some ⟨x, 0, none⟩)] w fun e w' => e = .returned (.int .i64 (dirtyN ps : Int)) ∧ Below w.heap.size w w' := by
  obtain ⟨okD, okX, hD, hX, _⟩ := h
  exact RDirty_any hX hl
theorem Two.rshape (h : Two K N0 p x D s ps w) : Calls Try.prog 43 #[.pointer (some ⟨p, 0, none⟩)] w fun e w' => e = .returned (.agg #[.int .i64 D.s.1, .int .i64 D.s.2.1, .int .i64 D.s.2.2]) ∧ Below w.heap.size w w' := by
  obtain ⟨okD, okX, hD, hX, _⟩ := h
  exact Shape_any hD
set_option maxHeartbeats 4000000 in
set_option maxRecDepth 100000 in
theorem Like_any (h : Two K N0 p x D s ps w) (hsim : Sim D s ps) (hl : ps.length < 1000000) : Calls Try.prog 30 #[.pointer (some ⟨p, 0, none⟩), .pointer (some ⟨x, 0, none⟩)] w fun e w' => e = .returned (.bool true) ∧ Below w.heap.size w w' := by
  have hs : ShapeOk s := by have := h.shape; rw [hsim.sh] at this; exact this
  obtain ⟨v, hx⟩ := h.refblk
  have k0 : w.cell? ⟨x, 0, none⟩ = some (.int .i64 s.1) := bcell hx 0
  have k1 : w.cell? ⟨x, 1, none⟩ = some (.int .i64 s.2.1) := bcell hx 1
  have k2 : w.cell? ⟨x, 2, none⟩ = some (.int .i64 s.2.2) := bcell hx 2
  have HX := Lib.hid hx
  have HT := Aside0.mk h
  have HTD := Aside0.mk h.drew
  have HSIM := Aside0.mk hsim
  have HM := Lib.hid hl
  have HS := Lib.hid hs
  clear hx h hsim hl hs
  have hcs := HTD.out.rshape
  rw [HSIM.out.sh] at hcs
  have HCS := Lib.hid hcs
  clear hcs
  go_enter Try.func30, Try.ntmps30
  go_wp2_with fail
  have hdn := HSIM.out.dirtyN
  have e1 : ((dirtyN ps : Int) != (dirtyN ps : Int)) = false := by simp
  have HDN := Lib.hid hdn
  clear hdn
  go_region_held3 (fun w' => w'.cell? ⟨x, 0, none⟩ = some (.int .i64 s.1) ∧ w'.cell? ⟨x, 1, none⟩ = some (.int .i64 s.2.1) ∧ w'.cell? ⟨x, 2, none⟩ = some (.int .i64 s.2.2)) (first | go_keep | exact ⟨z1, z2, z3⟩ | exact ⟨t1, t2, t3⟩)
    (first
      | (go_at_call 43; refine HCS.out.mono ?_; rintro e w1 ⟨rfl, hb⟩; have HB1 := Aside0.mk (undrew hb); have z1 : w1.cell? ⟨x, 0, none⟩ = some (.int .i64 s.1) := ((undrew hb).cell (p := ⟨x, 0, none⟩) (blt HX.out)).trans k0; have z2 : w1.cell? ⟨x, 1, none⟩ = some (.int .i64 s.2.1) := ((undrew hb).cell (p := ⟨x, 1, none⟩) (blt HX.out)).trans k1; have z3 : w1.cell? ⟨x, 2, none⟩ = some (.int .i64 s.2.2) := ((undrew hb).cell (p := ⟨x, 2, none⟩) (blt HX.out)).trans k2; clear hb)
      | (go_at_call 40; refine (HT.out.below HB1.out).dirty.mono ?_; rw [HDN.out]; rintro e w3 ⟨rfl, rfl⟩)
      | (go_at_call 67; refine ((HT.out.below HB1.out).rdirty HM.out).mono ?_; rintro e w2 ⟨rfl, hb⟩; have HB2 := Aside0.mk (HB1.out.trans (hb.mono HB1.out.size)); have t1 : w2.cell? ⟨x, 0, none⟩ = some (.int .i64 s.1) := (HB2.out.cell (p := ⟨x, 0, none⟩) (blt HX.out)).trans k0; have t2 : w2.cell? ⟨x, 1, none⟩ = some (.int .i64 s.2.1) := (HB2.out.cell (p := ⟨x, 1, none⟩) (blt HX.out)).trans k1; have t3 : w2.cell? ⟨x, 2, none⟩ = some (.int .i64 s.2.2) := (HB2.out.cell (p := ⟨x, 2, none⟩) (blt HX.out)).trans k2; clear hb))
  obtain ⟨n1, hn1⟩ := Int.eq_ofNat_of_zero_le (show 0 ≤ s.1 by have := HS.out.a0; omega)
  obtain ⟨n2, hn2⟩ := Int.eq_ofNat_of_zero_le (show 0 ≤ s.2.1 by have := HS.out.b0; omega)
  have HN1 := Lib.hid hn1
  have HN2 := Lib.hid hn2
  have hn3 : n1 ≤ 16 := by have := HS.out.a1; omega
  have hn4 : n2 ≤ 64 := by have := HS.out.b1; omega
  clear hn1 hn2 t1 t2 t3 z1 z2 z3 k0 k1 k2 e1
  go_wp2
  go_loopw [5] (fun v5 wr => ∃ a : Nat, a ≤ n1 ∧ v5 = .int .i64 (a : Int) ∧ Below w.heap.size w wr) (fun v5 _ => n1 - (intOf v5).toNat)
  case atStart => exact ⟨0, Nat.zero_le _, rfl, HB2.out⟩
  case round =>
    obtain ⟨a, ha, rfl, hb⟩ := hrel
    have HA := Aside0.mk hb
    have kx := (hb.block x (blt HX.out)).trans HX.out
    rw [HN1.out] at kx
    have k0 : wr.cell? ⟨x, 0, none⟩ = some (.int .i64 (n1 : Int)) := bcell kx 0
    clear hb kx
    by_cases hlt : a < n1
    · have e1 : decide ((a : Int) < (n1 : Int)) = true := by simp; omega
      have a0 : (0 : Int) ≤ (a : Int) := by omega
      have a1 : (a : Int) < (n1 : Int) := by omega
      go_wp2
      go_loopw [6] (fun v6 wi => ∃ b : Nat, b ≤ n2 ∧ v6 = .int .i64 (b : Int) ∧ Below w.heap.size w wi) (fun v6 _ => n2 - (intOf v6).toNat)
      case atStart => exact ⟨0, Nat.zero_le _, rfl, HA.out⟩
      case round =>
        obtain ⟨b, hb, rfl, hbi⟩ := hrel
        have HI := Aside0.mk hbi
        have kx := (hbi.block x (blt HX.out)).trans HX.out
        rw [HN2.out] at kx
        have k1 : wr.cell? ⟨x, 1, none⟩ = some (.int .i64 (n2 : Int)) := bcell kx 1
        have hti := HT.out.below hbi
        clear hbi kx k0
        by_cases hlt2 : b < n2
        · have b1 : (b : Int) < (n2 : Int) := by omega
          have b0 : (0 : Int) ≤ (b : Int) := by omega
          have hh : hasB D.s a b = true := by
            rw [hasB_iff, HSIM.out.sh, HN1.out, HN2.out]
            omega
          obtain ⟨R, hR⟩ : ∃ R, R = readD D a b := ⟨_, rfl⟩
          have hR2 : readP s.2.2.toNat a b ps = R := by rw [hR, HSIM.out.read]
          have hRl : R.length < 1000000 := by
            have h1 := look_len (D := D) (by obtain ⟨_, _, ⟨_, _, _, _, hD⟩, _⟩ := HT.out; exact hD.lens) (a, b)
            rw [hR, readD, numB, full_length h1, HSIM.out.sh]
            have := HS.out.c1
            omega
          have hu := HSIM.out.used a b
          obtain ⟨F, hF⟩ : ∃ F, F = findI a b ps := ⟨_, rfl⟩
          have hFl : -1 ≤ F := by
            rw [hF, findI]
            rcases idxI_cases (atB a b) ps with h | ⟨_, _, h, _⟩ <;> rw [h] <;> omega
          have hrd := hti.read a b hh
          rw [← hR] at hrd
          have hrr := fun (W : World) (hW : Below wr.heap.size wr W) => (hti.below hW).rread HS.out HM.out a b
          rw [hR2] at hrr
          have hus := fun (W : World) (hW : Below wr.heap.size wr W) => (hti.below hW).used a b
          rw [hu] at hus
          have hfi := fun (W : World) (hW : Below wr.heap.size wr W) => (hti.below hW).rfind HM.out a b
          rw [← hF] at hus hfi
          have HRD := Lib.hid hrd
          have HRR := Lib.hid hrr
          have HUS := Lib.hid hus
          have HFI := Lib.hid hfi
          have HRL := Lib.hid hRl
          have HFL := Lib.hid hFl
          clear hti hh hR hR2 hRl hu hF hFl hrd hrr hus hfi
          go_wp2_with (first
            | (go_at_call 38; (with_reducible refine HRD.out.mono ?_); rintro e w3 ⟨B1, c1, rfl, hC, hb⟩; have HC1 := Aside0.mk hC; have HB3 := Aside0.mk hb; clear hC hb)
            | (go_at_call 49; (with_reducible refine (HRR.out _ HB3.out).mono ?_); rintro e w4 ⟨B2, c2, rfl, hC, hb⟩; have HC2 := Aside0.mk hC; have HC3 := Aside0.mk (Kd.C_below HC1.out hb); have HB4 := Aside0.mk (HB3.out.trans (hb.mono HB3.out.size)); clear hC hb)
            | (go_at_call 19; (with_reducible refine (Bytes_any HC3.out HC2.out HRL.out HRL.out).mono ?_); rw [decide_eq_true rfl]; rintro e w5 ⟨rfl, hb⟩; have HB5 := Aside0.mk (HB4.out.trans (hb.mono HB4.out.size)); clear hb)
            | (go_at_call 39; (with_reducible refine (HUS.out _ HB5.out).mono ?_); rintro e w6 ⟨rfl, rfl⟩)
            | (go_at_call 48; (with_reducible refine (HFI.out _ HB5.out).mono ?_); rintro e w7 ⟨rfl, hb⟩; have HB6 := Aside0.mk (HB5.out.trans (hb.mono HB5.out.size)); clear hb))
          exact ⟨⟨b + 1, by omega, by go_num, HI.out.trans (HB6.out.mono HI.out.size)⟩, by simp [intOf]; omega⟩
        · obtain rfl : b = n2 := by omega
          clear hti
          go_wp2
          exact ⟨⟨a + 1, by omega, by go_num, HI.out⟩, by simp [intOf]; omega⟩
    · obtain rfl : a = n1 := by omega
      go_wp2
      go_ret
      exact ⟨rfl, HA.out⟩
end
end Go.Proofs.Ytkmanjfmffdcbaa.Fl
