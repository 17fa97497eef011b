/- Remove: walked. -/
import Derived.Test.YtkbialmlddhclaaCkDel
namespace Go.Proofs.Ytkbialmlddhclaa.Ck
open Go.RowKit Go.Proofs.YtkbialmlddhclaaW.PrintWords Go.Proofs.YtkbialmlddhclaaW.PrintMore
set_option linter.unusedSimpArgs false
set_option linter.unusedVariables false
def removeR (r : RG) (o : Int) : RG := if indexI o r.row < 0 then r else ⟨r.row.eraseIdx (indexI o r.row).toNat, r.ms.set o.toNat false⟩
section
variable {w : World} {V : Value} {r : RG}
set_option maxHeartbeats 2000000 in
set_option maxRecDepth 100000 in
theorem Remove_any (h : RingIs w V r) (o : Int) (hm : r.row.length ≤ 1000) (hr : ∀ x ∈ r.row, 0 ≤ x ∧ x < 16) : Calls Try.prog 49 #[V, .int .i64 o] w fun e w' => ∃ V', e = .returned V' ∧ RingIs w' V' (removeR r o) ∧ Below w.heap.size w w' := by
  obtain ⟨cs, v, rfl, hcs, hrow, h16⟩ := h.cells
  have h1 := hrow.one
  have HROW := Aside0.mk hrow
  have hring : RingIs w (ringV v r.ms) r := RingIs.of hrow h16
  obtain ⟨A, c, rfl, hc, hC, -⟩ := hrow
  obtain ⟨W, hW, q0, z0, qb, hsz⟩ := box_pair (w := w) (cs := cs)
  have HW := Lib.hid hW
  have HRING := Lib.hid hring
  have HCS := Lib.hid hcs
  have Q0 := Lib.hid (hcs ▸ q0)
  have Z0 := Lib.hid z0
  have QB := Aside0.mk qb
  have HSZ := Lib.hid hsz
  have HCL := Lib.hid (fun (X : World) (hX : Below w.heap.size w X) => Clone_any A c r.row X (Kd.C_below hC hX) (by omega))
  have HHAS := Lib.hid (fun (X : World) (hX : Below w.heap.size w X) => Has_any (hring.below hX) o)
  have t0 : W.cell? ⟨w.heap.size, 0, none⟩ = some (.slice A r.row.length c) := bcell Q0.out 0
  have HIX := Lib.hid (fun (X : World) (hX : Below w.heap.size w X) => Index_any (c := c) (Kd.C_below hC hX) o)
  by_cases hneg : indexI o r.row < 0
  · have hv : removeR r o = r := by unfold removeR; rw [if_pos hneg]
    rw [hv]
    obtain ⟨ix, hix⟩ : ∃ ix, ix = indexI o r.row := ⟨_, rfl⟩
    rw [← hix] at HIX hneg
    have e1 : decide (ix < 0) = true := decide_eq_true hneg
    clear hv h hcs hW q0 z0 qb hsz hring hC hc hr hix hneg
    go_enter Try.func49, Try.ntmps49
    go_wp2_with (first
      | (rw [← HW.out])
      | (go_at_call 87; (refine (HIX.out _ QB.out).mono ?_); rintro e w2 ⟨rfl, rfl⟩)
      | ((with_reducible refine gate_dst (N := 12) rfl ?_); refine wl_load rfl rfl rfl (Q0.out) h16 ?_; refine wl_store rfl rfl rfl rfl h1 (Z0.out) rfl h16 ?_; intro Y hY hu; have HY := Lib.hid hY; have HU := Aside0.mk hu; clear hY hu))
    have hb : Below w.heap.size w Y := QB.out.trans (HU.out.below QB.out.size (fun k hk => by omega))
    exact bodyPost_ret (res_ring Try.results49 _ rfl HY.out h16) rfl ⟨_, rfl, RingIs.of (HROW.out.below hb) h16, hb⟩
  · obtain ⟨i, hi, hio, hil⟩ := indexI_inv (a := o) (l := r.row) (by omega)
    have hv : removeR r o = ⟨r.row.eraseIdx i, r.ms.set o.toNat false⟩ := by unfold removeR; rw [if_neg hneg, hi, Int.toNat_natCast]
    rw [hv]
    rw [hi] at HIX
    have hb2 := hr o (List.mem_of_getElem? hio)
    obtain ⟨n, rfl⟩ := Int.eq_ofNat_of_zero_le hb2.1
    have n0 : (0 : Int) ≤ (n : Int) := by omega
    have n1 : (n : Int) < 16 := by omega
    have i0 : (0 : Int) ≤ (i : Int) := by omega
    have i1 : (i : Int) < 1000 := by omega
    have e1 : decide ((i : Int) < 0) = false := decide_eq_false (by omega)
    have hw1 : IntKind.i64.wrap ((i : Int) + 1) = (i : Int) + 1 := IntWalk.i64_in _ (by omega)
    obtain ⟨x, hx⟩ : ∃ x, r.ms[n]? = some x := ⟨_, List.getElem?_eq_getElem (by omega)⟩
    have HX := Lib.hid hx
    have HIL := Lib.hid hil
    have h162 : (r.ms.set n false).length = 16 := by simp [h16]
    clear hv h hcs hW q0 z0 qb hsz hring hC hc hr hb2 hx hi hio hneg hil
    rw [Int.toNat_natCast]
    go_enter Try.func49, Try.ntmps49
    go_wp2_with (first
      | (rw [← HW.out])
      | (go_at_call 87; (refine (HIX.out _ QB.out).mono ?_); rintro e w2 ⟨rfl, rfl⟩)
      | (go_at_call 76; (refine (HCL.out _ QB.out).mono ?_); rintro e w3 ⟨v3, rfl, hR, hb⟩; have HR3 := Aside0.mk hR; have HB3 := Aside0.mk hb; clear hR hb)
      | (go_at_call 88; (refine (Delete_any HR3.out HIL.out).mono ?_); rintro e w4 ⟨v4, rfl, hR, hu⟩; obtain ⟨A4, c4, rfl, -, -⟩ := hR.now; have hb4 := HB3.out.trans (hu.below HB3.out.size (fun k hk => hk)); have t4 : w4.cell? ⟨w.heap.size, 0, none⟩ = some (.slice A r.row.length c) := bcell ((hb4.block _ (by have := HSZ.out; omega)).trans Q0.out) 0; have f4 : w4.frozen? ⟨w.heap.size, 0, none⟩ = false := bfrozen ((hb4.block _ (by have := HSZ.out; omega)).trans Q0.out) 0; have g4 : w4.cell? ⟨w.heap.size, 1 + n, none⟩ = some (.bool x) := (bcell ((hb4.block _ (by have := HSZ.out; omega)).trans Q0.out) (1 + n)).trans (ringC_get HX.out); have k4 : w4.frozen? ⟨w.heap.size, 1 + n, none⟩ = false := bfrozen ((hb4.block _ (by have := HSZ.out; omega)).trans Q0.out) _; have HC4 := Lib.hid hR; have HB4 := Aside0.mk hb4; clear hR hu hb4)
      | ((with_reducible refine gate_dst (N := 24) rfl ?_); refine wl_load rfl rfl rfl (by rw [← ringC_set (.slice A4 (r.row.eraseIdx i).length c4), ← ringC_set0 (.slice A r.row.length c)]; exact bset (bset ((HB4.out.block _ (by have := HSZ.out; omega)).trans Q0.out) _ _) _ _) h162 ?_; refine wl_store rfl rfl rfl rfl rfl (((Below.heap_setCell _ _ _ _ (show w.heap.size + 1 ≠ w.heap.size by omega)).trans (Below.heap_setCell _ _ _ _ (show w.heap.size + 1 ≠ w.heap.size by omega))).trans ((HB4.out.block _ (by have := HSZ.out; omega)).trans Z0.out)) rfl h162 ?_; intro Y hY hu; have HY := Lib.hid hY; have HU := Aside0.mk hu; clear hY hu))
    have hu2 : Upd (fun k => w.heap.size ≤ k ∧ k < W.heap.size) w4 Y := ((Upd.setCell w4 (p := ⟨w.heap.size, 0, none⟩) (S := fun k => w.heap.size ≤ k ∧ k < W.heap.size) (by have := HSZ.out; show w.heap.size ≤ w.heap.size ∧ w.heap.size < _; omega) _).trans (Upd.setCell _ (p := ⟨w.heap.size, 1 + n, none⟩) (S := fun k => w.heap.size ≤ k ∧ k < W.heap.size) (by have := HSZ.out; show w.heap.size ≤ w.heap.size ∧ w.heap.size < _; omega) _) (fun k hk _ => hk)).trans HU.out (fun k hk _ => by have := HSZ.out; omega)
    have hb : Below w.heap.size w Y := (QB.out.trans (HB4.out.mono QB.out.size)).trans (hu2.below (Nat.le_trans QB.out.size HB4.out.size) (fun k hk => by have := HSZ.out; omega))
    exact bodyPost_ret (res_ring Try.results49 _ rfl HY.out h162) rfl ⟨_, rfl, RingIs.of (r := ⟨r.row.eraseIdx i, r.ms.set n false⟩) (HC4.out Y (fun k hk hlt => hu2.block k hlt (fun h => by omega))) h162, hb⟩
end
end Go.Proofs.Ytkbialmlddhclaa.Ck
