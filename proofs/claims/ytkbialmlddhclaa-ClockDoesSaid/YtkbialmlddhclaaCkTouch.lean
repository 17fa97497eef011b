/- Touch: walked. -/
import Derived.Test.YtkbialmlddhclaaCkAdd
namespace Go.Proofs.Ytkbialmlddhclaa.Ck
open Go.RowKit Go.Proofs.YtkbialmlddhclaaW.PrintWords Go.Proofs.YtkbialmlddhclaaW.PrintMore
set_option linter.unusedSimpArgs false
set_option linter.unusedVariables false
def touchR (r : RG) (o : Int) : RG := if o ∈ r.row then { r with ms := r.ms.set o.toNat true } else r
section
variable {w : World} {V : Value} {r : RG}
set_option maxHeartbeats 2000000 in
set_option maxRecDepth 100000 in
theorem Touch_any (h : RingIs w V r) (o : Int) (hm : r.row.length ≤ 1000) (hr : ∀ x ∈ r.row, 0 ≤ x ∧ x < 16) : Calls Try.prog 33 #[V, .int .i64 o] w fun e w' => ∃ V', e = .returned V' ∧ RingIs w' V' (touchR r o) ∧ Below w.heap.size w w' := by
  obtain ⟨cs, v, rfl, hcs, hrow, h16⟩ := h.cells
  have h1 := hrow.one
  have HROW := Aside0.mk hrow
  have hring : RingIs w (ringV v r.ms) r := RingIs.of hrow h16
  obtain ⟨A, c, rfl, hc, hC, -⟩ := hrow
  obtain ⟨W, hW, q0, z0, qb, hsz⟩ := box_pair (w := w) (cs := cs)
  have HW := Lib.hid hW
  have HRING := Lib.hid hring
  have HCS := Lib.hid hcs
  have Q0 := Lib.hid (hcs ▸ q0)
  have Z0 := Lib.hid z0
  have QB := Aside0.mk qb
  have HSZ := Lib.hid hsz
  have HCL := Lib.hid (fun (X : World) (hX : Below w.heap.size w X) => Clone_any A c r.row X (Kd.C_below hC hX) (by omega))
  have HHAS := Lib.hid (fun (X : World) (hX : Below w.heap.size w X) => Has_any (hring.below hX) o)
  have t0 : W.cell? ⟨w.heap.size, 0, none⟩ = some (.slice A r.row.length c) := bcell Q0.out 0
  by_cases hin : o ∈ r.row
  · have hv : touchR r o = { r with ms := r.ms.set o.toNat true } := by unfold touchR; rw [if_pos hin]
    have hd : decide (o ∈ r.row) = true := decide_eq_true hin
    rw [hv]
    have hb2 := hr o hin
    obtain ⟨n, rfl⟩ := Int.eq_ofNat_of_zero_le hb2.1
    have HD := Lib.hid hd
    have n0 : (0 : Int) ≤ (n : Int) := by omega
    have n1 : (n : Int) < 16 := by omega
    obtain ⟨x, hx⟩ : ∃ x, r.ms[n]? = some x := ⟨_, List.getElem?_eq_getElem (by omega)⟩
    have HX := Lib.hid hx
    have h162 : (r.ms.set n true).length = 16 := by simp [h16]
    clear hv h hcs hW q0 z0 qb hsz hin hd hring hC hc hr hb2 hx
    rw [Int.toNat_natCast]
    go_enter Try.func33, Try.ntmps33
    go_wp2_with (first
      | (rw [← HW.out])
      | ((with_reducible refine gate_dst (N := 5) rfl ?_); refine wl_load rfl rfl rfl (Q0.out) h16 ?_)
      | (go_at_call 39; (refine (HHAS.out _ QB.out).mono ?_); rw [HD.out]; rintro e w2 ⟨rfl, hb⟩; have t2 : w2.cell? ⟨w.heap.size, 1 + n, none⟩ = some (.bool x) := (bcell ((hb.block _ (by have := HSZ.out; omega)).trans Q0.out) (1 + n)).trans (ringC_get HX.out); have f2 : w2.frozen? ⟨w.heap.size, 1 + n, none⟩ = false := bfrozen ((hb.block _ (by have := HSZ.out; omega)).trans Q0.out) _; have HB2 := Aside0.mk hb; clear hb)
      | ((with_reducible refine gate_dst (N := 11) rfl ?_); refine wl_load rfl rfl rfl (by rw [← ringC_set (.slice A r.row.length c)]; exact bset ((HB2.out.block _ (by have := HSZ.out; omega)).trans Q0.out) _ _) h162 ?_; refine wl_store rfl rfl rfl rfl rfl ((Below.heap_setCell _ _ _ _ (show w.heap.size + 1 ≠ w.heap.size by omega)).trans ((HB2.out.block _ (by have := HSZ.out; omega)).trans Z0.out)) rfl h162 ?_; intro Y hY hu; have HY := Lib.hid hY; have HU := Aside0.mk hu; clear hY hu))
    have hu2 : Upd (fun k => w.heap.size ≤ k ∧ k < W.heap.size) w2 Y := ((Upd.setCell w2 (p := ⟨w.heap.size, 1 + n, none⟩) (S := fun k => w.heap.size ≤ k ∧ k < W.heap.size) (by have := HSZ.out; show w.heap.size ≤ w.heap.size ∧ w.heap.size < _; omega) _).trans HU.out (fun k hk _ => by have := HSZ.out; omega))
    have hb : Below w.heap.size w Y := (QB.out.trans (HB2.out.mono QB.out.size)).trans (hu2.below (Nat.le_trans QB.out.size HB2.out.size) (fun k hk => by have := HSZ.out; omega))
    exact bodyPost_ret (res_ring Try.results33 _ rfl HY.out h162) rfl ⟨_, rfl, RingIs.of (r := { r with ms := r.ms.set n true }) (HROW.out.below hb) h162, hb⟩
  · have hv : touchR r o = r := by unfold touchR; rw [if_neg hin]
    have hd : decide (o ∈ r.row) = false := decide_eq_false hin
    rw [hv]
    have HD := Lib.hid hd
    clear hv h hcs hW q0 z0 qb hsz hin hd hring hC hc hr
    go_enter Try.func33, Try.ntmps33
    go_wp2_with (first
      | (rw [← HW.out])
      | ((with_reducible refine gate_dst (N := 5) rfl ?_); refine wl_load rfl rfl rfl (Q0.out) h16 ?_)
      | (go_at_call 39; (refine (HHAS.out _ QB.out).mono ?_); rw [HD.out]; rintro e w2 ⟨rfl, hb⟩; have HB2 := Aside0.mk hb; clear hb)
      | ((with_reducible refine gate_dst (N := 11) rfl ?_); refine wl_load rfl rfl rfl ((HB2.out.block _ (by have := HSZ.out; omega)).trans Q0.out) h16 ?_; refine wl_store rfl rfl rfl rfl h1 ((HB2.out.block _ (by have := HSZ.out; omega)).trans Z0.out) rfl h16 ?_; intro Y hY hu; have HY := Lib.hid hY; have HU := Aside0.mk hu; clear hY hu))
    have hb : Below w.heap.size w Y := (QB.out.trans (HB2.out.mono QB.out.size)).trans (HU.out.below (Nat.le_trans QB.out.size HB2.out.size) (fun k hk => by omega))
    exact bodyPost_ret (res_ring Try.results33 _ rfl HY.out h16) rfl ⟨_, rfl, RingIs.of (HROW.out.below hb) h16, hb⟩
end
end Go.Proofs.Ytkbialmlddhclaa.Ck
