/- Add: walked. -/
import Derived.Test.YtkbialmlddhclaaCkCells
namespace Go.Proofs.Ytkbialmlddhclaa.Ck
open Go.RowKit Go.Proofs.YtkbialmlddhclaaW.PrintWords Go.Proofs.YtkbialmlddhclaaW.PrintMore
set_option linter.unusedSimpArgs false
set_option linter.unusedVariables false
def addR (r : RG) (o : Int) : RG := if mayB o = true ∧ o ∉ r.row then { r with row := r.row ++ [o] } else r
section
variable {w : World} {V : Value} {r : RG}
set_option maxHeartbeats 2000000 in
set_option maxRecDepth 100000 in
theorem Add_any (h : RingIs w V r) (o : Int) (hm : r.row.length ≤ 1000) : Calls Try.prog 32 #[V, .int .i64 o] w fun e w' => ∃ V', e = .returned V' ∧ RingIs w' V' (addR r o) ∧ Below w.heap.size w w' := by
  obtain ⟨cs, v, rfl, hcs, hrow, h16⟩ := h.cells
  have h1 := hrow.one
  have HROW := Aside0.mk hrow
  have hring : RingIs w (ringV v r.ms) r := RingIs.of hrow h16
  obtain ⟨A, c, rfl, hc, hC, -⟩ := hrow
  obtain ⟨W, hW, q0, z0, qb, hsz⟩ := box_pair (w := w) (cs := cs)
  have HW := Lib.hid hW
  have HRING := Lib.hid hring
  have HCS := Lib.hid hcs
  have Q0 := Lib.hid (hcs ▸ q0)
  have Z0 := Lib.hid z0
  have QB := Aside0.mk qb
  have HSZ := Lib.hid hsz
  have HCL := Lib.hid (fun (X : World) (hX : Below w.heap.size w X) => Clone_any A c r.row X (Kd.C_below hC hX) (by omega))
  have HHAS := Lib.hid (fun (X : World) (hX : Below w.heap.size w X) => Has_any (hring.below hX) o)
  have t0 : W.cell? ⟨w.heap.size, 0, none⟩ = some (.slice A r.row.length c) := bcell Q0.out 0
  cases hmay : mayB o with
  | false =>
    have hv : addR r o = r := by unfold addR; rw [if_neg (by rw [hmay]; simp)]
    rw [hv]
    have HM := Lib.hid hmay
    clear hv hmay h hcs hW q0 z0 qb hsz hring hC hc
    go_enter Try.func32, Try.ntmps32
    go_wp2_with fail
    rw [← HW.out]
    go_wp2_with (first
      | (go_at_call 75; (refine (may_any _ _).mono ?_); rw [HM.out]; rintro e w1 ⟨rfl, rfl⟩)
      | ((with_reducible refine gate_dst (N := 20) rfl ?_); refine wl_load rfl rfl rfl (Q0.out) h16 ?_; refine wl_store rfl rfl rfl rfl h1 (Z0.out) rfl h16 ?_; intro Y hY hu; have HY := Lib.hid hY; have HU := Aside0.mk hu; clear hY hu))
    have hb : Below w.heap.size w Y := QB.out.trans (HU.out.below QB.out.size (fun k hk => by omega))
    exact bodyPost_ret (res_ring Try.results32 _ rfl HY.out h16) rfl ⟨_, rfl, RingIs.of (HROW.out.below hb) h16, hb⟩
  | true =>
    by_cases hin : o ∈ r.row
    · have hv : addR r o = r := by unfold addR; rw [if_neg (by simp [hin])]
      have hd : decide (o ∈ r.row) = true := decide_eq_true hin
      rw [hv]
      have HM := Lib.hid hmay
      have HD := Lib.hid hd
      clear hv hmay h hcs hW q0 z0 qb hsz hin hd hring hC hc
      go_enter Try.func32, Try.ntmps32
      go_wp2_with fail
      rw [← HW.out]
      go_wp2_with (first
        | (go_at_call 75; (refine (may_any _ _).mono ?_); rw [HM.out]; rintro e w1 ⟨rfl, rfl⟩)
        | ((with_reducible refine gate_dst (N := 8) rfl ?_); refine wl_loadG (by rfl) rfl rfl (Q0.out) h16 ?_)
        | (go_at_call 39; (refine (HHAS.out _ QB.out).mono ?_); rw [HD.out]; rintro e w2 ⟨rfl, hb⟩; have HB2 := Aside0.mk hb; clear hb)
        | ((with_reducible refine gate_dst (N := 20) rfl ?_); refine wl_load rfl rfl rfl ((HB2.out.block _ (by have := HSZ.out; omega)).trans Q0.out) h16 ?_; refine wl_store rfl rfl rfl rfl h1 ((HB2.out.block _ (by have := HSZ.out; omega)).trans Z0.out) rfl h16 ?_; intro Y hY hu; have HY := Lib.hid hY; have HU := Aside0.mk hu; clear hY hu))
      have hb : Below w.heap.size w Y := (QB.out.trans (HB2.out.mono QB.out.size)).trans (HU.out.below (Nat.le_trans QB.out.size HB2.out.size) (fun k hk => by omega))
      exact bodyPost_ret (res_ring Try.results32 _ rfl HY.out h16) rfl ⟨_, rfl, RingIs.of (HROW.out.below hb) h16, hb⟩
    · have hv : addR r o = { r with row := r.row ++ [o] } := by unfold addR; rw [if_pos ⟨hmay, hin⟩]
      have hd : decide (o ∈ r.row) = false := decide_eq_false hin
      rw [hv]
      have HM := Lib.hid hmay
      have HD := Lib.hid hd
      clear hv hmay h hcs hW q0 z0 qb hsz hin hd hring hC hc
      go_enter Try.func32, Try.ntmps32
      go_wp2_with fail
      rw [← HW.out]
      go_wp2_with (first
        | (go_at_call 75; (refine (may_any _ _).mono ?_); rw [HM.out]; rintro e w1 ⟨rfl, rfl⟩)
        | ((with_reducible refine gate_dst (N := 8) rfl ?_); refine wl_loadG (by rfl) rfl rfl (Q0.out) h16 ?_)
        | (go_at_call 39; (refine (HHAS.out _ QB.out).mono ?_); rw [HD.out]; rintro e w2 ⟨rfl, hb⟩; have t2 : w2.cell? ⟨w.heap.size, 0, none⟩ = some (.slice A r.row.length c) := bcell ((hb.block _ (by have := HSZ.out; omega)).trans Q0.out) 0; have HB2 := Aside0.mk hb; clear hb)
        | (go_at_call 76; (refine (HCL.out _ (QB.out.trans (HB2.out.mono QB.out.size))).mono ?_); rintro e w3 ⟨v3, rfl, hR, hb⟩; have HR3 := Aside0.mk hR; have HB3 := Aside0.mk (HB2.out.trans (hb.mono HB2.out.size)); clear hR hb)
        | (at_builtin; refine Kd.R_append kI (w0 := W) W.heap.size rfl (.tmp 15) (.tmp 17) 44 TI (.int .i64 0) 8 rfl Try.underlying44 info_int rfl (by decide) (by decide) v3 r.row o [.int .i64 o] (fun _ => True) (fun _ => False) rfl rfl rfl (fun _ h => h.elim) (fun j hj => trivial) (Kd.R_lower HR3.out HB2.out.size) HB3.out HB3.out.size (by omega) ?_; intro v4 w4 hr4 hb4 hg4 hat4; clear hg4 hat4; obtain ⟨A4, c4, rfl⟩ := Kd.R_slice hr4; have t4 : w4.cell? ⟨w.heap.size, 0, none⟩ = some (.slice A r.row.length c) := bcell ((hb4.block _ (by have := HSZ.out; omega)).trans Q0.out) 0; have f4 : w4.frozen? ⟨w.heap.size, 0, none⟩ = false := bfrozen ((hb4.block _ (by have := HSZ.out; omega)).trans Q0.out) 0; have HR4 := Aside0.mk hr4; have HB4 := Aside0.mk hb4; clear hr4 hb4)
        | ((with_reducible refine gate_dst (N := 20) rfl ?_); refine wl_load rfl rfl rfl (by rw [← ringC_set0 (.slice A r.row.length c)]; exact bset ((HB4.out.block _ (by have := HSZ.out; omega)).trans Q0.out) 0 _) h16 ?_; refine wl_store rfl rfl rfl rfl rfl ((Below.heap_setCell _ _ _ _ (show w.heap.size + 1 ≠ w.heap.size by omega)).trans ((HB4.out.block _ (by have := HSZ.out; omega)).trans Z0.out)) rfl h16 ?_; intro Y hY hu; have HY := Lib.hid hY; have HU := Aside0.mk hu; clear hY hu))
      have hu2 : Upd (fun k => w.heap.size ≤ k ∧ k < W.heap.size) w4 Y := ((Upd.setCell w4 (p := ⟨w.heap.size, 0, none⟩) (S := fun k => w.heap.size ≤ k ∧ k < W.heap.size) (by have := HSZ.out; show w.heap.size ≤ w.heap.size ∧ w.heap.size < _; omega) _).trans HU.out (fun k hk _ => by have := HSZ.out; omega))
      have hb : Below w.heap.size w Y := (QB.out.trans (HB4.out.mono QB.out.size)).trans (hu2.below (Nat.le_trans QB.out.size HB4.out.size) (fun k hk => by have := HSZ.out; omega))
      have hrow : RowV Y (.slice A4 (r.row.length + 1) c4) (r.row ++ [o]) := by
        rw [show r.row.length + 1 = (r.row ++ [o]).length by simp]
        exact RowV.ofR (row_far HR4.out hu2 (fun k hk => hk.2))
      exact bodyPost_ret (res_ring Try.results32 _ rfl HY.out h16) rfl ⟨_, rfl, RingIs.of (r := { r with row := r.row ++ [o] }) hrow h16, hb⟩
end
end Go.Proofs.Ytkbialmlddhclaa.Ck
