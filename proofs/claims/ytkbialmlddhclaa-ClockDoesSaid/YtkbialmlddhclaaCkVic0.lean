/- Victim of an empty ring: walked. -/
import Derived.Test.YtkbialmlddhclaaCkOwn
import Derived.WalkMore
import Derived.ScopeJumps
namespace Go.Proofs.Ytkbialmlddhclaa.Ck
open Go.RowKit Go.Proofs.YtkbialmlddhclaaW.PrintWords Go.Proofs.YtkbialmlddhclaaW.PrintMore
set_option linter.unusedSimpArgs false
set_option linter.unusedVariables false
theorem res_vic {fn : Func} (h : fn.results = #[.tmp 2, .cell 3 TR, .tmp 4]) (tmps : Array Value) {z : Nat} (ht : tmps.getD 3 undef = .pointer (some ⟨z, 0, none⟩)) {X : World} {v : Value} {ms : List Bool} (hg : X.heap[z]? = some (.cells (ringC v ms).toArray TR (0, 0))) (h16 : ms.length = 16) :
    (results fn tmps).run Try.prog X = .ok (.tuple #[tmps.getD 2 undef, ringV v ms, tmps.getD 4 undef]) X := by
  have hp' : tmps[3]?.getD undef = .pointer (some ⟨z, 0, none⟩) := by simpa using ht
  have hld := run_loadVar_row (P := Try.prog) X _ TR TR _ (0, 0) _ hg Try.underlying47 rfl (by rw [info_ring, ringC_size h16])
  simp [results, h, hp', asAddr, hld, ringV]
section
variable {w : World} {V : Value} {r : RG}
set_option maxHeartbeats 2000000 in
set_option maxRecDepth 100000 in
theorem Victim_none (h : RingIs w V r) (hm : r.row = []) : Calls Try.prog 35 #[V] w fun e w' => ∃ V', e = .returned (.tuple #[.int .i64 0, V', .bool false]) ∧ RingIs w' V' r ∧ Below w.heap.size w w' := by
  obtain ⟨cs, v, rfl, hcs, hrow, h16⟩ := h.cells
  have h1 := hrow.one
  have HROW := Aside0.mk hrow
  have hring : RingIs w (ringV v r.ms) r := RingIs.of hrow h16
  obtain ⟨A, c, rfl, hc, hC, -⟩ := hrow
  obtain ⟨W, hW, q0, z0, qb, hsz⟩ := box_pair (w := w) (cs := cs)
  have HW := Lib.hid hW
  have HRING := Lib.hid hring
  have HCS := Lib.hid hcs
  have Q0 := Lib.hid (hcs ▸ q0)
  have Z0 := Lib.hid z0
  have QB := Aside0.mk qb
  have HSZ := Lib.hid hsz
  have HCL := Lib.hid (fun (X : World) (hX : Below w.heap.size w X) => Clone_any A c r.row X (Kd.C_below hC hX) (by rw [hm]; simp))
  have t0 : W.cell? ⟨w.heap.size, 0, none⟩ = some (.slice A r.row.length c) := bcell Q0.out 0
  have hl : r.row.length = 0 := by rw [hm]; rfl
  rw [hl] at t0
  clear h hcs hW q0 z0 qb hsz hring hC hc hm HCL
  go_enter Try.func35, Try.ntmps35
  go_wp2_with (first
    | (rw [← HW.out]))
  go_step3
  go_wp2
  refine wp_region_held_drew (S := fun w' => w'.heap[w.heap.size]? = some (.cells (ringC (.slice A r.row.length c) r.ms).toArray TR (0, 0))) (by kernel_rfl) Q0.out (fun hHeld => ?_)
  (refine wpAnyH_take (i := 0) (oi := ?oa) (v := ringV (.slice A r.row.length c) r.ms) ?ia (by kernel_rfl) (by kernel_rfl) (by kernel_rfl) ?qa ?ya (by assumption) ?ra; (case ia => (simp only [List.getElem?_toArray, List.getElem?_cons_succ, List.getElem?_cons_zero]; rfl)); (case qa => exact fun _ _ _ h => h); (case ya => (refine Or.inl ⟨by rfl, ?_⟩; intro w9 hSw; have hld := run_loadVar_row (P := Try.prog) w9 _ TR TR _ (0, 0) _ hSw Try.underlying47 rfl (by rw [info_ring, ringC_size h16]); simp only [execOp, Act.eval, List.getElem?_toArray, List.getElem?_cons_succ, List.getElem?_cons_zero, Array.getD_eq_getD_getElem?, Option.getD_some, Instr.loadAt, Instr.sureAddr, Sem.run_bind, Sem.run_pure, Result.andThen_ok, hld]; rfl)))
  try simp only [Act.put, List.setIfInBounds_toArray, List.set_cons_zero, List.set_cons_succ]
  (refine wpAnyH_take (i := 1) (oi := ?ob) (v := ?vb) ?ib (by kernel_rfl) (by kernel_rfl) (by kernel_rfl) ?qb ?yb (by assumption) ?rb; (case ib => (simp only [List.getElem?_toArray, List.getElem?_cons_succ, List.getElem?_cons_zero]; rfl)); (case qb => exact fun _ _ _ h => h); (case yb => (refine Or.inl ⟨by rfl, ?_⟩; intro w hSw; (try dsimp only at hSw); go_simp; (try (with_reducible rfl)))))
  try simp only [Act.put, List.setIfInBounds_toArray, List.set_cons_zero, List.set_cons_succ]
  refine wpAnyH_ready (rs := [2]) (by kernel_rfl) (by simp) ?_
  refine AllReadyH.cons (by (simp only [List.getElem?_toArray, List.getElem?_cons_succ, List.getElem?_cons_zero]; rfl)) (fun K hK => ?_) AllReadyH.nil
  refine st_store (by rfl) rfl rfl rfl h1 Z0.out rfl h16 ?_
  intro Y hY hu
  have HY := Lib.hid hY
  have HU := Aside0.mk hu
  refine hK.out _ _ ((hu.block _ (by have := blt Q0.out; exact this) (by omega)).trans Q0.out) (fun hHeld => ?_)
  clear hK K hY hu
  try simp only [Act.put, List.setIfInBounds_toArray, List.set_cons_zero, List.set_cons_succ]
  (refine wpAnyH_take (i := 3) (oi := ?oc) (v := ?vc) ?ic (by kernel_rfl) (by kernel_rfl) (by kernel_rfl) ?qc ?yc (by assumption) ?rc; (case ic => (simp only [List.getElem?_toArray, List.getElem?_cons_succ, List.getElem?_cons_zero]; rfl)); (case qc => exact fun _ _ _ h => h); (case yc => (refine Or.inl ⟨by rfl, ?_⟩; intro w hSw; (try dsimp only at hSw); go_simp; (try (with_reducible rfl)))))
  try simp only [Act.put, List.setIfInBounds_toArray, List.set_cons_zero, List.set_cons_succ]
  refine wpAnyH_done (by kernel_rfl) ?_ _
  go_wp2
  rw [Exit.noGoto_ret]
  have hb : Below w.heap.size w Y := QB.out.trans ((show Upd (fun k => k = w.heap.size + 1) W Y from ⟨HU.out.os, HU.out.tape, HU.out.output, HU.out.size, HU.out.block⟩).below QB.out.size (fun k hk => by omega))
  exact bodyPost_ret (res_vic Try.results35 _ rfl HY.out h16) rfl ⟨_, rfl, RingIs.of (HROW.out.below hb) h16, hb⟩
end
end Go.Proofs.Ytkbialmlddhclaa.Ck
