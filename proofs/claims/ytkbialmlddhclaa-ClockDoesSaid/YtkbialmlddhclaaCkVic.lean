/- Victim of a ring that has somebody: walked. -/
import Derived.Test.YtkbialmlddhclaaCkVic0
import Derived.WalkMore
import Derived.ScopeJumps
namespace Go.Proofs.Ytkbialmlddhclaa.Ck
open Go.RowKit Go.Proofs.YtkbialmlddhclaaW.PrintWords Go.Proofs.YtkbialmlddhclaaW.PrintMore
set_option linter.unusedSimpArgs false
set_option linter.unusedVariables false
def isT : Value → Bool
  | .bool true => true
  | _ => false
/-- How many marks a block has. -/
def marksIn (g : Nat) (w : World) : Nat := match w.heap[g]? with
  | some (.cells cs _ _) => (cs.toList.filter isT).length
  | _ => 0
theorem marksIn_ring {g : Nat} {w : World} {A : Option Addr} {n c : Nat} {ms : List Bool} {T : TypeId} {fr : Nat × Nat} (h : w.heap[g]? = some (.cells (ringC (.slice A n c) ms).toArray T fr)) : marksIn g w = cntT ms := by
  unfold marksIn
  rw [h]
  simp only [ringC, cntT]
  rw [List.filter_cons_of_neg (by simp [isT]), List.filter_map, List.length_map]
  congr 2
  funext b
  cases b <;> rfl
theorem new_cell {X : World} {p : Addr} {u v : Value} {T : TypeId} : ((X.setCell p u).alloc (.cells #[v] T)).cell? ⟨X.heap.size, 0, none⟩ = some v := by
  have h := blk_new (X.setCell p u) (.cells #[v] T)
  have hs : (X.setCell p u).heap.size = X.heap.size := by simp [World.setCell]
  rw [hs] at h
  exact bcell h 0
structure VJ (w W : World) (A : Option Addr) (c : Nat) (r : RG) (cs : Array Value) (v : Value) (l : List Int) (ms : List Bool) (X : World) : Prop where
  own : IOwn W.heap.size X v l
  len : l.length = r.row.length
  rng : ∀ x ∈ l, 0 ≤ x ∧ x < 16
  g : X.heap[w.heap.size]? = some (.cells (ringC (.slice A r.row.length c) ms).toArray TR (0, 0))
  z : X.heap[w.heap.size + 1]? = some ZR
  below : Below w.heap.size w X
  size : W.heap.size ≤ X.heap.size
  eq : vict (cntT ms) l ms = victR r
  m16 : ms.length = 16
theorem VJ.next {w W : World} {A : Option Addr} {c : Nat} {r : RG} {cs : Array Value} {v v3 : Value} {n : Nat} {l' : List Int} {ms : List Bool} {X Y : World} (hJ : VJ w W A c r cs v ((n : Int) :: l') ms X) (hI : IOwn W.heap.size Y v3 (l' ++ [(n : Int)]))
    (hu : Upd (fun k => W.heap.size ≤ k) ((X.setCell ⟨w.heap.size, 1 + n, none⟩ (.bool false)).alloc (.cells #[.int .i64 (n : Int)] TI)) Y) (hsz : W.heap.size = w.heap.size + 2) (hb : ms[n]? = some true) : VJ w W A c r cs v3 (l' ++ [(n : Int)]) (ms.set n false) Y ∧ marksIn w.heap.size Y < marksIn w.heap.size X := by
  have hXs := hJ.size
  have hs1 : (X.setCell ⟨w.heap.size, 1 + n, none⟩ (.bool false)).heap.size = X.heap.size := by simp [World.setCell]
  have hs2 : ((X.setCell ⟨w.heap.size, 1 + n, none⟩ (.bool false)).alloc (.cells #[.int .i64 (n : Int)] TI)).heap.size = X.heap.size + 1 := by rw [size_alloc, hs1]
  have hg : Y.heap[w.heap.size]? = some (.cells (ringC (.slice A r.row.length c) (ms.set n false)).toArray TR (0, 0)) := by
    refine (hu.block _ (by rw [hs2]; omega) (by omega)).trans ((Below.heap_alloc _ _ _ (by rw [hs1]; omega)).trans ?_)
    rw [← ringC_set]
    exact bset hJ.g _ _
  have hz : Y.heap[w.heap.size + 1]? = some ZR := (hu.block _ (by rw [hs2]; omega) (by omega)).trans ((Below.heap_alloc _ _ _ (by rw [hs1]; omega)).trans ((Below.heap_setCell _ _ _ _ (show w.heap.size + 1 ≠ w.heap.size by omega)).trans hJ.z))
  have hc := cntT_set hb
  refine ⟨⟨hI, by have := hJ.len; simp at this ⊢; omega, fun x hx => hJ.rng x (by simp at hx ⊢; exact hx.symm), hg, hz, ?_, by have := hu.size; omega, ?_, by simp [hJ.m16]⟩, ?_⟩
  · have h1 : Upd (fun k => w.heap.size ≤ k) X ((X.setCell ⟨w.heap.size, 1 + n, none⟩ (.bool false)).alloc (.cells #[.int .i64 (n : Int)] TI)) := (Upd.setCell X (p := ⟨w.heap.size, 1 + n, none⟩) (S := fun k => w.heap.size ≤ k) (Nat.le_refl _) _).trans (Upd.alloc _ _ _) (fun k hk _ => hk)
    exact hJ.below.trans ((h1.trans hu (fun k hk _ => by omega)).below (by omega) (fun k hk => hk))
  · rw [← hJ.eq, hc]
    conv => rhs; unfold vict
    rw [if_pos (by rw [Int.toNat_natCast, List.getD_eq_getElem?_getD, hb]; rfl), Int.toNat_natCast]
  · rw [marksIn_ring hg, marksIn_ring hJ.g]
    omega
section
variable {w : World} {V : Value} {r : RG}
set_option maxHeartbeats 4000000 in
set_option maxRecDepth 100000 in
theorem Victim_some (h : RingIs w V r) (h0 : 0 < r.row.length) (hm : r.row.length ≤ 1000) (hr : ∀ x ∈ r.row, 0 ≤ x ∧ x < 16) : Calls Try.prog 35 #[V] w fun e w' => ∃ V', e = .returned (.tuple #[.int .i64 (victR r).1, V', .bool true]) ∧ RingIs w' V' (victR r).2 ∧ Below w.heap.size w w' := by
  obtain ⟨cs, v, rfl, hcs, hrow, h16⟩ := h.cells
  have h1 := hrow.one
  have HROW := Aside0.mk hrow
  have hring : RingIs w (ringV v r.ms) r := RingIs.of hrow h16
  obtain ⟨A, c, rfl, hc, hC, -⟩ := hrow
  obtain ⟨W, hW, q0, z0, qb, hsz⟩ := box_pair (w := w) (cs := cs)
  have HW := Lib.hid hW
  have HRING := Lib.hid hring
  have HCS := Lib.hid hcs
  have Q0 := Lib.hid (hcs ▸ q0)
  have Z0 := Lib.hid z0
  have QB := Aside0.mk qb
  have HSZ := Lib.hid hsz
  have HCL := Lib.hid (fun (X : World) (hX : Below w.heap.size w X) => Clone_any A c r.row X (Kd.C_below hC hX) (by omega))
  have t0 : W.cell? ⟨w.heap.size, 0, none⟩ = some (.slice A r.row.length c) := bcell Q0.out 0
  have e1 : ((r.row.length : Int) == 0) = false := by simp; intro he; rw [he] at h0; simp at h0
  have HR := Lib.hid hr
  have Z1 := Lib.hid z0
  clear h hcs hW q0 z0 qb hsz hring hC hc hr
  go_enter Try.func35, Try.ntmps35
  go_wp2_with (first
    | (rw [← HW.out]))
  refine wp_scope_jumps 0 (fun a' X => ∃ (v : Value) (l : List Int) (ms : List Bool) (u6 u7 u8 u9 u10 u11 u12 u13 u14 u15 u16 u17 u18 u19 u20 u21 u22 u23 u24 u25 u26 u27 u28 u29 u30 u31 u32 u33 : Value), a' = { tmps := #[.agg cs, .pointer (some ⟨w.heap.size, 0, none⟩), .int .i64 0, .pointer (some ⟨w.heap.size + 1, 0, none⟩), .bool false, v, u6, u7, u8, u9, u10, u11, u12, u13, u14, u15, u16, u17, u18, u19, u20, u21, u22, u23, u24, u25, u26, u27, u28, u29, u30, u31, u32, u33], defers := [] } ∧ VJ w W A c r cs v l ms X) (fun a' X => marksIn w.heap.size X) rfl ?_ ?_
  · go_wp2_with (go_at_call 76; (refine (HCL.out _ QB.out).mono ?_); rintro e X ⟨v, rfl, hR, hb⟩; have HR3 := Aside0.mk hR; have HB3 := Aside0.mk hb; clear hR hb)
    have hJ : VJ w W A c r cs v r.row r.ms X := ⟨IOwn.ofR HR3.out h0, rfl, HR.out, (HB3.out.block _ (blt Q0.out)).trans Q0.out, (HB3.out.block _ (blt Z0.out)).trans Z0.out, QB.out.trans (HB3.out.mono QB.out.size), HB3.out.size, rfl, h16⟩
    obtain ⟨ms, hms⟩ : ∃ ms, ms = r.ms := ⟨_, rfl⟩
    obtain ⟨l, hl⟩ : ∃ l, l = r.row := ⟨_, rfl⟩
    rw [← hms, ← hl] at hJ
    clear hms hl HR3 HB3 HCL t0
    have hne : l ≠ [] := fun he => by have := hJ.len; rw [he] at this; simp at this; omega
    obtain ⟨x, l', rfl⟩ : ∃ x l', l = x :: l' := by
      cases l with
      | nil => exact absurd rfl hne
      | cons x l' => exact ⟨x, l', rfl⟩
    have hx2 := hJ.rng x (by simp)
    obtain ⟨n, rfl⟩ := Int.eq_ofNat_of_zero_le hx2.1
    have n0 : (0 : Int) ≤ (n : Int) := by omega
    have n1 : (n : Int) < 16 := by omega
    obtain ⟨gg, off, c2, rfl, hc2, hx0, htl⟩ := hJ.own.tail
    have hm16 := hJ.m16
    obtain ⟨b, hb⟩ : ∃ b, ms[n]? = some b := ⟨_, List.getElem?_eq_getElem (by omega)⟩
    have k1 : X.cell? ⟨w.heap.size, 1 + n, none⟩ = some (.bool b) := (bcell hJ.g (1 + n)).trans (ringC_get hb)
    have f1 : X.frozen? ⟨w.heap.size, 1 + n, none⟩ = false := bfrozen hJ.g _
    have ll : (0 : Int) < ((l'.length + 1 : Nat) : Int) := by omega
    have hll : l'.length + 1 ≤ 1000 := by have := hJ.len; simp at this; omega
    have HJ := Lib.hid hJ
    have HTL := Lib.hid htl
    have HBB := Lib.hid hb
    clear hJ hne hx2 htl hb
    cases b with
    | true =>
      have hsl : Upd (fun k => k = w.heap.size) X ((X.setCell ⟨w.heap.size, 1 + n, none⟩ (.bool false)).alloc (.cells #[.int .i64 (n : Int)] TI)) := (Upd.setCell X (p := ⟨w.heap.size, 1 + n, none⟩) (S := fun k => k = w.heap.size) rfl _).trans (Upd.alloc _ _ _) (fun k hk _ => hk)
      by_cases hc1 : c2 = 1
      · have hl0 : l'.length = 0 := by omega
        rw [if_pos hc1] at HTL
        obtain rfl : l' = [] := List.eq_nil_of_length_eq_zero hl0
        subst hc1
        go_step3
        go_wp2_with (((with_reducible refine gate_dst (N := 29) rfl ?_); (refine wl_append rfl rfl (base := W.heap.size) (l := []) rfl (HTL.out.step (fun k h1 h2 => hsl.block k h2 (by have := HSZ.out; omega))) rfl new_cell (Nat.le_trans HJ.out.size hsl.size) (by omega) ?_; intro v3 Y hI hu; have HI := Lib.hid hI; have HU := Aside0.mk hu; clear hI hu)))
        go_step3
        obtain ⟨h1, h2⟩ := HJ.out.next HI.out HU.out HSZ.out HBB.out
        exact ⟨rfl, _, _, _, _, _, _, _, _, _, _, _, _, _, _, _, _, _, _, _, _, _, _, _, _, _, _, _, _, _, _, _, rfl, h1⟩
      · rw [if_neg hc1] at HTL
        have hl1 : l'.length < c2 := by omega
        go_step3
        go_wp2_with (((with_reducible refine gate_dst (N := 29) rfl ?_); (refine wl_append rfl rfl (base := W.heap.size) (l := l') rfl (HTL.out.step (fun k h1 h2 => hsl.block k h2 (by have := HSZ.out; omega))) rfl new_cell (Nat.le_trans HJ.out.size hsl.size) (by omega) ?_; intro v3 Y hI hu; have HI := Lib.hid hI; have HU := Aside0.mk hu; clear hI hu)))
        go_step3
        obtain ⟨h1, h2⟩ := HJ.out.next HI.out HU.out HSZ.out HBB.out
        exact ⟨rfl, _, _, _, _, _, _, _, _, _, _, _, _, _, _, _, _, _, _, _, _, _, _, _, _, _, _, _, _, _, _, _, rfl, h1⟩
    | false =>
      have k0 : X.cell? ⟨w.heap.size, 0, none⟩ = some (.slice A r.row.length c) := bcell HJ.out.g 0
      have f0 : X.frozen? ⟨w.heap.size, 0, none⟩ = false := bfrozen HJ.out.g _
      go_step3
      go_wp2
      obtain ⟨X1, hX1⟩ : ∃ X1, X1 = X.setCell ⟨w.heap.size, 0, none⟩ (.slice (some ⟨gg, off, none⟩) (l'.length + 1) c2) := ⟨_, rfl⟩
      rw [← hX1]
      have hu1 : Upd (fun k => k = w.heap.size) X X1 := by rw [hX1]; exact Upd.setCell X (p := ⟨w.heap.size, 0, none⟩) (S := fun k => k = w.heap.size) rfl _
      have hq1 : X1.heap[w.heap.size]? = some (.cells (ringC (.slice (some ⟨gg, off, none⟩) (l'.length + 1) c2) ms).toArray TR (0, 0)) := by
        rw [hX1, ← ringC_set0 (.slice A r.row.length c)]
        exact bset HJ.out.g _ _
      have hz1 : X1.heap[w.heap.size + 1]? = some ZR := (hu1.block _ (blt HJ.out.z) (by omega)).trans HJ.out.z
      have HQ1 := Lib.hid hq1
      have HZ1 := Lib.hid hz1
      have HU1 := Aside0.mk hu1
      clear hX1 hu1 hz1 k0 f0 k1 f1 hx0
      refine wp_region_held_drew (S := fun w' => w'.heap[w.heap.size]? = some (.cells (ringC (.slice (some ⟨gg, off, none⟩) (l'.length + 1) c2) ms).toArray TR (0, 0))) (by kernel_rfl) hq1 (fun hHeld => ?_)
      clear hq1
      (refine wpAnyH_take (i := 0) (oi := ?om1) (v := ?vm1) ?im1 (by kernel_rfl) (by kernel_rfl) (by kernel_rfl) ?qm1 ?ym1 (by assumption) ?rm1; (case im1 => (simp only [List.getElem?_toArray, List.getElem?_cons_succ, List.getElem?_cons_zero]; rfl)); (case qm1 => exact fun _ _ _ h => h); (case ym1 => (refine Or.inl ⟨by rfl, ?_⟩; intro w hSw; (try dsimp only at hSw); go_simp; (try (with_reducible rfl)))))
      try simp only [Act.put, List.setIfInBounds_toArray, List.set_cons_zero, List.set_cons_succ]
      (refine wpAnyH_take (i := 1) (oi := ?om2) (v := ringV (.slice (some ⟨gg, off, none⟩) (l'.length + 1) c2) ms) ?im2 (by kernel_rfl) (by kernel_rfl) (by kernel_rfl) ?qm2 ?ym2 (by assumption) ?rm2; (case im2 => (simp only [List.getElem?_toArray, List.getElem?_cons_succ, List.getElem?_cons_zero]; rfl)); (case qm2 => exact fun _ _ _ h => h); (case ym2 => (refine Or.inl ⟨by rfl, ?_⟩; intro w9 hSw; have hld := run_loadVar_row (P := Try.prog) w9 _ TR TR _ (0, 0) _ hSw Try.underlying47 rfl (by rw [info_ring, ringC_size hm16]); simp only [execOp, Act.eval, List.getElem?_toArray, List.getElem?_cons_succ, List.getElem?_cons_zero, Array.getD_eq_getD_getElem?, Option.getD_some, Instr.loadAt, Instr.sureAddr, Sem.run_bind, Sem.run_pure, Result.andThen_ok, hld]; rfl)))
      try simp only [Act.put, List.setIfInBounds_toArray, List.set_cons_zero, List.set_cons_succ]
      (refine wpAnyH_take (i := 2) (oi := ?om3) (v := ?vm3) ?im3 (by kernel_rfl) (by kernel_rfl) (by kernel_rfl) ?qm3 ?ym3 (by assumption) ?rm3; (case im3 => (simp only [List.getElem?_toArray, List.getElem?_cons_succ, List.getElem?_cons_zero]; rfl)); (case qm3 => exact fun _ _ _ h => h); (case ym3 => (refine Or.inl ⟨by rfl, ?_⟩; intro w hSw; (try dsimp only at hSw); go_simp; (try (with_reducible rfl)))))
      try simp only [Act.put, List.setIfInBounds_toArray, List.set_cons_zero, List.set_cons_succ]
      refine wpAnyH_ready (rs := [3]) (by kernel_rfl) (by simp) ?_
      refine AllReadyH.cons (by (simp only [List.getElem?_toArray, List.getElem?_cons_succ, List.getElem?_cons_zero]; rfl)) (fun K hK => ?_) AllReadyH.nil
      refine st_store (by rfl) rfl rfl rfl rfl HZ1.out rfl hm16 ?_
      intro Y hY hu
      have HY := Lib.hid hY
      have hu2 : Upd (fun k => w.heap.size ≤ k ∧ k < W.heap.size) X Y := (HU1.out.mono (fun k hk _ => by have := HSZ.out; omega)).trans (show Upd (fun k => k = w.heap.size + 1) X1 Y from ⟨hu.os, hu.tape, hu.output, hu.size, hu.block⟩) (fun k hk _ => by have := HSZ.out; omega)
      have HU2 := Aside0.mk hu2
      refine hK.out _ _ ((hu.block _ (blt HQ1.out) (by omega)).trans HQ1.out) (fun hHeld => ?_)
      clear hK K hY hu hu2
      try simp only [Act.put, List.setIfInBounds_toArray, List.set_cons_zero, List.set_cons_succ]
      (refine wpAnyH_take (i := 4) (oi := ?om4) (v := ?vm4) ?im4 (by kernel_rfl) (by kernel_rfl) (by kernel_rfl) ?qm4 ?ym4 (by assumption) ?rm4; (case im4 => (simp only [List.getElem?_toArray, List.getElem?_cons_succ, List.getElem?_cons_zero]; rfl)); (case qm4 => exact fun _ _ _ h => h); (case ym4 => (refine Or.inl ⟨by rfl, ?_⟩; intro w hSw; (try dsimp only at hSw); go_simp; (try (with_reducible rfl)))))
      try simp only [Act.put, List.setIfInBounds_toArray, List.set_cons_zero, List.set_cons_succ]
      refine wpAnyH_done (by kernel_rfl) ?_ _
      go_wp2
      simp only [Exit.jump]
      have hb : Below w.heap.size w Y := HJ.out.below.trans (HU2.out.below (by have := HJ.out.size; have := HSZ.out; omega) (fun k hk => hk.1))
      have hro := (HJ.out.own.step (w' := Y) (fun k h1 h2 => HU2.out.block k h2 (fun h => by omega))).row
      have hv : victR r = ((n : Int), ⟨(n : Int) :: l', ms⟩) := by
        rw [← HJ.out.eq, vict_stop (by rw [Int.toNat_natCast, List.getD_eq_getElem?_getD, HBB.out]; rfl)]
      exact bodyPost_ret (res_vic Try.results35 _ rfl HY.out hm16) rfl ⟨_, by rw [hv]; rfl, by rw [hv]; exact RingIs.of (r := ⟨(n : Int) :: l', ms⟩) hro hm16, hb⟩
  · rintro a' X ⟨v, l, ms, u6, u7, u8, u9, u10, u11, u12, u13, u14, u15, u16, u17, u18, u19, u20, u21, u22, u23, u24, u25, u26, u27, u28, u29, u30, u31, u32, u33, rfl, hJ⟩
    dsimp only
    clear HCL t0
    have hne : l ≠ [] := fun he => by have := hJ.len; rw [he] at this; simp at this; omega
    obtain ⟨x, l', rfl⟩ : ∃ x l', l = x :: l' := by
      cases l with
      | nil => exact absurd rfl hne
      | cons x l' => exact ⟨x, l', rfl⟩
    have hx2 := hJ.rng x (by simp)
    obtain ⟨n, rfl⟩ := Int.eq_ofNat_of_zero_le hx2.1
    have n0 : (0 : Int) ≤ (n : Int) := by omega
    have n1 : (n : Int) < 16 := by omega
    obtain ⟨gg, off, c2, rfl, hc2, hx0, htl⟩ := hJ.own.tail
    have hm16 := hJ.m16
    obtain ⟨b, hb⟩ : ∃ b, ms[n]? = some b := ⟨_, List.getElem?_eq_getElem (by omega)⟩
    have k1 : X.cell? ⟨w.heap.size, 1 + n, none⟩ = some (.bool b) := (bcell hJ.g (1 + n)).trans (ringC_get hb)
    have f1 : X.frozen? ⟨w.heap.size, 1 + n, none⟩ = false := bfrozen hJ.g _
    have ll : (0 : Int) < ((l'.length + 1 : Nat) : Int) := by omega
    have hll : l'.length + 1 ≤ 1000 := by have := hJ.len; simp at this; omega
    have HJ := Lib.hid hJ
    have HTL := Lib.hid htl
    have HBB := Lib.hid hb
    clear hJ hne hx2 htl hb
    cases b with
    | true =>
      have hsl : Upd (fun k => k = w.heap.size) X ((X.setCell ⟨w.heap.size, 1 + n, none⟩ (.bool false)).alloc (.cells #[.int .i64 (n : Int)] TI)) := (Upd.setCell X (p := ⟨w.heap.size, 1 + n, none⟩) (S := fun k => k = w.heap.size) rfl _).trans (Upd.alloc _ _ _) (fun k hk _ => hk)
      by_cases hc1 : c2 = 1
      · have hl0 : l'.length = 0 := by omega
        rw [if_pos hc1] at HTL
        obtain rfl : l' = [] := List.eq_nil_of_length_eq_zero hl0
        subst hc1
        skip
        go_wp2_with (((with_reducible refine gate_dst (N := 29) rfl ?_); (refine wl_append rfl rfl (base := W.heap.size) (l := []) rfl (HTL.out.step (fun k h1 h2 => hsl.block k h2 (by have := HSZ.out; omega))) rfl new_cell (Nat.le_trans HJ.out.size hsl.size) (by omega) ?_; intro v3 Y hI hu; have HI := Lib.hid hI; have HU := Aside0.mk hu; clear hI hu)))
        go_step3
        obtain ⟨h1, h2⟩ := HJ.out.next HI.out HU.out HSZ.out HBB.out
        exact ⟨rfl, ⟨_, _, _, _, _, _, _, _, _, _, _, _, _, _, _, _, _, _, _, _, _, _, _, _, _, _, _, _, _, _, _, rfl, h1⟩, h2⟩
      · rw [if_neg hc1] at HTL
        have hl1 : l'.length < c2 := by omega
        skip
        go_wp2_with (((with_reducible refine gate_dst (N := 29) rfl ?_); (refine wl_append rfl rfl (base := W.heap.size) (l := l') rfl (HTL.out.step (fun k h1 h2 => hsl.block k h2 (by have := HSZ.out; omega))) rfl new_cell (Nat.le_trans HJ.out.size hsl.size) (by omega) ?_; intro v3 Y hI hu; have HI := Lib.hid hI; have HU := Aside0.mk hu; clear hI hu)))
        go_step3
        obtain ⟨h1, h2⟩ := HJ.out.next HI.out HU.out HSZ.out HBB.out
        exact ⟨rfl, ⟨_, _, _, _, _, _, _, _, _, _, _, _, _, _, _, _, _, _, _, _, _, _, _, _, _, _, _, _, _, _, _, rfl, h1⟩, h2⟩
    | false =>
      have k0 : X.cell? ⟨w.heap.size, 0, none⟩ = some (.slice A r.row.length c) := bcell HJ.out.g 0
      have f0 : X.frozen? ⟨w.heap.size, 0, none⟩ = false := bfrozen HJ.out.g _
      skip
      go_wp2
      obtain ⟨X1, hX1⟩ : ∃ X1, X1 = X.setCell ⟨w.heap.size, 0, none⟩ (.slice (some ⟨gg, off, none⟩) (l'.length + 1) c2) := ⟨_, rfl⟩
      rw [← hX1]
      have hu1 : Upd (fun k => k = w.heap.size) X X1 := by rw [hX1]; exact Upd.setCell X (p := ⟨w.heap.size, 0, none⟩) (S := fun k => k = w.heap.size) rfl _
      have hq1 : X1.heap[w.heap.size]? = some (.cells (ringC (.slice (some ⟨gg, off, none⟩) (l'.length + 1) c2) ms).toArray TR (0, 0)) := by
        rw [hX1, ← ringC_set0 (.slice A r.row.length c)]
        exact bset HJ.out.g _ _
      have hz1 : X1.heap[w.heap.size + 1]? = some ZR := (hu1.block _ (blt HJ.out.z) (by omega)).trans HJ.out.z
      have HQ1 := Lib.hid hq1
      have HZ1 := Lib.hid hz1
      have HU1 := Aside0.mk hu1
      clear hX1 hu1 hz1 k0 f0 k1 f1 hx0
      refine wp_region_held_drew (S := fun w' => w'.heap[w.heap.size]? = some (.cells (ringC (.slice (some ⟨gg, off, none⟩) (l'.length + 1) c2) ms).toArray TR (0, 0))) (by kernel_rfl) hq1 (fun hHeld => ?_)
      clear hq1
      (refine wpAnyH_take (i := 0) (oi := ?op1) (v := ?vp1) ?ip1 (by kernel_rfl) (by kernel_rfl) (by kernel_rfl) ?qp1 ?yp1 (by assumption) ?rp1; (case ip1 => (simp only [List.getElem?_toArray, List.getElem?_cons_succ, List.getElem?_cons_zero]; rfl)); (case qp1 => exact fun _ _ _ h => h); (case yp1 => (refine Or.inl ⟨by rfl, ?_⟩; intro w hSw; (try dsimp only at hSw); go_simp; (try (with_reducible rfl)))))
      try simp only [Act.put, List.setIfInBounds_toArray, List.set_cons_zero, List.set_cons_succ]
      (refine wpAnyH_take (i := 1) (oi := ?op2) (v := ringV (.slice (some ⟨gg, off, none⟩) (l'.length + 1) c2) ms) ?ip2 (by kernel_rfl) (by kernel_rfl) (by kernel_rfl) ?qp2 ?yp2 (by assumption) ?rp2; (case ip2 => (simp only [List.getElem?_toArray, List.getElem?_cons_succ, List.getElem?_cons_zero]; rfl)); (case qp2 => exact fun _ _ _ h => h); (case yp2 => (refine Or.inl ⟨by rfl, ?_⟩; intro w9 hSw; have hld := run_loadVar_row (P := Try.prog) w9 _ TR TR _ (0, 0) _ hSw Try.underlying47 rfl (by rw [info_ring, ringC_size hm16]); simp only [execOp, Act.eval, List.getElem?_toArray, List.getElem?_cons_succ, List.getElem?_cons_zero, Array.getD_eq_getD_getElem?, Option.getD_some, Instr.loadAt, Instr.sureAddr, Sem.run_bind, Sem.run_pure, Result.andThen_ok, hld]; rfl)))
      try simp only [Act.put, List.setIfInBounds_toArray, List.set_cons_zero, List.set_cons_succ]
      (refine wpAnyH_take (i := 2) (oi := ?op3) (v := ?vp3) ?ip3 (by kernel_rfl) (by kernel_rfl) (by kernel_rfl) ?qp3 ?yp3 (by assumption) ?rp3; (case ip3 => (simp only [List.getElem?_toArray, List.getElem?_cons_succ, List.getElem?_cons_zero]; rfl)); (case qp3 => exact fun _ _ _ h => h); (case yp3 => (refine Or.inl ⟨by rfl, ?_⟩; intro w hSw; (try dsimp only at hSw); go_simp; (try (with_reducible rfl)))))
      try simp only [Act.put, List.setIfInBounds_toArray, List.set_cons_zero, List.set_cons_succ]
      refine wpAnyH_ready (rs := [3]) (by kernel_rfl) (by simp) ?_
      refine AllReadyH.cons (by (simp only [List.getElem?_toArray, List.getElem?_cons_succ, List.getElem?_cons_zero]; rfl)) (fun K hK => ?_) AllReadyH.nil
      refine st_store (by rfl) rfl rfl rfl rfl HZ1.out rfl hm16 ?_
      intro Y hY hu
      have HY := Lib.hid hY
      have hu2 : Upd (fun k => w.heap.size ≤ k ∧ k < W.heap.size) X Y := (HU1.out.mono (fun k hk _ => by have := HSZ.out; omega)).trans (show Upd (fun k => k = w.heap.size + 1) X1 Y from ⟨hu.os, hu.tape, hu.output, hu.size, hu.block⟩) (fun k hk _ => by have := HSZ.out; omega)
      have HU2 := Aside0.mk hu2
      refine hK.out _ _ ((hu.block _ (blt HQ1.out) (by omega)).trans HQ1.out) (fun hHeld => ?_)
      clear hK K hY hu hu2
      try simp only [Act.put, List.setIfInBounds_toArray, List.set_cons_zero, List.set_cons_succ]
      (refine wpAnyH_take (i := 4) (oi := ?op4) (v := ?vp4) ?ip4 (by kernel_rfl) (by kernel_rfl) (by kernel_rfl) ?qp4 ?yp4 (by assumption) ?rp4; (case ip4 => (simp only [List.getElem?_toArray, List.getElem?_cons_succ, List.getElem?_cons_zero]; rfl)); (case qp4 => exact fun _ _ _ h => h); (case yp4 => (refine Or.inl ⟨by rfl, ?_⟩; intro w hSw; (try dsimp only at hSw); go_simp; (try (with_reducible rfl)))))
      try simp only [Act.put, List.setIfInBounds_toArray, List.set_cons_zero, List.set_cons_succ]
      refine wpAnyH_done (by kernel_rfl) ?_ _
      go_wp2
      simp only [Exit.jump]
      have hb : Below w.heap.size w Y := HJ.out.below.trans (HU2.out.below (by have := HJ.out.size; have := HSZ.out; omega) (fun k hk => hk.1))
      have hro := (HJ.out.own.step (w' := Y) (fun k h1 h2 => HU2.out.block k h2 (fun h => by omega))).row
      have hv : victR r = ((n : Int), ⟨(n : Int) :: l', ms⟩) := by
        rw [← HJ.out.eq, vict_stop (by rw [Int.toNat_natCast, List.getD_eq_getElem?_getD, HBB.out]; rfl)]
      exact bodyPost_ret (res_vic Try.results35 _ rfl HY.out hm16) rfl ⟨_, by rw [hv]; rfl, by rw [hv]; exact RingIs.of (r := ⟨(n : Int) :: l', ms⟩) hro hm16, hb⟩
end
end Go.Proofs.Ytkbialmlddhclaa.Ck
