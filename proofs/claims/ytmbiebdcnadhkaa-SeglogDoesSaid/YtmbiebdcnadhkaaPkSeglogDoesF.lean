/- The parts of this proof, one after the other (wip/tools/packfl.py). -/
import Derived.Test.YtmbiebdcnadhkaaPkSeglogDoesE
import Derived.Test.YtmbiebdcnadhkaaPkSeglogDoesD
import Derived.ProofKit
import Derived.Lib.SmallJoins
import Derived.Test.YtmbiebdcnadhkaaPkSeglogDoesV
/- The document's log: Put over any frame: walked. -/
namespace Go.Proofs.Ytmbiebdcnadhkaa.Fl
open Go.RowKit Go.Proofs.YtmbiebdcnadhkaaW.PrintWords Go.Proofs.YtmbiebdcnadhkaaW.PrintMore Go.Maps
set_option linter.unusedSimpArgs false
set_option linter.unusedVariables false
def RPutPost (N0 r t x cap : Nat) (rest : List Value) (G : (Nat → Prop) → List Pg → World → Prop) (K : Nat → Prop) (w : World) (at_ : Adr) (er : Int) (ps : List Pg) (g : LG) (e : Ending) (w' : World) : Prop :=
  e = .returned (.tuple #[.agg #[.int .i64 at_.1, .int .i64 at_.2], .int .i64 er]) ∧ G K ps w' ∧ RLog r t x cap rest g w' ∧ Below N0 w w' ∧ Kept (fun k => K k ∧ k ≠ r ∧ k ≠ t) w w'
section
variable {N0 x r t cap : Nat} {rest : List Value} {s : Int × Int × Int} {G : (Nat → Prop) → List Pg → World → Prop} {K : Nat → Prop} {ps : List Pg} {g : LG} {w : World} {A : Option Addr} {c : Nat} {l : List Int} {kind need : Int}
theorem rput_end {K2 : Nat → Prop} {X w9 : World} {b : Nat} {a0 a1 v0 v1 : Value} {ps2 : List Pg} {g2 : LG} (hG : RefFrame N0 x s G) (hSt : ∀ ps, Stays (fun K w => G K ps w)) (hf : G K2 ps2 X) (hl : RLog r t x cap rest g2 X) (hr : K r) (ht : K t) (hlt : ∀ k, K k → k < w.heap.size) (hN : N0 ≤ w.heap.size) (hwb : w.heap.size ≤ b) (hb : X.heap[b]? = some (.cells #[a0, a1] TA (0, 0))) (hKb : K2 b) (hKK : ∀ k, K k → K2 k) (hbl : Below N0 w X) (hkp : Kept (fun k => K k ∧ k ≠ r ∧ k ≠ t) w X) (he : w9 = (X.setCell ⟨b, 0, none⟩ v0).setCell ⟨b, 1, none⟩ v1) :
    w9.heap[b]? = some (.cells #[v0, v1] TA (0, 0)) ∧ G K ps2 w9 ∧ RLog r t x cap rest g2 w9 ∧ Below N0 w w9 ∧ Kept (fun k => K k ∧ k ≠ r ∧ k ≠ t) w w9 := by
  subst he
  have hne : r ≠ b := by have := hlt r hr; omega
  have hnt : t ≠ b := by have := hlt t ht; omega
  have hu : Upd (fun k => k = b) X ((X.setCell ⟨b, 0, none⟩ v0).setCell ⟨b, 1, none⟩ v1) := (Upd.setCell X (p := ⟨b, 0, none⟩) (S := fun k => k = b) rfl _).trans (Upd.setCell _ (p := ⟨b, 1, none⟩) (S := fun k => k = b) rfl _) (fun k hk _ => hk)
  have hb9 : ((X.setCell ⟨b, 0, none⟩ v0).setCell ⟨b, 1, none⟩ v1).heap[b]? = some (.cells #[v0, v1] TA (0, 0)) := setCell_blk (setCell_blk hb 0 v0) 1 v1
  exact ⟨hb9, hG.less (hSt ps2 K2 X _ b _ _ _ hf hKb hb hb9 (by decide) hu) hKK, hl.step (hu.block r (blt hl.blk) hne) (hu.block t (blt hl.row) hnt), hbl.trans (hu.below (by have := hbl.size; omega) (fun k hk => by rw [hk]; omega)), fun k hk => (hu.block k (hG.lt hf k (hKK k hk.1)) (fun e => by have := hlt k hk.1; omega)).trans (hkp k hk)⟩
set_option maxHeartbeats 4000000 in
set_option maxRecDepth 100000 in
theorem RPut_head (hG : RefFrame N0 x s G) (hSt : ∀ ps, Stays (fun K w => G K ps w)) (h : G K ps w) (hl : RLog r t x cap rest g w) (hr : K r) (ht : K t) (hNr : N0 ≤ r) (hNt : N0 ≤ t) (hsh : ShapeOk s) (hc : l.length ≤ c) (hm : l.length ≤ 4096) : Calls Try.prog 69 #[.pointer (some ⟨r, 0, none⟩), .int .u8 1, .slice A l.length c, .int .i64 need] w (RPutPost N0 r t x cap rest G K w (0, 0) 1 ps g) := by
  obtain ⟨n, hn⟩ : ∃ n, n = l.length := ⟨_, rfl⟩
  have hsz := hG.size h
  have hlt := fun k hk => hG.lt h k hk
  obtain ⟨okx, hX⟩ := hG.ref h
  obtain ⟨vx, hxb, _⟩ := hX.blk
  obtain ⟨W0, hW0⟩ : ∃ W0, W0 = w.alloc (.cells #[.int .i64 0, .int .i64 0] TA) := ⟨_, rfl⟩
  have wb0 : Below w.heap.size w W0 := by rw [hW0]; exact below_alloc (Below.refl _ _) _
  have wz0 : W0.heap.size = w.heap.size + 1 := by rw [hW0]; exact size_alloc _ _
  have hxb0 := (wb0.block _ (blt hxb)).trans hxb
  have u0 : W0.cell? ⟨x, 0, none⟩ = some (.int .i64 s.1) := bcell hxb0 0
  have u1 : W0.cell? ⟨x, 1, none⟩ = some (.int .i64 s.2.1) := bcell hxb0 1
  have u2 : W0.cell? ⟨x, 2, none⟩ = some (.int .i64 s.2.2) := bcell hxb0 2
  have k0 := (hl.below wb0).c0
  obtain ⟨W, hW⟩ : ∃ W, W = W0.alloc (.cells #[.int .i64 s.1, .int .i64 s.2.1, .int .i64 s.2.2] TSh) := ⟨_, rfl⟩
  obtain ⟨q8, q10⟩ := pair_blk w (.cells #[.int .i64 0, .int .i64 0] TA) (.cells #[.int .i64 s.1, .int .i64 s.2.1, .int .i64 s.2.2] TSh)
  rw [← hW0, ← hW] at q8 q10
  have y2 : W.cell? ⟨w.heap.size + 1, 2, none⟩ = some (.int .i64 s.2.2) := bcell q10 2
  have wb : Below w.heap.size w W := by rw [hW]; exact below_alloc wb0 _
  have wsz : W.heap.size = w.heap.size + 2 := by rw [hW, size_alloc, wz0]
  have hf1 := hG.keep h wb
  have hl1 := hl.below wb
  rw [← hn] at hc hm
  obtain ⟨kk, hkp⟩ : ∃ kk, kk = kpg s n := ⟨_, rfl⟩
  have hkb : kk ≤ 257 := by rw [hkp]; exact (kpg_bd hsh hm).2
  have hpg : ∀ X : World, Calls Try.prog 42 #[.int .i64 (n : Int), .int .i64 s.2.2] X fun e w' => e = .returned (.int .i64 (kk : Int)) ∧ Below X.heap.size X w' := fun X => by
    rw [hkp]
    exact RPages_ok n s hsh hm X
  have s10 := hsh.b0
  have s11 := hsh.b1
  have HPG := Lib.hid hpg
  have HG1 := Aside0.mk hf1
  have HL1 := Aside0.mk hl1
  have HW := Lib.hid hW
  have HW0 := Lib.hid hW0
  have Q8 := Lib.hid q8
  have Q10 := Lib.hid q10
  have WB := Aside0.mk wb
  have HN := Lib.hid hn
  have HKP := Lib.hid hkp
  have HLT := Lib.hid hlt
  have e_n : decide ((n : Int) > 4096) = false := decide_eq_false (by omega)
  have kw1 : IntKind.i64.wrap ((kk : Int) + 1) = (kk : Int) + 1 := IntWalk.i64_in _ (by omega)
  rw [← hn]
  clear h hl hn hlt hf1 hl1 hX hxb hxb0 wb0 hW hW0 q8 q10 wb hkp hpg
  go_enter Try.func69, Try.ntmps69
  go_wp2_with (first
    | (rw [← HW0.out])
    | (rw [← HW.out])
    | (go_at_call 42; (with_reducible refine (HPG.out _).mono ?_); rintro e w4 ⟨rfl, hb4⟩; have HB4 := Aside0.mk hb4; have x8 := (hb4.block _ (blt Q8.out)).trans Q8.out; have x10 := (hb4.block _ (blt Q10.out)).trans Q10.out; have hl4 := HL1.out.below hb4; have k04 := hl4.c0; have k14 := hl4.c1; have k24 := hl4.c2; have k34 := hl4.c3; have m0 : w4.cell? ⟨w.heap.size, 0, none⟩ = some (.int .i64 0) := bcell x8 0; have m1 : w4.cell? ⟨w.heap.size, 1, none⟩ = some (.int .i64 0) := bcell x8 1; have mf : ∀ j, w4.frozen? ⟨w.heap.size, j, none⟩ = false := (fun j => bfrozen x8 j); have y1 : w4.cell? ⟨w.heap.size + 1, 1, none⟩ = some (.int .i64 s.2.1) := bcell x10 1; have X84 := Lib.hid x8; have X104 := Lib.hid x10; have HL4 := Aside0.mk hl4; have HG4 := Aside0.mk (hG.below HG1.out hb4); clear hb4 x8 x10 hl4)
    | fail)
  obtain ⟨w9, hw9⟩ : ∃ w9, w9 = (w4.setCell ⟨w.heap.size, 0, none⟩ (.int .i64 0)).setCell ⟨w.heap.size, 1, none⟩ (.int .i64 0) := ⟨_, rfl⟩
  rw [← hw9]
  obtain ⟨r8, hf9, hl9, hb9, hk9⟩ := rput_end hG hSt HG4.out HL4.out hr ht HLT.out hsz (Nat.le_refl _) X84.out (.inr ⟨Nat.le_refl _, by omega⟩) (fun k hk => .inl hk) ((WB.out.trans ((HB4.out).mono (by omega))).mono hsz) (fun k hk => (((HB4.out).mono (by omega)).block k (HLT.out k hk.1)).trans (WB.out.block k (HLT.out k hk.1))) hw9
  have r0 := bcell r8 0
  have r1 := bcell r8 1
  exact bodyPost_ret (v := .tuple #[.agg #[.int .i64 0, .int .i64 0], .int .i64 1]) (by simp [results, Try.results69, go_sem, r0, r1]) rfl ⟨rfl, hf9, hl9, hb9, hk9⟩
set_option maxHeartbeats 4000000 in
set_option maxRecDepth 100000 in
theorem RPut_big (hG : RefFrame N0 x s G) (hSt : ∀ ps, Stays (fun K w => G K ps w)) (h : G K ps w) (hl : RLog r t x cap rest g w) (hr : K r) (ht : K t) (hNr : N0 ≤ r) (hNt : N0 ≤ t) (hsh : ShapeOk s) (hc : l.length ≤ c) (hm : l.length ≤ 4096) (hk : kind ≠ 1) (hb1 : s.2.1 < (kpg s l.length : Int) + 1) : Calls Try.prog 69 #[.pointer (some ⟨r, 0, none⟩), .int .u8 kind, .slice A l.length c, .int .i64 need] w (RPutPost N0 r t x cap rest G K w (0, 0) 10 ps g) := by
  obtain ⟨n, hn⟩ : ∃ n, n = l.length := ⟨_, rfl⟩
  have hsz := hG.size h
  have hlt := fun k hk => hG.lt h k hk
  obtain ⟨okx, hX⟩ := hG.ref h
  obtain ⟨vx, hxb, _⟩ := hX.blk
  obtain ⟨W0, hW0⟩ : ∃ W0, W0 = w.alloc (.cells #[.int .i64 0, .int .i64 0] TA) := ⟨_, rfl⟩
  have wb0 : Below w.heap.size w W0 := by rw [hW0]; exact below_alloc (Below.refl _ _) _
  have wz0 : W0.heap.size = w.heap.size + 1 := by rw [hW0]; exact size_alloc _ _
  have hxb0 := (wb0.block _ (blt hxb)).trans hxb
  have u0 : W0.cell? ⟨x, 0, none⟩ = some (.int .i64 s.1) := bcell hxb0 0
  have u1 : W0.cell? ⟨x, 1, none⟩ = some (.int .i64 s.2.1) := bcell hxb0 1
  have u2 : W0.cell? ⟨x, 2, none⟩ = some (.int .i64 s.2.2) := bcell hxb0 2
  have k0 := (hl.below wb0).c0
  obtain ⟨W, hW⟩ : ∃ W, W = W0.alloc (.cells #[.int .i64 s.1, .int .i64 s.2.1, .int .i64 s.2.2] TSh) := ⟨_, rfl⟩
  obtain ⟨q8, q10⟩ := pair_blk w (.cells #[.int .i64 0, .int .i64 0] TA) (.cells #[.int .i64 s.1, .int .i64 s.2.1, .int .i64 s.2.2] TSh)
  rw [← hW0, ← hW] at q8 q10
  have y2 : W.cell? ⟨w.heap.size + 1, 2, none⟩ = some (.int .i64 s.2.2) := bcell q10 2
  have wb : Below w.heap.size w W := by rw [hW]; exact below_alloc wb0 _
  have wsz : W.heap.size = w.heap.size + 2 := by rw [hW, size_alloc, wz0]
  have hf1 := hG.keep h wb
  have hl1 := hl.below wb
  rw [← hn] at hc hm
  obtain ⟨kk, hkp⟩ : ∃ kk, kk = kpg s n := ⟨_, rfl⟩
  have hkb : kk ≤ 257 := by rw [hkp]; exact (kpg_bd hsh hm).2
  have hpg : ∀ X : World, Calls Try.prog 42 #[.int .i64 (n : Int), .int .i64 s.2.2] X fun e w' => e = .returned (.int .i64 (kk : Int)) ∧ Below X.heap.size X w' := fun X => by
    rw [hkp]
    exact RPages_ok n s hsh hm X
  have s10 := hsh.b0
  have s11 := hsh.b1
  have HPG := Lib.hid hpg
  have HG1 := Aside0.mk hf1
  have HL1 := Aside0.mk hl1
  have HW := Lib.hid hW
  have HW0 := Lib.hid hW0
  have Q8 := Lib.hid q8
  have Q10 := Lib.hid q10
  have WB := Aside0.mk wb
  have HN := Lib.hid hn
  have HKP := Lib.hid hkp
  have HLT := Lib.hid hlt
  have e_n : decide ((n : Int) > 4096) = false := decide_eq_false (by omega)
  have kw1 : IntKind.i64.wrap ((kk : Int) + 1) = (kk : Int) + 1 := IntWalk.i64_in _ (by omega)
  rw [← hn]
  clear h hl hn hlt hf1 hl1 hX hxb hxb0 wb0 hW hW0 q8 q10 wb hkp hpg
  rw [← HN.out, ← HKP.out] at hb1
  have e_b : decide ((kk : Int) + 1 > s.2.1) = true := decide_eq_true hb1
  have e_k : (kind == 1) = false := by simpa using hk
  clear hk
  go_enter Try.func69, Try.ntmps69
  go_wp2_with (first
    | (rw [← HW0.out])
    | (rw [← HW.out])
    | (go_at_call 42; (with_reducible refine (HPG.out _).mono ?_); rintro e w4 ⟨rfl, hb4⟩; have HB4 := Aside0.mk hb4; have x8 := (hb4.block _ (blt Q8.out)).trans Q8.out; have x10 := (hb4.block _ (blt Q10.out)).trans Q10.out; have hl4 := HL1.out.below hb4; have k04 := hl4.c0; have k14 := hl4.c1; have k24 := hl4.c2; have k34 := hl4.c3; have m0 : w4.cell? ⟨w.heap.size, 0, none⟩ = some (.int .i64 0) := bcell x8 0; have m1 : w4.cell? ⟨w.heap.size, 1, none⟩ = some (.int .i64 0) := bcell x8 1; have mf : ∀ j, w4.frozen? ⟨w.heap.size, j, none⟩ = false := (fun j => bfrozen x8 j); have y1 : w4.cell? ⟨w.heap.size + 1, 1, none⟩ = some (.int .i64 s.2.1) := bcell x10 1; have X84 := Lib.hid x8; have X104 := Lib.hid x10; have HL4 := Aside0.mk hl4; have HG4 := Aside0.mk (hG.below HG1.out hb4); clear hb4 x8 x10 hl4)
    | fail)
  obtain ⟨w9, hw9⟩ : ∃ w9, w9 = (w4.setCell ⟨w.heap.size, 0, none⟩ (.int .i64 0)).setCell ⟨w.heap.size, 1, none⟩ (.int .i64 0) := ⟨_, rfl⟩
  rw [← hw9]
  obtain ⟨r8, hf9, hl9, hb9, hk9⟩ := rput_end hG hSt HG4.out HL4.out hr ht HLT.out hsz (Nat.le_refl _) X84.out (.inr ⟨Nat.le_refl _, by omega⟩) (fun k hk => .inl hk) ((WB.out.trans ((HB4.out).mono (by omega))).mono hsz) (fun k hk => (((HB4.out).mono (by omega)).block k (HLT.out k hk.1)).trans (WB.out.block k (HLT.out k hk.1))) hw9
  have r0 := bcell r8 0
  have r1 := bcell r8 1
  exact bodyPost_ret (v := .tuple #[.agg #[.int .i64 0, .int .i64 0], .int .i64 10]) (by simp [results, Try.results69, go_sem, r0, r1]) rfl ⟨rfl, hf9, hl9, hb9, hk9⟩
set_option maxHeartbeats 4000000 in
set_option maxRecDepth 100000 in
theorem RPut_full0 (hG : RefFrame N0 x s G) (hSt : ∀ ps, Stays (fun K w => G K ps w)) (h : G K ps w) (hl : RLog r t x cap rest g w) (hr : K r) (ht : K t) (hNr : N0 ≤ r) (hNt : N0 ≤ t) (hsh : ShapeOk s) (hc : l.length ≤ c) (hm : l.length ≤ 4096) (hk : kind ≠ 1) (hb1 : (kpg s l.length : Int) + 1 ≤ s.2.1) (ho : g.op < 0) (hsl : g.st.length < 1000) (hcn : (cnt 0 g.st : Int) < need) : Calls Try.prog 69 #[.pointer (some ⟨r, 0, none⟩), .int .u8 kind, .slice A l.length c, .int .i64 need] w (RPutPost N0 r t x cap rest G K w (0, 0) 5 ps g) := by
  obtain ⟨n, hn⟩ : ∃ n, n = l.length := ⟨_, rfl⟩
  have hsz := hG.size h
  have hlt := fun k hk => hG.lt h k hk
  obtain ⟨okx, hX⟩ := hG.ref h
  obtain ⟨vx, hxb, _⟩ := hX.blk
  obtain ⟨W0, hW0⟩ : ∃ W0, W0 = w.alloc (.cells #[.int .i64 0, .int .i64 0] TA) := ⟨_, rfl⟩
  have wb0 : Below w.heap.size w W0 := by rw [hW0]; exact below_alloc (Below.refl _ _) _
  have wz0 : W0.heap.size = w.heap.size + 1 := by rw [hW0]; exact size_alloc _ _
  have hxb0 := (wb0.block _ (blt hxb)).trans hxb
  have u0 : W0.cell? ⟨x, 0, none⟩ = some (.int .i64 s.1) := bcell hxb0 0
  have u1 : W0.cell? ⟨x, 1, none⟩ = some (.int .i64 s.2.1) := bcell hxb0 1
  have u2 : W0.cell? ⟨x, 2, none⟩ = some (.int .i64 s.2.2) := bcell hxb0 2
  have k0 := (hl.below wb0).c0
  obtain ⟨W, hW⟩ : ∃ W, W = W0.alloc (.cells #[.int .i64 s.1, .int .i64 s.2.1, .int .i64 s.2.2] TSh) := ⟨_, rfl⟩
  obtain ⟨q8, q10⟩ := pair_blk w (.cells #[.int .i64 0, .int .i64 0] TA) (.cells #[.int .i64 s.1, .int .i64 s.2.1, .int .i64 s.2.2] TSh)
  rw [← hW0, ← hW] at q8 q10
  have y2 : W.cell? ⟨w.heap.size + 1, 2, none⟩ = some (.int .i64 s.2.2) := bcell q10 2
  have wb : Below w.heap.size w W := by rw [hW]; exact below_alloc wb0 _
  have wsz : W.heap.size = w.heap.size + 2 := by rw [hW, size_alloc, wz0]
  have hf1 := hG.keep h wb
  have hl1 := hl.below wb
  rw [← hn] at hc hm
  obtain ⟨kk, hkp⟩ : ∃ kk, kk = kpg s n := ⟨_, rfl⟩
  have hkb : kk ≤ 257 := by rw [hkp]; exact (kpg_bd hsh hm).2
  have hpg : ∀ X : World, Calls Try.prog 42 #[.int .i64 (n : Int), .int .i64 s.2.2] X fun e w' => e = .returned (.int .i64 (kk : Int)) ∧ Below X.heap.size X w' := fun X => by
    rw [hkp]
    exact RPages_ok n s hsh hm X
  have s10 := hsh.b0
  have s11 := hsh.b1
  have HPG := Lib.hid hpg
  have HG1 := Aside0.mk hf1
  have HL1 := Aside0.mk hl1
  have HW := Lib.hid hW
  have HW0 := Lib.hid hW0
  have Q8 := Lib.hid q8
  have Q10 := Lib.hid q10
  have WB := Aside0.mk wb
  have HN := Lib.hid hn
  have HKP := Lib.hid hkp
  have HLT := Lib.hid hlt
  have e_n : decide ((n : Int) > 4096) = false := decide_eq_false (by omega)
  have kw1 : IntKind.i64.wrap ((kk : Int) + 1) = (kk : Int) + 1 := IntWalk.i64_in _ (by omega)
  rw [← hn]
  clear h hl hn hlt hf1 hl1 hX hxb hxb0 wb0 hW hW0 q8 q10 wb hkp hpg
  rw [← HN.out, ← HKP.out] at hb1
  have e_b : decide ((kk : Int) + 1 > s.2.1) = false := decide_eq_false (by omega)
  have e_k : (kind == 1) = false := by simpa using hk
  clear hk
  have e_o : decide (g.op < 0) = true := decide_eq_true ho
  obtain ⟨c0, hc0⟩ : ∃ c0, c0 = cnt 0 g.st := ⟨_, rfl⟩
  rw [← hc0] at hcn
  have HC0 := Lib.hid hc0
  have HSL := Lib.hid hsl
  clear hc0 hsl
  have e_c : decide ((c0 : Int) < need) = true := decide_eq_true hcn
  go_enter Try.func69, Try.ntmps69
  go_wp2_with (first
    | (rw [← HW0.out])
    | (rw [← HW.out])
    | (go_at_call 42; (with_reducible refine (HPG.out _).mono ?_); rintro e w4 ⟨rfl, hb4⟩; have HB4 := Aside0.mk hb4; have x8 := (hb4.block _ (blt Q8.out)).trans Q8.out; have x10 := (hb4.block _ (blt Q10.out)).trans Q10.out; have hl4 := HL1.out.below hb4; have k04 := hl4.c0; have k14 := hl4.c1; have k24 := hl4.c2; have k34 := hl4.c3; have m0 : w4.cell? ⟨w.heap.size, 0, none⟩ = some (.int .i64 0) := bcell x8 0; have m1 : w4.cell? ⟨w.heap.size, 1, none⟩ = some (.int .i64 0) := bcell x8 1; have mf : ∀ j, w4.frozen? ⟨w.heap.size, j, none⟩ = false := (fun j => bfrozen x8 j); have y1 : w4.cell? ⟨w.heap.size + 1, 1, none⟩ = some (.int .i64 s.2.1) := bcell x10 1; have X84 := Lib.hid x8; have X104 := Lib.hid x10; have HL4 := Aside0.mk hl4; have HG4 := Aside0.mk (hG.below HG1.out hb4); clear hb4 x8 x10 hl4)
    | fail)
  have e_u : decide ((n : Int) > 4096) = false := e_n
  refine wp_region_held_drew (S := (fun w' => w'.cell? ⟨r, 2, none⟩ = some (.int .i64 g.op) ∧ w'.cell? ⟨r, 3, none⟩ = some (.int .i64 g.pg) ∧ w'.cell? ⟨w.heap.size + 1, 1, none⟩ = some (.int .i64 s.2.1))) (by kernel_rfl) ?_ (fun hHeld => ?_)
  · first | go_keep | exact ⟨k24, k34, y1⟩
  first | (refine wpAnyH_take (i := 0) (oi := ?o199) (v := ?v199) ?i199 (by kernel_rfl) (by kernel_rfl) (by kernel_rfl) ?q199 ?y199 (by assumption) ?r199; (case i199 => (simp only [List.getElem?_toArray, List.getElem?_cons_succ, List.getElem?_cons_zero]; rfl)); (case q199 => exact fun _ _ _ h => h); (case y199 => (refine Or.inl ⟨by rfl, ?_⟩; intro w hSw; (try dsimp only at hSw); go_simp; (try (with_reducible rfl))))) | (refine wpAnyH_take (i := 0) (oi := ?o200) (v := undef) ?i200 (by kernel_rfl) (by kernel_rfl) (by kernel_rfl) ?q200 ?y200 (by assumption) ?r200; (case i200 => (simp only [List.getElem?_toArray, List.getElem?_cons_succ, List.getElem?_cons_zero]; rfl)); (case q200 => exact fun _ _ _ h => h); (case y200 => exact Or.inr ⟨by rfl, rfl⟩))
  try simp only [Act.put, List.setIfInBounds_toArray, List.set_cons_zero, List.set_cons_succ]
  first | (refine wpAnyH_take (i := 1) (oi := ?o201) (v := ?v201) ?i201 (by kernel_rfl) (by kernel_rfl) (by kernel_rfl) ?q201 ?y201 (by assumption) ?r201; (case i201 => (simp only [List.getElem?_toArray, List.getElem?_cons_succ, List.getElem?_cons_zero]; rfl)); (case q201 => exact fun _ _ _ h => h); (case y201 => (refine Or.inl ⟨by rfl, ?_⟩; intro w hSw; (try dsimp only at hSw); go_simp; (try (with_reducible rfl))))) | (refine wpAnyH_take (i := 1) (oi := ?o202) (v := undef) ?i202 (by kernel_rfl) (by kernel_rfl) (by kernel_rfl) ?q202 ?y202 (by assumption) ?r202; (case i202 => (simp only [List.getElem?_toArray, List.getElem?_cons_succ, List.getElem?_cons_zero]; rfl)); (case q202 => exact fun _ _ _ h => h); (case y202 => exact Or.inr ⟨by rfl, rfl⟩))
  try simp only [Act.put, List.setIfInBounds_toArray, List.set_cons_zero, List.set_cons_succ]
  first | (refine wpAnyH_take (i := 2) (oi := ?o203) (v := ?v203) ?i203 (by kernel_rfl) (by kernel_rfl) (by kernel_rfl) ?q203 ?y203 (by assumption) ?r203; (case i203 => (simp only [List.getElem?_toArray, List.getElem?_cons_succ, List.getElem?_cons_zero]; rfl)); (case q203 => exact fun _ _ _ h => h); (case y203 => (refine Or.inl ⟨by rfl, ?_⟩; intro w hSw; (try dsimp only at hSw); go_simp; (try (with_reducible rfl))))) | (refine wpAnyH_take (i := 2) (oi := ?o204) (v := undef) ?i204 (by kernel_rfl) (by kernel_rfl) (by kernel_rfl) ?q204 ?y204 (by assumption) ?r204; (case i204 => (simp only [List.getElem?_toArray, List.getElem?_cons_succ, List.getElem?_cons_zero]; rfl)); (case q204 => exact fun _ _ _ h => h); (case y204 => exact Or.inr ⟨by rfl, rfl⟩))
  try simp only [Act.put, List.setIfInBounds_toArray, List.set_cons_zero, List.set_cons_succ]
  first | (refine wpAnyH_take (i := 3) (oi := ?o205) (v := ?v205) ?i205 (by kernel_rfl) (by kernel_rfl) (by kernel_rfl) ?q205 ?y205 (by assumption) ?r205; (case i205 => (simp only [List.getElem?_toArray, List.getElem?_cons_succ, List.getElem?_cons_zero]; rfl)); (case q205 => exact fun _ _ _ h => h); (case y205 => (refine Or.inl ⟨by rfl, ?_⟩; intro w hSw; (try dsimp only at hSw); go_simp; (try (with_reducible rfl))))) | (refine wpAnyH_take (i := 3) (oi := ?o206) (v := undef) ?i206 (by kernel_rfl) (by kernel_rfl) (by kernel_rfl) ?q206 ?y206 (by assumption) ?r206; (case i206 => (simp only [List.getElem?_toArray, List.getElem?_cons_succ, List.getElem?_cons_zero]; rfl)); (case q206 => exact fun _ _ _ h => h); (case y206 => exact Or.inr ⟨by rfl, rfl⟩))
  try simp only [Act.put, List.setIfInBounds_toArray, List.set_cons_zero, List.set_cons_succ]
  first | (refine wpAnyH_take (i := 4) (oi := ?o207) (v := ?v207) ?i207 (by kernel_rfl) (by kernel_rfl) (by kernel_rfl) ?q207 ?y207 (by assumption) ?r207; (case i207 => (simp only [List.getElem?_toArray, List.getElem?_cons_succ, List.getElem?_cons_zero]; rfl)); (case q207 => exact fun _ _ _ h => h); (case y207 => (refine Or.inl ⟨by rfl, ?_⟩; intro w hSw; (try dsimp only at hSw); go_simp; (try (with_reducible rfl))))) | (refine wpAnyH_take (i := 4) (oi := ?o208) (v := undef) ?i208 (by kernel_rfl) (by kernel_rfl) (by kernel_rfl) ?q208 ?y208 (by assumption) ?r208; (case i208 => (simp only [List.getElem?_toArray, List.getElem?_cons_succ, List.getElem?_cons_zero]; rfl)); (case q208 => exact fun _ _ _ h => h); (case y208 => exact Or.inr ⟨by rfl, rfl⟩))
  try simp only [Act.put, List.setIfInBounds_toArray, List.set_cons_zero, List.set_cons_succ]
  first | (refine wpAnyH_take (i := 5) (oi := ?o209) (v := ?v209) ?i209 (by kernel_rfl) (by kernel_rfl) (by kernel_rfl) ?q209 ?y209 (by assumption) ?r209; (case i209 => (simp only [List.getElem?_toArray, List.getElem?_cons_succ, List.getElem?_cons_zero]; rfl)); (case q209 => exact fun _ _ _ h => h); (case y209 => (refine Or.inl ⟨by rfl, ?_⟩; intro w hSw; (try dsimp only at hSw); go_simp; (try (with_reducible rfl))))) | (refine wpAnyH_take (i := 5) (oi := ?o210) (v := undef) ?i210 (by kernel_rfl) (by kernel_rfl) (by kernel_rfl) ?q210 ?y210 (by assumption) ?r210; (case i210 => (simp only [List.getElem?_toArray, List.getElem?_cons_succ, List.getElem?_cons_zero]; rfl)); (case q210 => exact fun _ _ _ h => h); (case y210 => exact Or.inr ⟨by rfl, rfl⟩))
  try simp only [Act.put, List.setIfInBounds_toArray, List.set_cons_zero, List.set_cons_succ]
  first | (refine wpAnyH_take (i := 6) (oi := ?o211) (v := ?v211) ?i211 (by kernel_rfl) (by kernel_rfl) (by kernel_rfl) ?q211 ?y211 (by assumption) ?r211; (case i211 => (simp only [List.getElem?_toArray, List.getElem?_cons_succ, List.getElem?_cons_zero]; rfl)); (case q211 => exact fun _ _ _ h => h); (case y211 => (refine Or.inl ⟨by rfl, ?_⟩; intro w hSw; (try dsimp only at hSw); go_simp; (try (with_reducible rfl))))) | (refine wpAnyH_take (i := 6) (oi := ?o212) (v := undef) ?i212 (by kernel_rfl) (by kernel_rfl) (by kernel_rfl) ?q212 ?y212 (by assumption) ?r212; (case i212 => (simp only [List.getElem?_toArray, List.getElem?_cons_succ, List.getElem?_cons_zero]; rfl)); (case q212 => exact fun _ _ _ h => h); (case y212 => exact Or.inr ⟨by rfl, rfl⟩))
  try simp only [Act.put, List.setIfInBounds_toArray, List.set_cons_zero, List.set_cons_succ]
  first | (refine wpAnyH_take (i := 7) (oi := ?o213) (v := ?v213) ?i213 (by kernel_rfl) (by kernel_rfl) (by kernel_rfl) ?q213 ?y213 (by assumption) ?r213; (case i213 => (simp only [List.getElem?_toArray, List.getElem?_cons_succ, List.getElem?_cons_zero]; rfl)); (case q213 => exact fun _ _ _ h => h); (case y213 => (refine Or.inl ⟨by rfl, ?_⟩; intro w hSw; (try dsimp only at hSw); go_simp; (try (with_reducible rfl))))) | (refine wpAnyH_take (i := 7) (oi := ?o214) (v := undef) ?i214 (by kernel_rfl) (by kernel_rfl) (by kernel_rfl) ?q214 ?y214 (by assumption) ?r214; (case i214 => (simp only [List.getElem?_toArray, List.getElem?_cons_succ, List.getElem?_cons_zero]; rfl)); (case q214 => exact fun _ _ _ h => h); (case y214 => exact Or.inr ⟨by rfl, rfl⟩))
  try simp only [Act.put, List.setIfInBounds_toArray, List.set_cons_zero, List.set_cons_succ]
  first | (refine wpAnyH_take (i := 8) (oi := ?o215) (v := ?v215) ?i215 (by kernel_rfl) (by kernel_rfl) (by kernel_rfl) ?q215 ?y215 (by assumption) ?r215; (case i215 => (simp only [List.getElem?_toArray, List.getElem?_cons_succ, List.getElem?_cons_zero]; rfl)); (case q215 => exact fun _ _ _ h => h); (case y215 => (refine Or.inl ⟨by rfl, ?_⟩; intro w hSw; (try dsimp only at hSw); go_simp; (try (with_reducible rfl))))) | (refine wpAnyH_take (i := 8) (oi := ?o216) (v := undef) ?i216 (by kernel_rfl) (by kernel_rfl) (by kernel_rfl) ?q216 ?y216 (by assumption) ?r216; (case i216 => (simp only [List.getElem?_toArray, List.getElem?_cons_succ, List.getElem?_cons_zero]; rfl)); (case q216 => exact fun _ _ _ h => h); (case y216 => exact Or.inr ⟨by rfl, rfl⟩))
  try simp only [Act.put, List.setIfInBounds_toArray, List.set_cons_zero, List.set_cons_succ]
  first | (refine wpAnyH_take (i := 9) (oi := ?o217) (v := ?v217) ?i217 (by kernel_rfl) (by kernel_rfl) (by kernel_rfl) ?q217 ?y217 (by assumption) ?r217; (case i217 => (simp only [List.getElem?_toArray, List.getElem?_cons_succ, List.getElem?_cons_zero]; rfl)); (case q217 => exact fun _ _ _ h => h); (case y217 => (refine Or.inl ⟨by rfl, ?_⟩; intro w hSw; (try dsimp only at hSw); go_simp; (try (with_reducible rfl))))) | (refine wpAnyH_take (i := 9) (oi := ?o218) (v := undef) ?i218 (by kernel_rfl) (by kernel_rfl) (by kernel_rfl) ?q218 ?y218 (by assumption) ?r218; (case i218 => (simp only [List.getElem?_toArray, List.getElem?_cons_succ, List.getElem?_cons_zero]; rfl)); (case q218 => exact fun _ _ _ h => h); (case y218 => exact Or.inr ⟨by rfl, rfl⟩))
  try simp only [Act.put, List.setIfInBounds_toArray, List.set_cons_zero, List.set_cons_succ]
  first | (refine wpAnyH_take (i := 10) (oi := ?o219) (v := ?v219) ?i219 (by kernel_rfl) (by kernel_rfl) (by kernel_rfl) ?q219 ?y219 (by assumption) ?r219; (case i219 => (simp only [List.getElem?_toArray, List.getElem?_cons_succ, List.getElem?_cons_zero]; rfl)); (case q219 => exact fun _ _ _ h => h); (case y219 => (refine Or.inl ⟨by rfl, ?_⟩; intro w hSw; (try dsimp only at hSw); go_simp; (try (with_reducible rfl))))) | (refine wpAnyH_take (i := 10) (oi := ?o220) (v := undef) ?i220 (by kernel_rfl) (by kernel_rfl) (by kernel_rfl) ?q220 ?y220 (by assumption) ?r220; (case i220 => (simp only [List.getElem?_toArray, List.getElem?_cons_succ, List.getElem?_cons_zero]; rfl)); (case q220 => exact fun _ _ _ h => h); (case y220 => exact Or.inr ⟨by rfl, rfl⟩))
  try simp only [Act.put, List.setIfInBounds_toArray, List.set_cons_zero, List.set_cons_succ]
  first | (refine wpAnyH_take (i := 11) (oi := ?o221) (v := ?v221) ?i221 (by kernel_rfl) (by kernel_rfl) (by kernel_rfl) ?q221 ?y221 (by assumption) ?r221; (case i221 => (simp only [List.getElem?_toArray, List.getElem?_cons_succ, List.getElem?_cons_zero]; rfl)); (case q221 => exact fun _ _ _ h => h); (case y221 => (refine Or.inl ⟨by rfl, ?_⟩; intro w hSw; (try dsimp only at hSw); go_simp; (try (with_reducible rfl))))) | (refine wpAnyH_take (i := 11) (oi := ?o222) (v := undef) ?i222 (by kernel_rfl) (by kernel_rfl) (by kernel_rfl) ?q222 ?y222 (by assumption) ?r222; (case i222 => (simp only [List.getElem?_toArray, List.getElem?_cons_succ, List.getElem?_cons_zero]; rfl)); (case q222 => exact fun _ _ _ h => h); (case y222 => exact Or.inr ⟨by rfl, rfl⟩))
  try simp only [Act.put, List.setIfInBounds_toArray, List.set_cons_zero, List.set_cons_succ]
  first | (refine wpAnyH_take (i := 12) (oi := ?o223) (v := ?v223) ?i223 (by kernel_rfl) (by kernel_rfl) (by kernel_rfl) ?q223 ?y223 (by assumption) ?r223; (case i223 => (simp only [List.getElem?_toArray, List.getElem?_cons_succ, List.getElem?_cons_zero]; rfl)); (case q223 => exact fun _ _ _ h => h); (case y223 => (refine Or.inl ⟨by rfl, ?_⟩; intro w hSw; (try dsimp only at hSw); go_simp; (try (with_reducible rfl))))) | (refine wpAnyH_take (i := 12) (oi := ?o224) (v := undef) ?i224 (by kernel_rfl) (by kernel_rfl) (by kernel_rfl) ?q224 ?y224 (by assumption) ?r224; (case i224 => (simp only [List.getElem?_toArray, List.getElem?_cons_succ, List.getElem?_cons_zero]; rfl)); (case q224 => exact fun _ _ _ h => h); (case y224 => exact Or.inr ⟨by rfl, rfl⟩))
  try simp only [Act.put, List.setIfInBounds_toArray, List.set_cons_zero, List.set_cons_succ]
  first | (refine wpAnyH_take (i := 13) (oi := ?o225) (v := ?v225) ?i225 (by kernel_rfl) (by kernel_rfl) (by kernel_rfl) ?q225 ?y225 (by assumption) ?r225; (case i225 => (simp only [List.getElem?_toArray, List.getElem?_cons_succ, List.getElem?_cons_zero]; rfl)); (case q225 => exact fun _ _ _ h => h); (case y225 => (refine Or.inl ⟨by rfl, ?_⟩; intro w hSw; (try dsimp only at hSw); go_simp; (try (with_reducible rfl))))) | (refine wpAnyH_take (i := 13) (oi := ?o226) (v := undef) ?i226 (by kernel_rfl) (by kernel_rfl) (by kernel_rfl) ?q226 ?y226 (by assumption) ?r226; (case i226 => (simp only [List.getElem?_toArray, List.getElem?_cons_succ, List.getElem?_cons_zero]; rfl)); (case q226 => exact fun _ _ _ h => h); (case y226 => exact Or.inr ⟨by rfl, rfl⟩))
  try simp only [Act.put, List.setIfInBounds_toArray, List.set_cons_zero, List.set_cons_succ]
  first | (refine wpAnyH_take (i := 14) (oi := ?o227) (v := ?v227) ?i227 (by kernel_rfl) (by kernel_rfl) (by kernel_rfl) ?q227 ?y227 (by assumption) ?r227; (case i227 => (simp only [List.getElem?_toArray, List.getElem?_cons_succ, List.getElem?_cons_zero]; rfl)); (case q227 => exact fun _ _ _ h => h); (case y227 => (refine Or.inl ⟨by rfl, ?_⟩; intro w hSw; (try dsimp only at hSw); go_simp; (try (with_reducible rfl))))) | (refine wpAnyH_take (i := 14) (oi := ?o228) (v := undef) ?i228 (by kernel_rfl) (by kernel_rfl) (by kernel_rfl) ?q228 ?y228 (by assumption) ?r228; (case i228 => (simp only [List.getElem?_toArray, List.getElem?_cons_succ, List.getElem?_cons_zero]; rfl)); (case q228 => exact fun _ _ _ h => h); (case y228 => exact Or.inr ⟨by rfl, rfl⟩))
  try simp only [Act.put, List.setIfInBounds_toArray, List.set_cons_zero, List.set_cons_succ]
  first | (refine wpAnyH_take (i := 15) (oi := ?o229) (v := ?v229) ?i229 (by kernel_rfl) (by kernel_rfl) (by kernel_rfl) ?q229 ?y229 (by assumption) ?r229; (case i229 => (simp only [List.getElem?_toArray, List.getElem?_cons_succ, List.getElem?_cons_zero]; rfl)); (case q229 => exact fun _ _ _ h => h); (case y229 => (refine Or.inl ⟨by rfl, ?_⟩; intro w hSw; (try dsimp only at hSw); go_simp; (try (with_reducible rfl))))) | (refine wpAnyH_take (i := 15) (oi := ?o230) (v := undef) ?i230 (by kernel_rfl) (by kernel_rfl) (by kernel_rfl) ?q230 ?y230 (by assumption) ?r230; (case i230 => (simp only [List.getElem?_toArray, List.getElem?_cons_succ, List.getElem?_cons_zero]; rfl)); (case q230 => exact fun _ _ _ h => h); (case y230 => exact Or.inr ⟨by rfl, rfl⟩))
  try simp only [Act.put, List.setIfInBounds_toArray, List.set_cons_zero, List.set_cons_succ]
  refine wpAnyH_done (by kernel_rfl) ?_ _
  obtain ⟨w5, hw5⟩ : ∃ w5, w5 = w4.drew := ⟨_, rfl⟩
  rw [← hw5]
  have b5 : Below w4.heap.size w4 w5 := by rw [hw5]; exact (Below.refl _ _).drew
  have HB5 := Aside0.mk (HB4.out.trans (b5.mono HB4.out.size))
  have hl5 := HL4.out.below b5
  have k05 := hl5.c0
  have k15 := hl5.c1
  have k25 := hl5.c2
  have k35 := hl5.c3
  have k45 := hl5.c4
  have x85 := (b5.block _ (blt X84.out)).trans X84.out
  have HG5 := Aside0.mk (hG.below HG4.out b5)
  have HL5 := Aside0.mk hl5
  have X85 := Lib.hid x85
  clear hw5 b5 hl5 x85
  go_wp2_with (first
    | (rw [← HW0.out])
    | (rw [← HW.out])
    | (go_at_call 32; (have hcc := RCount_any HL5.out HSL.out 0); (rw [← HC0.out] at hcc); (with_reducible refine hcc.mono ?_); clear hcc; rintro e w7 ⟨rfl, hb7⟩; have HB7 := Aside0.mk (HB5.out.trans (hb7.mono HB5.out.size)); have x8 := (hb7.block _ (blt X85.out)).trans X85.out; have X87 := Lib.hid x8; have n0 : w7.cell? ⟨w.heap.size, 0, none⟩ = some (.int .i64 0) := bcell x8 0; have n1 : w7.cell? ⟨w.heap.size, 1, none⟩ = some (.int .i64 0) := bcell x8 1; have nf : ∀ j, w7.frozen? ⟨w.heap.size, j, none⟩ = false := (fun j => bfrozen x8 j); have HL7 := Aside0.mk (HL5.out.below hb7); have HG7 := Aside0.mk (hG.below HG5.out hb7); clear hb7 x8)
    | fail)
  obtain ⟨w9, hw9⟩ : ∃ w9, w9 = (w7.setCell ⟨w.heap.size, 0, none⟩ (.int .i64 0)).setCell ⟨w.heap.size, 1, none⟩ (.int .i64 0) := ⟨_, rfl⟩
  rw [← hw9]
  obtain ⟨r8, hf9, hl9, hb9, hk9⟩ := rput_end hG hSt HG7.out HL7.out hr ht HLT.out hsz (Nat.le_refl _) X87.out (.inr ⟨Nat.le_refl _, by omega⟩) (fun k hk => .inl hk) ((WB.out.trans ((HB7.out).mono (by omega))).mono hsz) (fun k hk => (((HB7.out).mono (by omega)).block k (HLT.out k hk.1)).trans (WB.out.block k (HLT.out k hk.1))) hw9
  have r0 := bcell r8 0
  have r1 := bcell r8 1
  exact bodyPost_ret (v := .tuple #[.agg #[.int .i64 0, .int .i64 0], .int .i64 5]) (by simp [results, Try.results69, go_sem, r0, r1]) rfl ⟨rfl, hf9, hl9, hb9, hk9⟩
set_option maxHeartbeats 4000000 in
set_option maxRecDepth 100000 in
theorem RPut_fullN (hG : RefFrame N0 x s G) (hSt : ∀ ps, Stays (fun K w => G K ps w)) (h : G K ps w) (hl : RLog r t x cap rest g w) (hr : K r) (ht : K t) (hNr : N0 ≤ r) (hNt : N0 ≤ t) (hsh : ShapeOk s) (hc : l.length ≤ c) (hm : l.length ≤ 4096) (hk : kind ≠ 1) (hb1 : (kpg s l.length : Int) + 1 ≤ s.2.1) (ho : 0 ≤ g.op) (hp0 : 0 ≤ g.pg) (hp1 : g.pg ≤ 100000) (hb2 : s.2.1 < g.pg + (kpg s l.length : Int)) (hsl : g.st.length < 1000) (hcn : (cnt 0 g.st : Int) < need) : Calls Try.prog 69 #[.pointer (some ⟨r, 0, none⟩), .int .u8 kind, .slice A l.length c, .int .i64 need] w (RPutPost N0 r t x cap rest G K w (0, 0) 5 ps g) := by
  obtain ⟨n, hn⟩ : ∃ n, n = l.length := ⟨_, rfl⟩
  have hsz := hG.size h
  have hlt := fun k hk => hG.lt h k hk
  obtain ⟨okx, hX⟩ := hG.ref h
  obtain ⟨vx, hxb, _⟩ := hX.blk
  obtain ⟨W0, hW0⟩ : ∃ W0, W0 = w.alloc (.cells #[.int .i64 0, .int .i64 0] TA) := ⟨_, rfl⟩
  have wb0 : Below w.heap.size w W0 := by rw [hW0]; exact below_alloc (Below.refl _ _) _
  have wz0 : W0.heap.size = w.heap.size + 1 := by rw [hW0]; exact size_alloc _ _
  have hxb0 := (wb0.block _ (blt hxb)).trans hxb
  have u0 : W0.cell? ⟨x, 0, none⟩ = some (.int .i64 s.1) := bcell hxb0 0
  have u1 : W0.cell? ⟨x, 1, none⟩ = some (.int .i64 s.2.1) := bcell hxb0 1
  have u2 : W0.cell? ⟨x, 2, none⟩ = some (.int .i64 s.2.2) := bcell hxb0 2
  have k0 := (hl.below wb0).c0
  obtain ⟨W, hW⟩ : ∃ W, W = W0.alloc (.cells #[.int .i64 s.1, .int .i64 s.2.1, .int .i64 s.2.2] TSh) := ⟨_, rfl⟩
  obtain ⟨q8, q10⟩ := pair_blk w (.cells #[.int .i64 0, .int .i64 0] TA) (.cells #[.int .i64 s.1, .int .i64 s.2.1, .int .i64 s.2.2] TSh)
  rw [← hW0, ← hW] at q8 q10
  have y2 : W.cell? ⟨w.heap.size + 1, 2, none⟩ = some (.int .i64 s.2.2) := bcell q10 2
  have wb : Below w.heap.size w W := by rw [hW]; exact below_alloc wb0 _
  have wsz : W.heap.size = w.heap.size + 2 := by rw [hW, size_alloc, wz0]
  have hf1 := hG.keep h wb
  have hl1 := hl.below wb
  rw [← hn] at hc hm
  obtain ⟨kk, hkp⟩ : ∃ kk, kk = kpg s n := ⟨_, rfl⟩
  have hkb : kk ≤ 257 := by rw [hkp]; exact (kpg_bd hsh hm).2
  have hpg : ∀ X : World, Calls Try.prog 42 #[.int .i64 (n : Int), .int .i64 s.2.2] X fun e w' => e = .returned (.int .i64 (kk : Int)) ∧ Below X.heap.size X w' := fun X => by
    rw [hkp]
    exact RPages_ok n s hsh hm X
  have s10 := hsh.b0
  have s11 := hsh.b1
  have HPG := Lib.hid hpg
  have HG1 := Aside0.mk hf1
  have HL1 := Aside0.mk hl1
  have HW := Lib.hid hW
  have HW0 := Lib.hid hW0
  have Q8 := Lib.hid q8
  have Q10 := Lib.hid q10
  have WB := Aside0.mk wb
  have HN := Lib.hid hn
  have HKP := Lib.hid hkp
  have HLT := Lib.hid hlt
  have e_n : decide ((n : Int) > 4096) = false := decide_eq_false (by omega)
  have kw1 : IntKind.i64.wrap ((kk : Int) + 1) = (kk : Int) + 1 := IntWalk.i64_in _ (by omega)
  rw [← hn]
  clear h hl hn hlt hf1 hl1 hX hxb hxb0 wb0 hW hW0 q8 q10 wb hkp hpg
  rw [← HN.out, ← HKP.out] at hb1
  have e_b : decide ((kk : Int) + 1 > s.2.1) = false := decide_eq_false (by omega)
  have e_k : (kind == 1) = false := by simpa using hk
  clear hk
  rw [← HN.out, ← HKP.out] at hb2
  have e_o : decide (g.op < 0) = false := decide_eq_false (by omega)
  have kw2 : IntKind.i64.wrap (g.pg + (kk : Int)) = g.pg + (kk : Int) := IntWalk.i64_in _ (by omega)
  have e_p : decide (g.pg + (kk : Int) > s.2.1) = true := decide_eq_true (by omega)
  obtain ⟨c0, hc0⟩ : ∃ c0, c0 = cnt 0 g.st := ⟨_, rfl⟩
  rw [← hc0] at hcn
  have HC0 := Lib.hid hc0
  have HSL := Lib.hid hsl
  clear hc0 hsl
  have e_c : decide ((c0 : Int) < need) = true := decide_eq_true hcn
  go_enter Try.func69, Try.ntmps69
  go_wp2_with (first
    | (rw [← HW0.out])
    | (rw [← HW.out])
    | (go_at_call 42; (with_reducible refine (HPG.out _).mono ?_); rintro e w4 ⟨rfl, hb4⟩; have HB4 := Aside0.mk hb4; have x8 := (hb4.block _ (blt Q8.out)).trans Q8.out; have x10 := (hb4.block _ (blt Q10.out)).trans Q10.out; have hl4 := HL1.out.below hb4; have k04 := hl4.c0; have k14 := hl4.c1; have k24 := hl4.c2; have k34 := hl4.c3; have m0 : w4.cell? ⟨w.heap.size, 0, none⟩ = some (.int .i64 0) := bcell x8 0; have m1 : w4.cell? ⟨w.heap.size, 1, none⟩ = some (.int .i64 0) := bcell x8 1; have mf : ∀ j, w4.frozen? ⟨w.heap.size, j, none⟩ = false := (fun j => bfrozen x8 j); have y1 : w4.cell? ⟨w.heap.size + 1, 1, none⟩ = some (.int .i64 s.2.1) := bcell x10 1; have X84 := Lib.hid x8; have X104 := Lib.hid x10; have HL4 := Aside0.mk hl4; have HG4 := Aside0.mk (hG.below HG1.out hb4); clear hb4 x8 x10 hl4)
    | fail)
  have e_u : decide ((n : Int) > 4096) = false := e_n
  refine wp_region_held_drew (S := (fun w' => w'.cell? ⟨r, 2, none⟩ = some (.int .i64 g.op) ∧ w'.cell? ⟨r, 3, none⟩ = some (.int .i64 g.pg) ∧ w'.cell? ⟨w.heap.size + 1, 1, none⟩ = some (.int .i64 s.2.1))) (by kernel_rfl) ?_ (fun hHeld => ?_)
  · first | go_keep | exact ⟨k24, k34, y1⟩
  first | (refine wpAnyH_take (i := 0) (oi := ?o231) (v := ?v231) ?i231 (by kernel_rfl) (by kernel_rfl) (by kernel_rfl) ?q231 ?y231 (by assumption) ?r231; (case i231 => (simp only [List.getElem?_toArray, List.getElem?_cons_succ, List.getElem?_cons_zero]; rfl)); (case q231 => exact fun _ _ _ h => h); (case y231 => (refine Or.inl ⟨by rfl, ?_⟩; intro w hSw; (try dsimp only at hSw); go_simp; (try (with_reducible rfl))))) | (refine wpAnyH_take (i := 0) (oi := ?o232) (v := undef) ?i232 (by kernel_rfl) (by kernel_rfl) (by kernel_rfl) ?q232 ?y232 (by assumption) ?r232; (case i232 => (simp only [List.getElem?_toArray, List.getElem?_cons_succ, List.getElem?_cons_zero]; rfl)); (case q232 => exact fun _ _ _ h => h); (case y232 => exact Or.inr ⟨by rfl, rfl⟩))
  try simp only [Act.put, List.setIfInBounds_toArray, List.set_cons_zero, List.set_cons_succ]
  first | (refine wpAnyH_take (i := 1) (oi := ?o233) (v := ?v233) ?i233 (by kernel_rfl) (by kernel_rfl) (by kernel_rfl) ?q233 ?y233 (by assumption) ?r233; (case i233 => (simp only [List.getElem?_toArray, List.getElem?_cons_succ, List.getElem?_cons_zero]; rfl)); (case q233 => exact fun _ _ _ h => h); (case y233 => (refine Or.inl ⟨by rfl, ?_⟩; intro w hSw; (try dsimp only at hSw); go_simp; (try (with_reducible rfl))))) | (refine wpAnyH_take (i := 1) (oi := ?o234) (v := undef) ?i234 (by kernel_rfl) (by kernel_rfl) (by kernel_rfl) ?q234 ?y234 (by assumption) ?r234; (case i234 => (simp only [List.getElem?_toArray, List.getElem?_cons_succ, List.getElem?_cons_zero]; rfl)); (case q234 => exact fun _ _ _ h => h); (case y234 => exact Or.inr ⟨by rfl, rfl⟩))
  try simp only [Act.put, List.setIfInBounds_toArray, List.set_cons_zero, List.set_cons_succ]
  first | (refine wpAnyH_take (i := 2) (oi := ?o235) (v := ?v235) ?i235 (by kernel_rfl) (by kernel_rfl) (by kernel_rfl) ?q235 ?y235 (by assumption) ?r235; (case i235 => (simp only [List.getElem?_toArray, List.getElem?_cons_succ, List.getElem?_cons_zero]; rfl)); (case q235 => exact fun _ _ _ h => h); (case y235 => (refine Or.inl ⟨by rfl, ?_⟩; intro w hSw; (try dsimp only at hSw); go_simp; (try (with_reducible rfl))))) | (refine wpAnyH_take (i := 2) (oi := ?o236) (v := undef) ?i236 (by kernel_rfl) (by kernel_rfl) (by kernel_rfl) ?q236 ?y236 (by assumption) ?r236; (case i236 => (simp only [List.getElem?_toArray, List.getElem?_cons_succ, List.getElem?_cons_zero]; rfl)); (case q236 => exact fun _ _ _ h => h); (case y236 => exact Or.inr ⟨by rfl, rfl⟩))
  try simp only [Act.put, List.setIfInBounds_toArray, List.set_cons_zero, List.set_cons_succ]
  first | (refine wpAnyH_take (i := 3) (oi := ?o237) (v := ?v237) ?i237 (by kernel_rfl) (by kernel_rfl) (by kernel_rfl) ?q237 ?y237 (by assumption) ?r237; (case i237 => (simp only [List.getElem?_toArray, List.getElem?_cons_succ, List.getElem?_cons_zero]; rfl)); (case q237 => exact fun _ _ _ h => h); (case y237 => (refine Or.inl ⟨by rfl, ?_⟩; intro w hSw; (try dsimp only at hSw); go_simp; (try (with_reducible rfl))))) | (refine wpAnyH_take (i := 3) (oi := ?o238) (v := undef) ?i238 (by kernel_rfl) (by kernel_rfl) (by kernel_rfl) ?q238 ?y238 (by assumption) ?r238; (case i238 => (simp only [List.getElem?_toArray, List.getElem?_cons_succ, List.getElem?_cons_zero]; rfl)); (case q238 => exact fun _ _ _ h => h); (case y238 => exact Or.inr ⟨by rfl, rfl⟩))
  try simp only [Act.put, List.setIfInBounds_toArray, List.set_cons_zero, List.set_cons_succ]
  first | (refine wpAnyH_take (i := 4) (oi := ?o239) (v := ?v239) ?i239 (by kernel_rfl) (by kernel_rfl) (by kernel_rfl) ?q239 ?y239 (by assumption) ?r239; (case i239 => (simp only [List.getElem?_toArray, List.getElem?_cons_succ, List.getElem?_cons_zero]; rfl)); (case q239 => exact fun _ _ _ h => h); (case y239 => (refine Or.inl ⟨by rfl, ?_⟩; intro w hSw; (try dsimp only at hSw); go_simp; (try (with_reducible rfl))))) | (refine wpAnyH_take (i := 4) (oi := ?o240) (v := undef) ?i240 (by kernel_rfl) (by kernel_rfl) (by kernel_rfl) ?q240 ?y240 (by assumption) ?r240; (case i240 => (simp only [List.getElem?_toArray, List.getElem?_cons_succ, List.getElem?_cons_zero]; rfl)); (case q240 => exact fun _ _ _ h => h); (case y240 => exact Or.inr ⟨by rfl, rfl⟩))
  try simp only [Act.put, List.setIfInBounds_toArray, List.set_cons_zero, List.set_cons_succ]
  first | (refine wpAnyH_take (i := 5) (oi := ?o241) (v := ?v241) ?i241 (by kernel_rfl) (by kernel_rfl) (by kernel_rfl) ?q241 ?y241 (by assumption) ?r241; (case i241 => (simp only [List.getElem?_toArray, List.getElem?_cons_succ, List.getElem?_cons_zero]; rfl)); (case q241 => exact fun _ _ _ h => h); (case y241 => (refine Or.inl ⟨by rfl, ?_⟩; intro w hSw; (try dsimp only at hSw); go_simp; (try (with_reducible rfl))))) | (refine wpAnyH_take (i := 5) (oi := ?o242) (v := undef) ?i242 (by kernel_rfl) (by kernel_rfl) (by kernel_rfl) ?q242 ?y242 (by assumption) ?r242; (case i242 => (simp only [List.getElem?_toArray, List.getElem?_cons_succ, List.getElem?_cons_zero]; rfl)); (case q242 => exact fun _ _ _ h => h); (case y242 => exact Or.inr ⟨by rfl, rfl⟩))
  try simp only [Act.put, List.setIfInBounds_toArray, List.set_cons_zero, List.set_cons_succ]
  first | (refine wpAnyH_take (i := 6) (oi := ?o243) (v := ?v243) ?i243 (by kernel_rfl) (by kernel_rfl) (by kernel_rfl) ?q243 ?y243 (by assumption) ?r243; (case i243 => (simp only [List.getElem?_toArray, List.getElem?_cons_succ, List.getElem?_cons_zero]; rfl)); (case q243 => exact fun _ _ _ h => h); (case y243 => (refine Or.inl ⟨by rfl, ?_⟩; intro w hSw; (try dsimp only at hSw); go_simp; (try (with_reducible rfl))))) | (refine wpAnyH_take (i := 6) (oi := ?o244) (v := undef) ?i244 (by kernel_rfl) (by kernel_rfl) (by kernel_rfl) ?q244 ?y244 (by assumption) ?r244; (case i244 => (simp only [List.getElem?_toArray, List.getElem?_cons_succ, List.getElem?_cons_zero]; rfl)); (case q244 => exact fun _ _ _ h => h); (case y244 => exact Or.inr ⟨by rfl, rfl⟩))
  try simp only [Act.put, List.setIfInBounds_toArray, List.set_cons_zero, List.set_cons_succ]
  first | (refine wpAnyH_take (i := 7) (oi := ?o245) (v := ?v245) ?i245 (by kernel_rfl) (by kernel_rfl) (by kernel_rfl) ?q245 ?y245 (by assumption) ?r245; (case i245 => (simp only [List.getElem?_toArray, List.getElem?_cons_succ, List.getElem?_cons_zero]; rfl)); (case q245 => exact fun _ _ _ h => h); (case y245 => (refine Or.inl ⟨by rfl, ?_⟩; intro w hSw; (try dsimp only at hSw); go_simp; (try (with_reducible rfl))))) | (refine wpAnyH_take (i := 7) (oi := ?o246) (v := undef) ?i246 (by kernel_rfl) (by kernel_rfl) (by kernel_rfl) ?q246 ?y246 (by assumption) ?r246; (case i246 => (simp only [List.getElem?_toArray, List.getElem?_cons_succ, List.getElem?_cons_zero]; rfl)); (case q246 => exact fun _ _ _ h => h); (case y246 => exact Or.inr ⟨by rfl, rfl⟩))
  try simp only [Act.put, List.setIfInBounds_toArray, List.set_cons_zero, List.set_cons_succ]
  first | (refine wpAnyH_take (i := 8) (oi := ?o247) (v := ?v247) ?i247 (by kernel_rfl) (by kernel_rfl) (by kernel_rfl) ?q247 ?y247 (by assumption) ?r247; (case i247 => (simp only [List.getElem?_toArray, List.getElem?_cons_succ, List.getElem?_cons_zero]; rfl)); (case q247 => exact fun _ _ _ h => h); (case y247 => (refine Or.inl ⟨by rfl, ?_⟩; intro w hSw; (try dsimp only at hSw); go_simp; (try (with_reducible rfl))))) | (refine wpAnyH_take (i := 8) (oi := ?o248) (v := undef) ?i248 (by kernel_rfl) (by kernel_rfl) (by kernel_rfl) ?q248 ?y248 (by assumption) ?r248; (case i248 => (simp only [List.getElem?_toArray, List.getElem?_cons_succ, List.getElem?_cons_zero]; rfl)); (case q248 => exact fun _ _ _ h => h); (case y248 => exact Or.inr ⟨by rfl, rfl⟩))
  try simp only [Act.put, List.setIfInBounds_toArray, List.set_cons_zero, List.set_cons_succ]
  first | (refine wpAnyH_take (i := 9) (oi := ?o249) (v := ?v249) ?i249 (by kernel_rfl) (by kernel_rfl) (by kernel_rfl) ?q249 ?y249 (by assumption) ?r249; (case i249 => (simp only [List.getElem?_toArray, List.getElem?_cons_succ, List.getElem?_cons_zero]; rfl)); (case q249 => exact fun _ _ _ h => h); (case y249 => (refine Or.inl ⟨by rfl, ?_⟩; intro w hSw; (try dsimp only at hSw); go_simp; (try (with_reducible rfl))))) | (refine wpAnyH_take (i := 9) (oi := ?o250) (v := undef) ?i250 (by kernel_rfl) (by kernel_rfl) (by kernel_rfl) ?q250 ?y250 (by assumption) ?r250; (case i250 => (simp only [List.getElem?_toArray, List.getElem?_cons_succ, List.getElem?_cons_zero]; rfl)); (case q250 => exact fun _ _ _ h => h); (case y250 => exact Or.inr ⟨by rfl, rfl⟩))
  try simp only [Act.put, List.setIfInBounds_toArray, List.set_cons_zero, List.set_cons_succ]
  first | (refine wpAnyH_take (i := 10) (oi := ?o251) (v := ?v251) ?i251 (by kernel_rfl) (by kernel_rfl) (by kernel_rfl) ?q251 ?y251 (by assumption) ?r251; (case i251 => (simp only [List.getElem?_toArray, List.getElem?_cons_succ, List.getElem?_cons_zero]; rfl)); (case q251 => exact fun _ _ _ h => h); (case y251 => (refine Or.inl ⟨by rfl, ?_⟩; intro w hSw; (try dsimp only at hSw); go_simp; (try (with_reducible rfl))))) | (refine wpAnyH_take (i := 10) (oi := ?o252) (v := undef) ?i252 (by kernel_rfl) (by kernel_rfl) (by kernel_rfl) ?q252 ?y252 (by assumption) ?r252; (case i252 => (simp only [List.getElem?_toArray, List.getElem?_cons_succ, List.getElem?_cons_zero]; rfl)); (case q252 => exact fun _ _ _ h => h); (case y252 => exact Or.inr ⟨by rfl, rfl⟩))
  try simp only [Act.put, List.setIfInBounds_toArray, List.set_cons_zero, List.set_cons_succ]
  first | (refine wpAnyH_take (i := 11) (oi := ?o253) (v := ?v253) ?i253 (by kernel_rfl) (by kernel_rfl) (by kernel_rfl) ?q253 ?y253 (by assumption) ?r253; (case i253 => (simp only [List.getElem?_toArray, List.getElem?_cons_succ, List.getElem?_cons_zero]; rfl)); (case q253 => exact fun _ _ _ h => h); (case y253 => (refine Or.inl ⟨by rfl, ?_⟩; intro w hSw; (try dsimp only at hSw); go_simp; (try (with_reducible rfl))))) | (refine wpAnyH_take (i := 11) (oi := ?o254) (v := undef) ?i254 (by kernel_rfl) (by kernel_rfl) (by kernel_rfl) ?q254 ?y254 (by assumption) ?r254; (case i254 => (simp only [List.getElem?_toArray, List.getElem?_cons_succ, List.getElem?_cons_zero]; rfl)); (case q254 => exact fun _ _ _ h => h); (case y254 => exact Or.inr ⟨by rfl, rfl⟩))
  try simp only [Act.put, List.setIfInBounds_toArray, List.set_cons_zero, List.set_cons_succ]
  first | (refine wpAnyH_take (i := 12) (oi := ?o255) (v := ?v255) ?i255 (by kernel_rfl) (by kernel_rfl) (by kernel_rfl) ?q255 ?y255 (by assumption) ?r255; (case i255 => (simp only [List.getElem?_toArray, List.getElem?_cons_succ, List.getElem?_cons_zero]; rfl)); (case q255 => exact fun _ _ _ h => h); (case y255 => (refine Or.inl ⟨by rfl, ?_⟩; intro w hSw; (try dsimp only at hSw); go_simp; (try (with_reducible rfl))))) | (refine wpAnyH_take (i := 12) (oi := ?o256) (v := undef) ?i256 (by kernel_rfl) (by kernel_rfl) (by kernel_rfl) ?q256 ?y256 (by assumption) ?r256; (case i256 => (simp only [List.getElem?_toArray, List.getElem?_cons_succ, List.getElem?_cons_zero]; rfl)); (case q256 => exact fun _ _ _ h => h); (case y256 => exact Or.inr ⟨by rfl, rfl⟩))
  try simp only [Act.put, List.setIfInBounds_toArray, List.set_cons_zero, List.set_cons_succ]
  first | (refine wpAnyH_take (i := 13) (oi := ?o257) (v := ?v257) ?i257 (by kernel_rfl) (by kernel_rfl) (by kernel_rfl) ?q257 ?y257 (by assumption) ?r257; (case i257 => (simp only [List.getElem?_toArray, List.getElem?_cons_succ, List.getElem?_cons_zero]; rfl)); (case q257 => exact fun _ _ _ h => h); (case y257 => (refine Or.inl ⟨by rfl, ?_⟩; intro w hSw; (try dsimp only at hSw); go_simp; (try (with_reducible rfl))))) | (refine wpAnyH_take (i := 13) (oi := ?o258) (v := undef) ?i258 (by kernel_rfl) (by kernel_rfl) (by kernel_rfl) ?q258 ?y258 (by assumption) ?r258; (case i258 => (simp only [List.getElem?_toArray, List.getElem?_cons_succ, List.getElem?_cons_zero]; rfl)); (case q258 => exact fun _ _ _ h => h); (case y258 => exact Or.inr ⟨by rfl, rfl⟩))
  try simp only [Act.put, List.setIfInBounds_toArray, List.set_cons_zero, List.set_cons_succ]
  first | (refine wpAnyH_take (i := 14) (oi := ?o259) (v := ?v259) ?i259 (by kernel_rfl) (by kernel_rfl) (by kernel_rfl) ?q259 ?y259 (by assumption) ?r259; (case i259 => (simp only [List.getElem?_toArray, List.getElem?_cons_succ, List.getElem?_cons_zero]; rfl)); (case q259 => exact fun _ _ _ h => h); (case y259 => (refine Or.inl ⟨by rfl, ?_⟩; intro w hSw; (try dsimp only at hSw); go_simp; (try (with_reducible rfl))))) | (refine wpAnyH_take (i := 14) (oi := ?o260) (v := undef) ?i260 (by kernel_rfl) (by kernel_rfl) (by kernel_rfl) ?q260 ?y260 (by assumption) ?r260; (case i260 => (simp only [List.getElem?_toArray, List.getElem?_cons_succ, List.getElem?_cons_zero]; rfl)); (case q260 => exact fun _ _ _ h => h); (case y260 => exact Or.inr ⟨by rfl, rfl⟩))
  try simp only [Act.put, List.setIfInBounds_toArray, List.set_cons_zero, List.set_cons_succ]
  first | (refine wpAnyH_take (i := 15) (oi := ?o261) (v := ?v261) ?i261 (by kernel_rfl) (by kernel_rfl) (by kernel_rfl) ?q261 ?y261 (by assumption) ?r261; (case i261 => (simp only [List.getElem?_toArray, List.getElem?_cons_succ, List.getElem?_cons_zero]; rfl)); (case q261 => exact fun _ _ _ h => h); (case y261 => (refine Or.inl ⟨by rfl, ?_⟩; intro w hSw; (try dsimp only at hSw); go_simp; (try (with_reducible rfl))))) | (refine wpAnyH_take (i := 15) (oi := ?o262) (v := undef) ?i262 (by kernel_rfl) (by kernel_rfl) (by kernel_rfl) ?q262 ?y262 (by assumption) ?r262; (case i262 => (simp only [List.getElem?_toArray, List.getElem?_cons_succ, List.getElem?_cons_zero]; rfl)); (case q262 => exact fun _ _ _ h => h); (case y262 => exact Or.inr ⟨by rfl, rfl⟩))
  try simp only [Act.put, List.setIfInBounds_toArray, List.set_cons_zero, List.set_cons_succ]
  refine wpAnyH_done (by kernel_rfl) ?_ _
  obtain ⟨w5, hw5⟩ : ∃ w5, w5 = w4.drew := ⟨_, rfl⟩
  rw [← hw5]
  have b5 : Below w4.heap.size w4 w5 := by rw [hw5]; exact (Below.refl _ _).drew
  have HB5 := Aside0.mk (HB4.out.trans (b5.mono HB4.out.size))
  have hl5 := HL4.out.below b5
  have k05 := hl5.c0
  have k15 := hl5.c1
  have k25 := hl5.c2
  have k35 := hl5.c3
  have k45 := hl5.c4
  have x85 := (b5.block _ (blt X84.out)).trans X84.out
  have HG5 := Aside0.mk (hG.below HG4.out b5)
  have HL5 := Aside0.mk hl5
  have X85 := Lib.hid x85
  clear hw5 b5 hl5 x85
  go_wp2_with (first
    | (rw [← HW0.out])
    | (rw [← HW.out])
    | (go_at_call 32; (have hcc := RCount_any HL5.out HSL.out 0); (rw [← HC0.out] at hcc); (with_reducible refine hcc.mono ?_); clear hcc; rintro e w7 ⟨rfl, hb7⟩; have HB7 := Aside0.mk (HB5.out.trans (hb7.mono HB5.out.size)); have x8 := (hb7.block _ (blt X85.out)).trans X85.out; have X87 := Lib.hid x8; have n0 : w7.cell? ⟨w.heap.size, 0, none⟩ = some (.int .i64 0) := bcell x8 0; have n1 : w7.cell? ⟨w.heap.size, 1, none⟩ = some (.int .i64 0) := bcell x8 1; have nf : ∀ j, w7.frozen? ⟨w.heap.size, j, none⟩ = false := (fun j => bfrozen x8 j); have HL7 := Aside0.mk (HL5.out.below hb7); have HG7 := Aside0.mk (hG.below HG5.out hb7); clear hb7 x8)
    | fail)
  obtain ⟨w9, hw9⟩ : ∃ w9, w9 = (w7.setCell ⟨w.heap.size, 0, none⟩ (.int .i64 0)).setCell ⟨w.heap.size, 1, none⟩ (.int .i64 0) := ⟨_, rfl⟩
  rw [← hw9]
  obtain ⟨r8, hf9, hl9, hb9, hk9⟩ := rput_end hG hSt HG7.out HL7.out hr ht HLT.out hsz (Nat.le_refl _) X87.out (.inr ⟨Nat.le_refl _, by omega⟩) (fun k hk => .inl hk) ((WB.out.trans ((HB7.out).mono (by omega))).mono hsz) (fun k hk => (((HB7.out).mono (by omega)).block k (HLT.out k hk.1)).trans (WB.out.block k (HLT.out k hk.1))) hw9
  have r0 := bcell r8 0
  have r1 := bcell r8 1
  exact bodyPost_ret (v := .tuple #[.agg #[.int .i64 0, .int .i64 0], .int .i64 5]) (by simp [results, Try.results69, go_sem, r0, r1]) rfl ⟨rfl, hf9, hl9, hb9, hk9⟩
set_option maxHeartbeats 4000000 in
set_option maxRecDepth 100000 in
theorem RPut_app (hG : RefFrame N0 x s G) (hSt : ∀ ps, Stays (fun K w => G K ps w)) (h : G K ps w) (hl : RLog r t x cap rest g w) (hr : K r) (ht : K t) (hNr : N0 ≤ r) (hNt : N0 ≤ t) (hsh : ShapeOk s) (hc : l.length ≤ c) (hm : l.length ≤ 4096) (hk : kind ≠ 1) (hb1 : (kpg s l.length : Int) + 1 ≤ s.2.1) (ho : 0 ≤ g.op) (hp0 : 0 ≤ g.pg) (hp1 : g.pg ≤ 100000) (hb2 : g.pg + (kpg s l.length : Int) ≤ s.2.1) (hkk : KindOk kind) (hBl : Byt l) (hCx : ∀ X, Below N0 w X → kB.C X A l.length l) (hdd : ps.length < 900000) (hsq : SeqOk (g.nx - 1)) (hn1 : 1 ≤ g.nx) (hn2 : g.nx < 1000000) : Calls Try.prog 69 #[.pointer (some ⟨r, 0, none⟩), .int .u8 kind, .slice A l.length c, .int .i64 need] w (RPutPost N0 r t x cap rest G K w (g.op, g.pg) 0 (appP s ps g.op g.pg l.length (rec kind (g.nx - 1) l)) { g with pg := g.pg + (kpg s l.length : Int) }) := by
  obtain ⟨n, hn⟩ : ∃ n, n = l.length := ⟨_, rfl⟩
  have hsz := hG.size h
  have hlt := fun k hk => hG.lt h k hk
  obtain ⟨okx, hX⟩ := hG.ref h
  obtain ⟨vx, hxb, _⟩ := hX.blk
  obtain ⟨W0, hW0⟩ : ∃ W0, W0 = w.alloc (.cells #[.int .i64 0, .int .i64 0] TA) := ⟨_, rfl⟩
  have wb0 : Below w.heap.size w W0 := by rw [hW0]; exact below_alloc (Below.refl _ _) _
  have wz0 : W0.heap.size = w.heap.size + 1 := by rw [hW0]; exact size_alloc _ _
  have hxb0 := (wb0.block _ (blt hxb)).trans hxb
  have u0 : W0.cell? ⟨x, 0, none⟩ = some (.int .i64 s.1) := bcell hxb0 0
  have u1 : W0.cell? ⟨x, 1, none⟩ = some (.int .i64 s.2.1) := bcell hxb0 1
  have u2 : W0.cell? ⟨x, 2, none⟩ = some (.int .i64 s.2.2) := bcell hxb0 2
  have k0 := (hl.below wb0).c0
  obtain ⟨W, hW⟩ : ∃ W, W = W0.alloc (.cells #[.int .i64 s.1, .int .i64 s.2.1, .int .i64 s.2.2] TSh) := ⟨_, rfl⟩
  obtain ⟨q8, q10⟩ := pair_blk w (.cells #[.int .i64 0, .int .i64 0] TA) (.cells #[.int .i64 s.1, .int .i64 s.2.1, .int .i64 s.2.2] TSh)
  rw [← hW0, ← hW] at q8 q10
  have y2 : W.cell? ⟨w.heap.size + 1, 2, none⟩ = some (.int .i64 s.2.2) := bcell q10 2
  have wb : Below w.heap.size w W := by rw [hW]; exact below_alloc wb0 _
  have wsz : W.heap.size = w.heap.size + 2 := by rw [hW, size_alloc, wz0]
  have hf1 := hG.keep h wb
  have hl1 := hl.below wb
  rw [← hn] at hc hm
  obtain ⟨kk, hkp⟩ : ∃ kk, kk = kpg s n := ⟨_, rfl⟩
  have hkb : kk ≤ 257 := by rw [hkp]; exact (kpg_bd hsh hm).2
  have hpg : ∀ X : World, Calls Try.prog 42 #[.int .i64 (n : Int), .int .i64 s.2.2] X fun e w' => e = .returned (.int .i64 (kk : Int)) ∧ Below X.heap.size X w' := fun X => by
    rw [hkp]
    exact RPages_ok n s hsh hm X
  have s10 := hsh.b0
  have s11 := hsh.b1
  have HPG := Lib.hid hpg
  have HG1 := Aside0.mk hf1
  have HL1 := Aside0.mk hl1
  have HW := Lib.hid hW
  have HW0 := Lib.hid hW0
  have Q8 := Lib.hid q8
  have Q10 := Lib.hid q10
  have WB := Aside0.mk wb
  have HN := Lib.hid hn
  have HKP := Lib.hid hkp
  have HLT := Lib.hid hlt
  have e_n : decide ((n : Int) > 4096) = false := decide_eq_false (by omega)
  have kw1 : IntKind.i64.wrap ((kk : Int) + 1) = (kk : Int) + 1 := IntWalk.i64_in _ (by omega)
  rw [← hn]
  clear h hl hn hlt hf1 hl1 hX hxb hxb0 wb0 hW hW0 q8 q10 wb hkp hpg
  rw [← HN.out, ← HKP.out] at hb1
  have e_b : decide ((kk : Int) + 1 > s.2.1) = false := decide_eq_false (by omega)
  have e_k : (kind == 1) = false := by simpa using hk
  clear hk
  rw [← HN.out, ← HKP.out] at hb2
  have e_o : decide (g.op < 0) = false := decide_eq_false (by omega)
  have kw2 : IntKind.i64.wrap (g.pg + (kk : Int)) = g.pg + (kk : Int) := IntWalk.i64_in _ (by omega)
  have e_p : decide (g.pg + (kk : Int) > s.2.1) = false := decide_eq_false (by omega)
  have HCX := Lib.hid hCx
  have HSH := Lib.hid hsh
  clear hCx
  go_enter Try.func69, Try.ntmps69
  go_wp2_with (first
    | (rw [← HW0.out])
    | (rw [← HW.out])
    | (go_at_call 42; (with_reducible refine (HPG.out _).mono ?_); rintro e w4 ⟨rfl, hb4⟩; have HB4 := Aside0.mk hb4; have x8 := (hb4.block _ (blt Q8.out)).trans Q8.out; have x10 := (hb4.block _ (blt Q10.out)).trans Q10.out; have hl4 := HL1.out.below hb4; have k04 := hl4.c0; have k14 := hl4.c1; have k24 := hl4.c2; have k34 := hl4.c3; have m0 : w4.cell? ⟨w.heap.size, 0, none⟩ = some (.int .i64 0) := bcell x8 0; have m1 : w4.cell? ⟨w.heap.size, 1, none⟩ = some (.int .i64 0) := bcell x8 1; have mf : ∀ j, w4.frozen? ⟨w.heap.size, j, none⟩ = false := (fun j => bfrozen x8 j); have y1 : w4.cell? ⟨w.heap.size + 1, 1, none⟩ = some (.int .i64 s.2.1) := bcell x10 1; have X84 := Lib.hid x8; have X104 := Lib.hid x10; have HL4 := Aside0.mk hl4; have HG4 := Aside0.mk (hG.below HG1.out hb4); clear hb4 x8 x10 hl4)
    | fail)
  have e_u : decide ((n : Int) > 4096) = false := e_n
  refine wp_region_held_drew (S := (fun w' => w'.cell? ⟨r, 2, none⟩ = some (.int .i64 g.op) ∧ w'.cell? ⟨r, 3, none⟩ = some (.int .i64 g.pg) ∧ w'.cell? ⟨w.heap.size + 1, 1, none⟩ = some (.int .i64 s.2.1))) (by kernel_rfl) ?_ (fun hHeld => ?_)
  · first | go_keep | exact ⟨k24, k34, y1⟩
  first | (refine wpAnyH_take (i := 0) (oi := ?o263) (v := ?v263) ?i263 (by kernel_rfl) (by kernel_rfl) (by kernel_rfl) ?q263 ?y263 (by assumption) ?r263; (case i263 => (simp only [List.getElem?_toArray, List.getElem?_cons_succ, List.getElem?_cons_zero]; rfl)); (case q263 => exact fun _ _ _ h => h); (case y263 => (refine Or.inl ⟨by rfl, ?_⟩; intro w hSw; (try dsimp only at hSw); go_simp; (try (with_reducible rfl))))) | (refine wpAnyH_take (i := 0) (oi := ?o264) (v := undef) ?i264 (by kernel_rfl) (by kernel_rfl) (by kernel_rfl) ?q264 ?y264 (by assumption) ?r264; (case i264 => (simp only [List.getElem?_toArray, List.getElem?_cons_succ, List.getElem?_cons_zero]; rfl)); (case q264 => exact fun _ _ _ h => h); (case y264 => exact Or.inr ⟨by rfl, rfl⟩))
  try simp only [Act.put, List.setIfInBounds_toArray, List.set_cons_zero, List.set_cons_succ]
  first | (refine wpAnyH_take (i := 1) (oi := ?o265) (v := ?v265) ?i265 (by kernel_rfl) (by kernel_rfl) (by kernel_rfl) ?q265 ?y265 (by assumption) ?r265; (case i265 => (simp only [List.getElem?_toArray, List.getElem?_cons_succ, List.getElem?_cons_zero]; rfl)); (case q265 => exact fun _ _ _ h => h); (case y265 => (refine Or.inl ⟨by rfl, ?_⟩; intro w hSw; (try dsimp only at hSw); go_simp; (try (with_reducible rfl))))) | (refine wpAnyH_take (i := 1) (oi := ?o266) (v := undef) ?i266 (by kernel_rfl) (by kernel_rfl) (by kernel_rfl) ?q266 ?y266 (by assumption) ?r266; (case i266 => (simp only [List.getElem?_toArray, List.getElem?_cons_succ, List.getElem?_cons_zero]; rfl)); (case q266 => exact fun _ _ _ h => h); (case y266 => exact Or.inr ⟨by rfl, rfl⟩))
  try simp only [Act.put, List.setIfInBounds_toArray, List.set_cons_zero, List.set_cons_succ]
  first | (refine wpAnyH_take (i := 2) (oi := ?o267) (v := ?v267) ?i267 (by kernel_rfl) (by kernel_rfl) (by kernel_rfl) ?q267 ?y267 (by assumption) ?r267; (case i267 => (simp only [List.getElem?_toArray, List.getElem?_cons_succ, List.getElem?_cons_zero]; rfl)); (case q267 => exact fun _ _ _ h => h); (case y267 => (refine Or.inl ⟨by rfl, ?_⟩; intro w hSw; (try dsimp only at hSw); go_simp; (try (with_reducible rfl))))) | (refine wpAnyH_take (i := 2) (oi := ?o268) (v := undef) ?i268 (by kernel_rfl) (by kernel_rfl) (by kernel_rfl) ?q268 ?y268 (by assumption) ?r268; (case i268 => (simp only [List.getElem?_toArray, List.getElem?_cons_succ, List.getElem?_cons_zero]; rfl)); (case q268 => exact fun _ _ _ h => h); (case y268 => exact Or.inr ⟨by rfl, rfl⟩))
  try simp only [Act.put, List.setIfInBounds_toArray, List.set_cons_zero, List.set_cons_succ]
  first | (refine wpAnyH_take (i := 3) (oi := ?o269) (v := ?v269) ?i269 (by kernel_rfl) (by kernel_rfl) (by kernel_rfl) ?q269 ?y269 (by assumption) ?r269; (case i269 => (simp only [List.getElem?_toArray, List.getElem?_cons_succ, List.getElem?_cons_zero]; rfl)); (case q269 => exact fun _ _ _ h => h); (case y269 => (refine Or.inl ⟨by rfl, ?_⟩; intro w hSw; (try dsimp only at hSw); go_simp; (try (with_reducible rfl))))) | (refine wpAnyH_take (i := 3) (oi := ?o270) (v := undef) ?i270 (by kernel_rfl) (by kernel_rfl) (by kernel_rfl) ?q270 ?y270 (by assumption) ?r270; (case i270 => (simp only [List.getElem?_toArray, List.getElem?_cons_succ, List.getElem?_cons_zero]; rfl)); (case q270 => exact fun _ _ _ h => h); (case y270 => exact Or.inr ⟨by rfl, rfl⟩))
  try simp only [Act.put, List.setIfInBounds_toArray, List.set_cons_zero, List.set_cons_succ]
  first | (refine wpAnyH_take (i := 4) (oi := ?o271) (v := ?v271) ?i271 (by kernel_rfl) (by kernel_rfl) (by kernel_rfl) ?q271 ?y271 (by assumption) ?r271; (case i271 => (simp only [List.getElem?_toArray, List.getElem?_cons_succ, List.getElem?_cons_zero]; rfl)); (case q271 => exact fun _ _ _ h => h); (case y271 => (refine Or.inl ⟨by rfl, ?_⟩; intro w hSw; (try dsimp only at hSw); go_simp; (try (with_reducible rfl))))) | (refine wpAnyH_take (i := 4) (oi := ?o272) (v := undef) ?i272 (by kernel_rfl) (by kernel_rfl) (by kernel_rfl) ?q272 ?y272 (by assumption) ?r272; (case i272 => (simp only [List.getElem?_toArray, List.getElem?_cons_succ, List.getElem?_cons_zero]; rfl)); (case q272 => exact fun _ _ _ h => h); (case y272 => exact Or.inr ⟨by rfl, rfl⟩))
  try simp only [Act.put, List.setIfInBounds_toArray, List.set_cons_zero, List.set_cons_succ]
  first | (refine wpAnyH_take (i := 5) (oi := ?o273) (v := ?v273) ?i273 (by kernel_rfl) (by kernel_rfl) (by kernel_rfl) ?q273 ?y273 (by assumption) ?r273; (case i273 => (simp only [List.getElem?_toArray, List.getElem?_cons_succ, List.getElem?_cons_zero]; rfl)); (case q273 => exact fun _ _ _ h => h); (case y273 => (refine Or.inl ⟨by rfl, ?_⟩; intro w hSw; (try dsimp only at hSw); go_simp; (try (with_reducible rfl))))) | (refine wpAnyH_take (i := 5) (oi := ?o274) (v := undef) ?i274 (by kernel_rfl) (by kernel_rfl) (by kernel_rfl) ?q274 ?y274 (by assumption) ?r274; (case i274 => (simp only [List.getElem?_toArray, List.getElem?_cons_succ, List.getElem?_cons_zero]; rfl)); (case q274 => exact fun _ _ _ h => h); (case y274 => exact Or.inr ⟨by rfl, rfl⟩))
  try simp only [Act.put, List.setIfInBounds_toArray, List.set_cons_zero, List.set_cons_succ]
  first | (refine wpAnyH_take (i := 6) (oi := ?o275) (v := ?v275) ?i275 (by kernel_rfl) (by kernel_rfl) (by kernel_rfl) ?q275 ?y275 (by assumption) ?r275; (case i275 => (simp only [List.getElem?_toArray, List.getElem?_cons_succ, List.getElem?_cons_zero]; rfl)); (case q275 => exact fun _ _ _ h => h); (case y275 => (refine Or.inl ⟨by rfl, ?_⟩; intro w hSw; (try dsimp only at hSw); go_simp; (try (with_reducible rfl))))) | (refine wpAnyH_take (i := 6) (oi := ?o276) (v := undef) ?i276 (by kernel_rfl) (by kernel_rfl) (by kernel_rfl) ?q276 ?y276 (by assumption) ?r276; (case i276 => (simp only [List.getElem?_toArray, List.getElem?_cons_succ, List.getElem?_cons_zero]; rfl)); (case q276 => exact fun _ _ _ h => h); (case y276 => exact Or.inr ⟨by rfl, rfl⟩))
  try simp only [Act.put, List.setIfInBounds_toArray, List.set_cons_zero, List.set_cons_succ]
  first | (refine wpAnyH_take (i := 7) (oi := ?o277) (v := ?v277) ?i277 (by kernel_rfl) (by kernel_rfl) (by kernel_rfl) ?q277 ?y277 (by assumption) ?r277; (case i277 => (simp only [List.getElem?_toArray, List.getElem?_cons_succ, List.getElem?_cons_zero]; rfl)); (case q277 => exact fun _ _ _ h => h); (case y277 => (refine Or.inl ⟨by rfl, ?_⟩; intro w hSw; (try dsimp only at hSw); go_simp; (try (with_reducible rfl))))) | (refine wpAnyH_take (i := 7) (oi := ?o278) (v := undef) ?i278 (by kernel_rfl) (by kernel_rfl) (by kernel_rfl) ?q278 ?y278 (by assumption) ?r278; (case i278 => (simp only [List.getElem?_toArray, List.getElem?_cons_succ, List.getElem?_cons_zero]; rfl)); (case q278 => exact fun _ _ _ h => h); (case y278 => exact Or.inr ⟨by rfl, rfl⟩))
  try simp only [Act.put, List.setIfInBounds_toArray, List.set_cons_zero, List.set_cons_succ]
  first | (refine wpAnyH_take (i := 8) (oi := ?o279) (v := ?v279) ?i279 (by kernel_rfl) (by kernel_rfl) (by kernel_rfl) ?q279 ?y279 (by assumption) ?r279; (case i279 => (simp only [List.getElem?_toArray, List.getElem?_cons_succ, List.getElem?_cons_zero]; rfl)); (case q279 => exact fun _ _ _ h => h); (case y279 => (refine Or.inl ⟨by rfl, ?_⟩; intro w hSw; (try dsimp only at hSw); go_simp; (try (with_reducible rfl))))) | (refine wpAnyH_take (i := 8) (oi := ?o280) (v := undef) ?i280 (by kernel_rfl) (by kernel_rfl) (by kernel_rfl) ?q280 ?y280 (by assumption) ?r280; (case i280 => (simp only [List.getElem?_toArray, List.getElem?_cons_succ, List.getElem?_cons_zero]; rfl)); (case q280 => exact fun _ _ _ h => h); (case y280 => exact Or.inr ⟨by rfl, rfl⟩))
  try simp only [Act.put, List.setIfInBounds_toArray, List.set_cons_zero, List.set_cons_succ]
  first | (refine wpAnyH_take (i := 9) (oi := ?o281) (v := ?v281) ?i281 (by kernel_rfl) (by kernel_rfl) (by kernel_rfl) ?q281 ?y281 (by assumption) ?r281; (case i281 => (simp only [List.getElem?_toArray, List.getElem?_cons_succ, List.getElem?_cons_zero]; rfl)); (case q281 => exact fun _ _ _ h => h); (case y281 => (refine Or.inl ⟨by rfl, ?_⟩; intro w hSw; (try dsimp only at hSw); go_simp; (try (with_reducible rfl))))) | (refine wpAnyH_take (i := 9) (oi := ?o282) (v := undef) ?i282 (by kernel_rfl) (by kernel_rfl) (by kernel_rfl) ?q282 ?y282 (by assumption) ?r282; (case i282 => (simp only [List.getElem?_toArray, List.getElem?_cons_succ, List.getElem?_cons_zero]; rfl)); (case q282 => exact fun _ _ _ h => h); (case y282 => exact Or.inr ⟨by rfl, rfl⟩))
  try simp only [Act.put, List.setIfInBounds_toArray, List.set_cons_zero, List.set_cons_succ]
  first | (refine wpAnyH_take (i := 10) (oi := ?o283) (v := ?v283) ?i283 (by kernel_rfl) (by kernel_rfl) (by kernel_rfl) ?q283 ?y283 (by assumption) ?r283; (case i283 => (simp only [List.getElem?_toArray, List.getElem?_cons_succ, List.getElem?_cons_zero]; rfl)); (case q283 => exact fun _ _ _ h => h); (case y283 => (refine Or.inl ⟨by rfl, ?_⟩; intro w hSw; (try dsimp only at hSw); go_simp; (try (with_reducible rfl))))) | (refine wpAnyH_take (i := 10) (oi := ?o284) (v := undef) ?i284 (by kernel_rfl) (by kernel_rfl) (by kernel_rfl) ?q284 ?y284 (by assumption) ?r284; (case i284 => (simp only [List.getElem?_toArray, List.getElem?_cons_succ, List.getElem?_cons_zero]; rfl)); (case q284 => exact fun _ _ _ h => h); (case y284 => exact Or.inr ⟨by rfl, rfl⟩))
  try simp only [Act.put, List.setIfInBounds_toArray, List.set_cons_zero, List.set_cons_succ]
  first | (refine wpAnyH_take (i := 11) (oi := ?o285) (v := ?v285) ?i285 (by kernel_rfl) (by kernel_rfl) (by kernel_rfl) ?q285 ?y285 (by assumption) ?r285; (case i285 => (simp only [List.getElem?_toArray, List.getElem?_cons_succ, List.getElem?_cons_zero]; rfl)); (case q285 => exact fun _ _ _ h => h); (case y285 => (refine Or.inl ⟨by rfl, ?_⟩; intro w hSw; (try dsimp only at hSw); go_simp; (try (with_reducible rfl))))) | (refine wpAnyH_take (i := 11) (oi := ?o286) (v := undef) ?i286 (by kernel_rfl) (by kernel_rfl) (by kernel_rfl) ?q286 ?y286 (by assumption) ?r286; (case i286 => (simp only [List.getElem?_toArray, List.getElem?_cons_succ, List.getElem?_cons_zero]; rfl)); (case q286 => exact fun _ _ _ h => h); (case y286 => exact Or.inr ⟨by rfl, rfl⟩))
  try simp only [Act.put, List.setIfInBounds_toArray, List.set_cons_zero, List.set_cons_succ]
  first | (refine wpAnyH_take (i := 12) (oi := ?o287) (v := ?v287) ?i287 (by kernel_rfl) (by kernel_rfl) (by kernel_rfl) ?q287 ?y287 (by assumption) ?r287; (case i287 => (simp only [List.getElem?_toArray, List.getElem?_cons_succ, List.getElem?_cons_zero]; rfl)); (case q287 => exact fun _ _ _ h => h); (case y287 => (refine Or.inl ⟨by rfl, ?_⟩; intro w hSw; (try dsimp only at hSw); go_simp; (try (with_reducible rfl))))) | (refine wpAnyH_take (i := 12) (oi := ?o288) (v := undef) ?i288 (by kernel_rfl) (by kernel_rfl) (by kernel_rfl) ?q288 ?y288 (by assumption) ?r288; (case i288 => (simp only [List.getElem?_toArray, List.getElem?_cons_succ, List.getElem?_cons_zero]; rfl)); (case q288 => exact fun _ _ _ h => h); (case y288 => exact Or.inr ⟨by rfl, rfl⟩))
  try simp only [Act.put, List.setIfInBounds_toArray, List.set_cons_zero, List.set_cons_succ]
  first | (refine wpAnyH_take (i := 13) (oi := ?o289) (v := ?v289) ?i289 (by kernel_rfl) (by kernel_rfl) (by kernel_rfl) ?q289 ?y289 (by assumption) ?r289; (case i289 => (simp only [List.getElem?_toArray, List.getElem?_cons_succ, List.getElem?_cons_zero]; rfl)); (case q289 => exact fun _ _ _ h => h); (case y289 => (refine Or.inl ⟨by rfl, ?_⟩; intro w hSw; (try dsimp only at hSw); go_simp; (try (with_reducible rfl))))) | (refine wpAnyH_take (i := 13) (oi := ?o290) (v := undef) ?i290 (by kernel_rfl) (by kernel_rfl) (by kernel_rfl) ?q290 ?y290 (by assumption) ?r290; (case i290 => (simp only [List.getElem?_toArray, List.getElem?_cons_succ, List.getElem?_cons_zero]; rfl)); (case q290 => exact fun _ _ _ h => h); (case y290 => exact Or.inr ⟨by rfl, rfl⟩))
  try simp only [Act.put, List.setIfInBounds_toArray, List.set_cons_zero, List.set_cons_succ]
  first | (refine wpAnyH_take (i := 14) (oi := ?o291) (v := ?v291) ?i291 (by kernel_rfl) (by kernel_rfl) (by kernel_rfl) ?q291 ?y291 (by assumption) ?r291; (case i291 => (simp only [List.getElem?_toArray, List.getElem?_cons_succ, List.getElem?_cons_zero]; rfl)); (case q291 => exact fun _ _ _ h => h); (case y291 => (refine Or.inl ⟨by rfl, ?_⟩; intro w hSw; (try dsimp only at hSw); go_simp; (try (with_reducible rfl))))) | (refine wpAnyH_take (i := 14) (oi := ?o292) (v := undef) ?i292 (by kernel_rfl) (by kernel_rfl) (by kernel_rfl) ?q292 ?y292 (by assumption) ?r292; (case i292 => (simp only [List.getElem?_toArray, List.getElem?_cons_succ, List.getElem?_cons_zero]; rfl)); (case q292 => exact fun _ _ _ h => h); (case y292 => exact Or.inr ⟨by rfl, rfl⟩))
  try simp only [Act.put, List.setIfInBounds_toArray, List.set_cons_zero, List.set_cons_succ]
  first | (refine wpAnyH_take (i := 15) (oi := ?o293) (v := ?v293) ?i293 (by kernel_rfl) (by kernel_rfl) (by kernel_rfl) ?q293 ?y293 (by assumption) ?r293; (case i293 => (simp only [List.getElem?_toArray, List.getElem?_cons_succ, List.getElem?_cons_zero]; rfl)); (case q293 => exact fun _ _ _ h => h); (case y293 => (refine Or.inl ⟨by rfl, ?_⟩; intro w hSw; (try dsimp only at hSw); go_simp; (try (with_reducible rfl))))) | (refine wpAnyH_take (i := 15) (oi := ?o294) (v := undef) ?i294 (by kernel_rfl) (by kernel_rfl) (by kernel_rfl) ?q294 ?y294 (by assumption) ?r294; (case i294 => (simp only [List.getElem?_toArray, List.getElem?_cons_succ, List.getElem?_cons_zero]; rfl)); (case q294 => exact fun _ _ _ h => h); (case y294 => exact Or.inr ⟨by rfl, rfl⟩))
  try simp only [Act.put, List.setIfInBounds_toArray, List.set_cons_zero, List.set_cons_succ]
  refine wpAnyH_done (by kernel_rfl) ?_ _
  obtain ⟨w5, hw5⟩ : ∃ w5, w5 = w4.drew := ⟨_, rfl⟩
  rw [← hw5]
  have b5 : Below w4.heap.size w4 w5 := by rw [hw5]; exact (Below.refl _ _).drew
  have HB5 := Aside0.mk (HB4.out.trans (b5.mono HB4.out.size))
  have hl5 := HL4.out.below b5
  have k05 := hl5.c0
  have k15 := hl5.c1
  have k25 := hl5.c2
  have k35 := hl5.c3
  have k45 := hl5.c4
  have x85 := (b5.block _ (blt X84.out)).trans X84.out
  have HG5 := Aside0.mk (hG.below HG4.out b5)
  have HL5 := Aside0.mk hl5
  have X85 := Lib.hid x85
  clear hw5 b5 hl5 x85
  go_wp2_with fail
  have y2_ := HL5.out.c2
  have y3_ := HL5.out.c3
  refine wp_region_held_drew (S := (fun w' => w'.cell? ⟨r, 2, none⟩ = some (.int .i64 g.op) ∧ w'.cell? ⟨r, 3, none⟩ = some (.int .i64 g.pg))) (by kernel_rfl) ?_ (fun hHeld => ?_)
  · first | go_keep | exact ⟨y2_, y3_⟩
  first | (refine wpAnyH_take (i := 0) (oi := ?o295) (v := ?v295) ?i295 (by kernel_rfl) (by kernel_rfl) (by kernel_rfl) ?q295 ?y295 (by assumption) ?r295; (case i295 => (simp only [List.getElem?_toArray, List.getElem?_cons_succ, List.getElem?_cons_zero]; rfl)); (case q295 => exact fun _ _ _ h => h); (case y295 => (refine Or.inl ⟨by rfl, ?_⟩; intro w hSw; (try dsimp only at hSw); go_simp; (try (with_reducible rfl))))) | (refine wpAnyH_take (i := 0) (oi := ?o296) (v := undef) ?i296 (by kernel_rfl) (by kernel_rfl) (by kernel_rfl) ?q296 ?y296 (by assumption) ?r296; (case i296 => (simp only [List.getElem?_toArray, List.getElem?_cons_succ, List.getElem?_cons_zero]; rfl)); (case q296 => exact fun _ _ _ h => h); (case y296 => exact Or.inr ⟨by rfl, rfl⟩))
  try simp only [Act.put, List.setIfInBounds_toArray, List.set_cons_zero, List.set_cons_succ]
  first | (refine wpAnyH_take (i := 1) (oi := ?o297) (v := ?v297) ?i297 (by kernel_rfl) (by kernel_rfl) (by kernel_rfl) ?q297 ?y297 (by assumption) ?r297; (case i297 => (simp only [List.getElem?_toArray, List.getElem?_cons_succ, List.getElem?_cons_zero]; rfl)); (case q297 => exact fun _ _ _ h => h); (case y297 => (refine Or.inl ⟨by rfl, ?_⟩; intro w hSw; (try dsimp only at hSw); go_simp; (try (with_reducible rfl))))) | (refine wpAnyH_take (i := 1) (oi := ?o298) (v := undef) ?i298 (by kernel_rfl) (by kernel_rfl) (by kernel_rfl) ?q298 ?y298 (by assumption) ?r298; (case i298 => (simp only [List.getElem?_toArray, List.getElem?_cons_succ, List.getElem?_cons_zero]; rfl)); (case q298 => exact fun _ _ _ h => h); (case y298 => exact Or.inr ⟨by rfl, rfl⟩))
  try simp only [Act.put, List.setIfInBounds_toArray, List.set_cons_zero, List.set_cons_succ]
  first | (refine wpAnyH_take (i := 2) (oi := ?o299) (v := ?v299) ?i299 (by kernel_rfl) (by kernel_rfl) (by kernel_rfl) ?q299 ?y299 (by assumption) ?r299; (case i299 => (simp only [List.getElem?_toArray, List.getElem?_cons_succ, List.getElem?_cons_zero]; rfl)); (case q299 => exact fun _ _ _ h => h); (case y299 => (refine Or.inl ⟨by rfl, ?_⟩; intro w hSw; (try dsimp only at hSw); go_simp; (try (with_reducible rfl))))) | (refine wpAnyH_take (i := 2) (oi := ?o300) (v := undef) ?i300 (by kernel_rfl) (by kernel_rfl) (by kernel_rfl) ?q300 ?y300 (by assumption) ?r300; (case i300 => (simp only [List.getElem?_toArray, List.getElem?_cons_succ, List.getElem?_cons_zero]; rfl)); (case q300 => exact fun _ _ _ h => h); (case y300 => exact Or.inr ⟨by rfl, rfl⟩))
  try simp only [Act.put, List.setIfInBounds_toArray, List.set_cons_zero, List.set_cons_succ]
  first | (refine wpAnyH_take (i := 3) (oi := ?o301) (v := ?v301) ?i301 (by kernel_rfl) (by kernel_rfl) (by kernel_rfl) ?q301 ?y301 (by assumption) ?r301; (case i301 => (simp only [List.getElem?_toArray, List.getElem?_cons_succ, List.getElem?_cons_zero]; rfl)); (case q301 => exact fun _ _ _ h => h); (case y301 => (refine Or.inl ⟨by rfl, ?_⟩; intro w hSw; (try dsimp only at hSw); go_simp; (try (with_reducible rfl))))) | (refine wpAnyH_take (i := 3) (oi := ?o302) (v := undef) ?i302 (by kernel_rfl) (by kernel_rfl) (by kernel_rfl) ?q302 ?y302 (by assumption) ?r302; (case i302 => (simp only [List.getElem?_toArray, List.getElem?_cons_succ, List.getElem?_cons_zero]; rfl)); (case q302 => exact fun _ _ _ h => h); (case y302 => exact Or.inr ⟨by rfl, rfl⟩))
  try simp only [Act.put, List.setIfInBounds_toArray, List.set_cons_zero, List.set_cons_succ]
  first | (refine wpAnyH_take (i := 4) (oi := ?o303) (v := ?v303) ?i303 (by kernel_rfl) (by kernel_rfl) (by kernel_rfl) ?q303 ?y303 (by assumption) ?r303; (case i303 => (simp only [List.getElem?_toArray, List.getElem?_cons_succ, List.getElem?_cons_zero]; rfl)); (case q303 => exact fun _ _ _ h => h); (case y303 => (refine Or.inl ⟨by rfl, ?_⟩; intro w hSw; (try dsimp only at hSw); go_simp; (try (with_reducible rfl))))) | (refine wpAnyH_take (i := 4) (oi := ?o304) (v := undef) ?i304 (by kernel_rfl) (by kernel_rfl) (by kernel_rfl) ?q304 ?y304 (by assumption) ?r304; (case i304 => (simp only [List.getElem?_toArray, List.getElem?_cons_succ, List.getElem?_cons_zero]; rfl)); (case q304 => exact fun _ _ _ h => h); (case y304 => exact Or.inr ⟨by rfl, rfl⟩))
  try simp only [Act.put, List.setIfInBounds_toArray, List.set_cons_zero, List.set_cons_succ]
  first | (refine wpAnyH_take (i := 5) (oi := ?o305) (v := ?v305) ?i305 (by kernel_rfl) (by kernel_rfl) (by kernel_rfl) ?q305 ?y305 (by assumption) ?r305; (case i305 => (simp only [List.getElem?_toArray, List.getElem?_cons_succ, List.getElem?_cons_zero]; rfl)); (case q305 => exact fun _ _ _ h => h); (case y305 => (refine Or.inl ⟨by rfl, ?_⟩; intro w hSw; (try dsimp only at hSw); go_simp; (try (with_reducible rfl))))) | (refine wpAnyH_take (i := 5) (oi := ?o306) (v := undef) ?i306 (by kernel_rfl) (by kernel_rfl) (by kernel_rfl) ?q306 ?y306 (by assumption) ?r306; (case i306 => (simp only [List.getElem?_toArray, List.getElem?_cons_succ, List.getElem?_cons_zero]; rfl)); (case q306 => exact fun _ _ _ h => h); (case y306 => exact Or.inr ⟨by rfl, rfl⟩))
  try simp only [Act.put, List.setIfInBounds_toArray, List.set_cons_zero, List.set_cons_succ]
  first | (refine wpAnyH_take (i := 6) (oi := ?o307) (v := ?v307) ?i307 (by kernel_rfl) (by kernel_rfl) (by kernel_rfl) ?q307 ?y307 (by assumption) ?r307; (case i307 => (simp only [List.getElem?_toArray, List.getElem?_cons_succ, List.getElem?_cons_zero]; rfl)); (case q307 => exact fun _ _ _ h => h); (case y307 => (refine Or.inl ⟨by rfl, ?_⟩; intro w hSw; (try dsimp only at hSw); go_simp; (try (with_reducible rfl))))) | (refine wpAnyH_take (i := 6) (oi := ?o308) (v := undef) ?i308 (by kernel_rfl) (by kernel_rfl) (by kernel_rfl) ?q308 ?y308 (by assumption) ?r308; (case i308 => (simp only [List.getElem?_toArray, List.getElem?_cons_succ, List.getElem?_cons_zero]; rfl)); (case q308 => exact fun _ _ _ h => h); (case y308 => exact Or.inr ⟨by rfl, rfl⟩))
  try simp only [Act.put, List.setIfInBounds_toArray, List.set_cons_zero, List.set_cons_succ]
  first | (refine wpAnyH_take (i := 7) (oi := ?o309) (v := ?v309) ?i309 (by kernel_rfl) (by kernel_rfl) (by kernel_rfl) ?q309 ?y309 (by assumption) ?r309; (case i309 => (simp only [List.getElem?_toArray, List.getElem?_cons_succ, List.getElem?_cons_zero]; rfl)); (case q309 => exact fun _ _ _ h => h); (case y309 => (refine Or.inl ⟨by rfl, ?_⟩; intro w hSw; (try dsimp only at hSw); go_simp; (try (with_reducible rfl))))) | (refine wpAnyH_take (i := 7) (oi := ?o310) (v := undef) ?i310 (by kernel_rfl) (by kernel_rfl) (by kernel_rfl) ?q310 ?y310 (by assumption) ?r310; (case i310 => (simp only [List.getElem?_toArray, List.getElem?_cons_succ, List.getElem?_cons_zero]; rfl)); (case q310 => exact fun _ _ _ h => h); (case y310 => exact Or.inr ⟨by rfl, rfl⟩))
  try simp only [Act.put, List.setIfInBounds_toArray, List.set_cons_zero, List.set_cons_succ]
  first | (refine wpAnyH_take (i := 8) (oi := ?o311) (v := ?v311) ?i311 (by kernel_rfl) (by kernel_rfl) (by kernel_rfl) ?q311 ?y311 (by assumption) ?r311; (case i311 => (simp only [List.getElem?_toArray, List.getElem?_cons_succ, List.getElem?_cons_zero]; rfl)); (case q311 => exact fun _ _ _ h => h); (case y311 => (refine Or.inl ⟨by rfl, ?_⟩; intro w hSw; (try dsimp only at hSw); go_simp; (try (with_reducible rfl))))) | (refine wpAnyH_take (i := 8) (oi := ?o312) (v := undef) ?i312 (by kernel_rfl) (by kernel_rfl) (by kernel_rfl) ?q312 ?y312 (by assumption) ?r312; (case i312 => (simp only [List.getElem?_toArray, List.getElem?_cons_succ, List.getElem?_cons_zero]; rfl)); (case q312 => exact fun _ _ _ h => h); (case y312 => exact Or.inr ⟨by rfl, rfl⟩))
  try simp only [Act.put, List.setIfInBounds_toArray, List.set_cons_zero, List.set_cons_succ]
  refine wpAnyH_ready (rs := [9]) (by kernel_rfl) (by simp) ?_
  refine AllReadyH.cons (by (simp only [List.getElem?_toArray, List.getElem?_cons_succ, List.getElem?_cons_zero]; rfl)) (fun K hK => ?_) AllReadyH.nil
  go_simp
  (try dsimp only)
  refine hK.out _ _ ?_ (fun hHeld => ?_)
  · first | go_keep | exact ⟨y2_, y3_⟩
  clear hK K
  try simp only [Act.put, List.setIfInBounds_toArray, List.set_cons_zero, List.set_cons_succ]
  refine wpAnyH_ready (rs := [10]) (by kernel_rfl) (by simp) ?_
  refine AllReadyH.cons (by (simp only [List.getElem?_toArray, List.getElem?_cons_succ, List.getElem?_cons_zero]; rfl)) (fun K hK => ?_) AllReadyH.nil
  go_simp
  (try dsimp only)
  refine hK.out _ _ ?_ (fun hHeld => ?_)
  · first | go_keep | exact ⟨y2_, y3_⟩
  clear hK K
  try simp only [Act.put, List.setIfInBounds_toArray, List.set_cons_zero, List.set_cons_succ]
  refine wpAnyH_done (by kernel_rfl) ?_ _
  obtain ⟨Y, hY⟩ : ∃ Y, Y = (w5.alloc (.cells #[.int .i64 g.op, .int .i64 g.pg] TA)).drew := ⟨_, rfl⟩
  rw [← hY]
  have qY : Y.heap[w5.heap.size]? = some (.cells #[.int .i64 g.op, .int .i64 g.pg] TA (0, 0)) := by rw [hY]; exact blk_new _ _
  have bY : Below w5.heap.size w5 Y := by rw [hY]; exact (below_alloc (Below.refl _ _) _).drew
  have bYd : Below w5.heap.size w5 Y.drew := bY.drew
  have sY : Y.heap.size = w5.heap.size + 1 := by rw [hY]; exact size_alloc _ _
  have fY := hG.keep HG5.out bYd
  have lY := HL5.out.below bY
  have zY0 := lY.c0
  have zY2 := lY.c2
  have zY3 := lY.c3
  have zY4 := lY.c4
  have belX : Below N0 w w5 := ((WB.out.trans ((HB5.out).mono (by omega))).mono hsz)
  have kepX : Kept (fun k => K k ∧ k ≠ r ∧ k ≠ t) w w5 := (fun k hk => (((HB5.out).mono (by omega)).block k (HLT.out k hk.1)).trans (WB.out.block k (HLT.out k hk.1)))
  have bNY : Below N0 w Y.drew := belX.trans (bYd.mono (by have := belX.size; omega))
  have happ := RAppend_G (kind := kind) (seq := (g.nx - 1)) (l := l) (c := c) hG fY HSH.out g.op g.pg hkk hsq hBl (HCX.out _ bNY) (by rw [← HN.out]; exact hc) (by rw [← HN.out]; omega) hdd
  rw [← HN.out] at happ
  have HAPP := Lib.hid happ
  have LY := Aside0.mk lY
  have QY := Lib.hid qY
  have BY := Aside0.mk bY
  have HY := Lib.hid hY
  have hwx : IntKind.u64.wrap (g.nx - 1) = g.nx - 1 := IntWalk.u64_in _ (by omega)
  have hwk : IntKind.i64.wrap (g.pg + (kk : Int)) = g.pg + (kk : Int) := IntWalk.i64_in _ (by omega)
  have BX := Aside0.mk belX
  have KX := Lib.hid kepX
  have nq1 : ¬ w5.heap.size = r := by have := blt HL5.out.blk; omega
  have nq2 : ¬ r = w5.heap.size := fun e => nq1 e.symm
  have nq3 : ¬ w.heap.size = r := by have := HLT.out r hr; omega
  have nq4 : ¬ r = w.heap.size := fun e => nq3 e.symm
  have nq5 : ¬ w5.heap.size = w.heap.size := by have := blt X85.out; omega
  have nq6 : ¬ w.heap.size = w5.heap.size := fun e => nq5 e.symm
  clear qY bY bYd fY lY belX kepX bNY happ hY y2_ y3_ hHeld
  go_wp2_with fail
  refine wp_region_held_drew (S := (fun w' => w'.cell? ⟨r, 0, none⟩ = some (.pointer (some ⟨x, 0, none⟩)) ∧ w'.cell? ⟨r, 2, none⟩ = some (.int .i64 g.op) ∧ w'.cell? ⟨r, 3, none⟩ = some (.int .i64 g.pg) ∧ w'.cell? ⟨r, 4, none⟩ = some (.int .u64 g.nx))) (by kernel_rfl) ?_ (fun hHeld => ?_)
  · first | exact ⟨zY0, zY2, zY3, zY4⟩ | exact ⟨s0, s2, s3, s4⟩
  first | (refine wpAnyH_take (i := 0) (oi := ?o313) (v := ?v313) ?i313 (by kernel_rfl) (by kernel_rfl) (by kernel_rfl) ?q313 ?y313 (by assumption) ?r313; (case i313 => (simp only [List.getElem?_toArray, List.getElem?_cons_succ, List.getElem?_cons_zero]; rfl)); (case q313 => exact fun _ _ _ h => h); (case y313 => (refine Or.inl ⟨by rfl, ?_⟩; intro w hSw; (try dsimp only at hSw); go_simp; (try (with_reducible rfl))))) | (refine wpAnyH_take (i := 0) (oi := ?o314) (v := undef) ?i314 (by kernel_rfl) (by kernel_rfl) (by kernel_rfl) ?q314 ?y314 (by assumption) ?r314; (case i314 => (simp only [List.getElem?_toArray, List.getElem?_cons_succ, List.getElem?_cons_zero]; rfl)); (case q314 => exact fun _ _ _ h => h); (case y314 => exact Or.inr ⟨by rfl, rfl⟩))
  try simp only [Act.put, List.setIfInBounds_toArray, List.set_cons_zero, List.set_cons_succ]
  first | (refine wpAnyH_take (i := 1) (oi := ?o315) (v := ?v315) ?i315 (by kernel_rfl) (by kernel_rfl) (by kernel_rfl) ?q315 ?y315 (by assumption) ?r315; (case i315 => (simp only [List.getElem?_toArray, List.getElem?_cons_succ, List.getElem?_cons_zero]; rfl)); (case q315 => exact fun _ _ _ h => h); (case y315 => (refine Or.inl ⟨by rfl, ?_⟩; intro w hSw; (try dsimp only at hSw); go_simp; (try (with_reducible rfl))))) | (refine wpAnyH_take (i := 1) (oi := ?o316) (v := undef) ?i316 (by kernel_rfl) (by kernel_rfl) (by kernel_rfl) ?q316 ?y316 (by assumption) ?r316; (case i316 => (simp only [List.getElem?_toArray, List.getElem?_cons_succ, List.getElem?_cons_zero]; rfl)); (case q316 => exact fun _ _ _ h => h); (case y316 => exact Or.inr ⟨by rfl, rfl⟩))
  try simp only [Act.put, List.setIfInBounds_toArray, List.set_cons_zero, List.set_cons_succ]
  first | (refine wpAnyH_take (i := 2) (oi := ?o317) (v := ?v317) ?i317 (by kernel_rfl) (by kernel_rfl) (by kernel_rfl) ?q317 ?y317 (by assumption) ?r317; (case i317 => (simp only [List.getElem?_toArray, List.getElem?_cons_succ, List.getElem?_cons_zero]; rfl)); (case q317 => exact fun _ _ _ h => h); (case y317 => (refine Or.inl ⟨by rfl, ?_⟩; intro w hSw; (try dsimp only at hSw); go_simp; (try (with_reducible rfl))))) | (refine wpAnyH_take (i := 2) (oi := ?o318) (v := undef) ?i318 (by kernel_rfl) (by kernel_rfl) (by kernel_rfl) ?q318 ?y318 (by assumption) ?r318; (case i318 => (simp only [List.getElem?_toArray, List.getElem?_cons_succ, List.getElem?_cons_zero]; rfl)); (case q318 => exact fun _ _ _ h => h); (case y318 => exact Or.inr ⟨by rfl, rfl⟩))
  try simp only [Act.put, List.setIfInBounds_toArray, List.set_cons_zero, List.set_cons_succ]
  first | (refine wpAnyH_take (i := 3) (oi := ?o319) (v := ?v319) ?i319 (by kernel_rfl) (by kernel_rfl) (by kernel_rfl) ?q319 ?y319 (by assumption) ?r319; (case i319 => (simp only [List.getElem?_toArray, List.getElem?_cons_succ, List.getElem?_cons_zero]; rfl)); (case q319 => exact fun _ _ _ h => h); (case y319 => (refine Or.inl ⟨by rfl, ?_⟩; intro w hSw; (try dsimp only at hSw); go_simp; (try (with_reducible rfl))))) | (refine wpAnyH_take (i := 3) (oi := ?o320) (v := undef) ?i320 (by kernel_rfl) (by kernel_rfl) (by kernel_rfl) ?q320 ?y320 (by assumption) ?r320; (case i320 => (simp only [List.getElem?_toArray, List.getElem?_cons_succ, List.getElem?_cons_zero]; rfl)); (case q320 => exact fun _ _ _ h => h); (case y320 => exact Or.inr ⟨by rfl, rfl⟩))
  try simp only [Act.put, List.setIfInBounds_toArray, List.set_cons_zero, List.set_cons_succ]
  first | (refine wpAnyH_take (i := 4) (oi := ?o321) (v := ?v321) ?i321 (by kernel_rfl) (by kernel_rfl) (by kernel_rfl) ?q321 ?y321 (by assumption) ?r321; (case i321 => (simp only [List.getElem?_toArray, List.getElem?_cons_succ, List.getElem?_cons_zero]; rfl)); (case q321 => exact fun _ _ _ h => h); (case y321 => (refine Or.inl ⟨by rfl, ?_⟩; intro w hSw; (try dsimp only at hSw); go_simp; (try (with_reducible rfl))))) | (refine wpAnyH_take (i := 4) (oi := ?o322) (v := undef) ?i322 (by kernel_rfl) (by kernel_rfl) (by kernel_rfl) ?q322 ?y322 (by assumption) ?r322; (case i322 => (simp only [List.getElem?_toArray, List.getElem?_cons_succ, List.getElem?_cons_zero]; rfl)); (case q322 => exact fun _ _ _ h => h); (case y322 => exact Or.inr ⟨by rfl, rfl⟩))
  try simp only [Act.put, List.setIfInBounds_toArray, List.set_cons_zero, List.set_cons_succ]
  first | (refine wpAnyH_take (i := 5) (oi := ?o323) (v := ?v323) ?i323 (by kernel_rfl) (by kernel_rfl) (by kernel_rfl) ?q323 ?y323 (by assumption) ?r323; (case i323 => (simp only [List.getElem?_toArray, List.getElem?_cons_succ, List.getElem?_cons_zero]; rfl)); (case q323 => exact fun _ _ _ h => h); (case y323 => (refine Or.inl ⟨by rfl, ?_⟩; intro w hSw; (try dsimp only at hSw); go_simp; (try (with_reducible rfl))))) | (refine wpAnyH_take (i := 5) (oi := ?o324) (v := undef) ?i324 (by kernel_rfl) (by kernel_rfl) (by kernel_rfl) ?q324 ?y324 (by assumption) ?r324; (case i324 => (simp only [List.getElem?_toArray, List.getElem?_cons_succ, List.getElem?_cons_zero]; rfl)); (case q324 => exact fun _ _ _ h => h); (case y324 => exact Or.inr ⟨by rfl, rfl⟩))
  try simp only [Act.put, List.setIfInBounds_toArray, List.set_cons_zero, List.set_cons_succ]
  first | (refine wpAnyH_take (i := 6) (oi := ?o325) (v := ?v325) ?i325 (by kernel_rfl) (by kernel_rfl) (by kernel_rfl) ?q325 ?y325 (by assumption) ?r325; (case i325 => (simp only [List.getElem?_toArray, List.getElem?_cons_succ, List.getElem?_cons_zero]; rfl)); (case q325 => exact fun _ _ _ h => h); (case y325 => (refine Or.inl ⟨by rfl, ?_⟩; intro w hSw; (try dsimp only at hSw); go_simp; (try (with_reducible rfl))))) | (refine wpAnyH_take (i := 6) (oi := ?o326) (v := undef) ?i326 (by kernel_rfl) (by kernel_rfl) (by kernel_rfl) ?q326 ?y326 (by assumption) ?r326; (case i326 => (simp only [List.getElem?_toArray, List.getElem?_cons_succ, List.getElem?_cons_zero]; rfl)); (case q326 => exact fun _ _ _ h => h); (case y326 => exact Or.inr ⟨by rfl, rfl⟩))
  try simp only [Act.put, List.setIfInBounds_toArray, List.set_cons_zero, List.set_cons_succ]
  first | (refine wpAnyH_take (i := 7) (oi := ?o327) (v := ?v327) ?i327 (by kernel_rfl) (by kernel_rfl) (by kernel_rfl) ?q327 ?y327 (by assumption) ?r327; (case i327 => (simp only [List.getElem?_toArray, List.getElem?_cons_succ, List.getElem?_cons_zero]; rfl)); (case q327 => exact fun _ _ _ h => h); (case y327 => (refine Or.inl ⟨by rfl, ?_⟩; intro w hSw; (try dsimp only at hSw); go_simp; (try (with_reducible rfl))))) | (refine wpAnyH_take (i := 7) (oi := ?o328) (v := undef) ?i328 (by kernel_rfl) (by kernel_rfl) (by kernel_rfl) ?q328 ?y328 (by assumption) ?r328; (case i328 => (simp only [List.getElem?_toArray, List.getElem?_cons_succ, List.getElem?_cons_zero]; rfl)); (case q328 => exact fun _ _ _ h => h); (case y328 => exact Or.inr ⟨by rfl, rfl⟩))
  try simp only [Act.put, List.setIfInBounds_toArray, List.set_cons_zero, List.set_cons_succ]
  first | (refine wpAnyH_take (i := 8) (oi := ?o329) (v := ?v329) ?i329 (by kernel_rfl) (by kernel_rfl) (by kernel_rfl) ?q329 ?y329 (by assumption) ?r329; (case i329 => (simp only [List.getElem?_toArray, List.getElem?_cons_succ, List.getElem?_cons_zero]; rfl)); (case q329 => exact fun _ _ _ h => h); (case y329 => (refine Or.inl ⟨by rfl, ?_⟩; intro w hSw; (try dsimp only at hSw); go_simp; (try (with_reducible rfl))))) | (refine wpAnyH_take (i := 8) (oi := ?o330) (v := undef) ?i330 (by kernel_rfl) (by kernel_rfl) (by kernel_rfl) ?q330 ?y330 (by assumption) ?r330; (case i330 => (simp only [List.getElem?_toArray, List.getElem?_cons_succ, List.getElem?_cons_zero]; rfl)); (case q330 => exact fun _ _ _ h => h); (case y330 => exact Or.inr ⟨by rfl, rfl⟩))
  try simp only [Act.put, List.setIfInBounds_toArray, List.set_cons_zero, List.set_cons_succ]
  first | (refine wpAnyH_take (i := 9) (oi := ?o331) (v := ?v331) ?i331 (by kernel_rfl) (by kernel_rfl) (by kernel_rfl) ?q331 ?y331 (by assumption) ?r331; (case i331 => (simp only [List.getElem?_toArray, List.getElem?_cons_succ, List.getElem?_cons_zero]; rfl)); (case q331 => exact fun _ _ _ h => h); (case y331 => (refine Or.inl ⟨by rfl, ?_⟩; intro w hSw; (try dsimp only at hSw); go_simp; (try (with_reducible rfl))))) | (refine wpAnyH_take (i := 9) (oi := ?o332) (v := undef) ?i332 (by kernel_rfl) (by kernel_rfl) (by kernel_rfl) ?q332 ?y332 (by assumption) ?r332; (case i332 => (simp only [List.getElem?_toArray, List.getElem?_cons_succ, List.getElem?_cons_zero]; rfl)); (case q332 => exact fun _ _ _ h => h); (case y332 => exact Or.inr ⟨by rfl, rfl⟩))
  try simp only [Act.put, List.setIfInBounds_toArray, List.set_cons_zero, List.set_cons_succ]
  first | (refine wpAnyH_take (i := 10) (oi := ?o333) (v := ?v333) ?i333 (by kernel_rfl) (by kernel_rfl) (by kernel_rfl) ?q333 ?y333 (by assumption) ?r333; (case i333 => (simp only [List.getElem?_toArray, List.getElem?_cons_succ, List.getElem?_cons_zero]; rfl)); (case q333 => exact fun _ _ _ h => h); (case y333 => (refine Or.inl ⟨by rfl, ?_⟩; intro w hSw; (try dsimp only at hSw); go_simp; (try (with_reducible rfl))))) | (refine wpAnyH_take (i := 10) (oi := ?o334) (v := undef) ?i334 (by kernel_rfl) (by kernel_rfl) (by kernel_rfl) ?q334 ?y334 (by assumption) ?r334; (case i334 => (simp only [List.getElem?_toArray, List.getElem?_cons_succ, List.getElem?_cons_zero]; rfl)); (case q334 => exact fun _ _ _ h => h); (case y334 => exact Or.inr ⟨by rfl, rfl⟩))
  try simp only [Act.put, List.setIfInBounds_toArray, List.set_cons_zero, List.set_cons_succ]
  first | (refine wpAnyH_take (i := 11) (oi := ?o335) (v := ?v335) ?i335 (by kernel_rfl) (by kernel_rfl) (by kernel_rfl) ?q335 ?y335 (by assumption) ?r335; (case i335 => (simp only [List.getElem?_toArray, List.getElem?_cons_succ, List.getElem?_cons_zero]; rfl)); (case q335 => exact fun _ _ _ h => h); (case y335 => (refine Or.inl ⟨by rfl, ?_⟩; intro w hSw; (try dsimp only at hSw); go_simp; (try (with_reducible rfl))))) | (refine wpAnyH_take (i := 11) (oi := ?o336) (v := undef) ?i336 (by kernel_rfl) (by kernel_rfl) (by kernel_rfl) ?q336 ?y336 (by assumption) ?r336; (case i336 => (simp only [List.getElem?_toArray, List.getElem?_cons_succ, List.getElem?_cons_zero]; rfl)); (case q336 => exact fun _ _ _ h => h); (case y336 => exact Or.inr ⟨by rfl, rfl⟩))
  try simp only [Act.put, List.setIfInBounds_toArray, List.set_cons_zero, List.set_cons_succ]
  first | (refine wpAnyH_take (i := 12) (oi := ?o337) (v := ?v337) ?i337 (by kernel_rfl) (by kernel_rfl) (by kernel_rfl) ?q337 ?y337 (by assumption) ?r337; (case i337 => (simp only [List.getElem?_toArray, List.getElem?_cons_succ, List.getElem?_cons_zero]; rfl)); (case q337 => exact fun _ _ _ h => h); (case y337 => (refine Or.inl ⟨by rfl, ?_⟩; intro w hSw; (try dsimp only at hSw); go_simp; (try (with_reducible rfl))))) | (refine wpAnyH_take (i := 12) (oi := ?o338) (v := undef) ?i338 (by kernel_rfl) (by kernel_rfl) (by kernel_rfl) ?q338 ?y338 (by assumption) ?r338; (case i338 => (simp only [List.getElem?_toArray, List.getElem?_cons_succ, List.getElem?_cons_zero]; rfl)); (case q338 => exact fun _ _ _ h => h); (case y338 => exact Or.inr ⟨by rfl, rfl⟩))
  try simp only [Act.put, List.setIfInBounds_toArray, List.set_cons_zero, List.set_cons_succ]
  first | (refine wpAnyH_take (i := 13) (oi := ?o339) (v := ?v339) ?i339 (by kernel_rfl) (by kernel_rfl) (by kernel_rfl) ?q339 ?y339 (by assumption) ?r339; (case i339 => (simp only [List.getElem?_toArray, List.getElem?_cons_succ, List.getElem?_cons_zero]; rfl)); (case q339 => exact fun _ _ _ h => h); (case y339 => (refine Or.inl ⟨by rfl, ?_⟩; intro w hSw; (try dsimp only at hSw); go_simp; (try (with_reducible rfl))))) | (refine wpAnyH_take (i := 13) (oi := ?o340) (v := undef) ?i340 (by kernel_rfl) (by kernel_rfl) (by kernel_rfl) ?q340 ?y340 (by assumption) ?r340; (case i340 => (simp only [List.getElem?_toArray, List.getElem?_cons_succ, List.getElem?_cons_zero]; rfl)); (case q340 => exact fun _ _ _ h => h); (case y340 => exact Or.inr ⟨by rfl, rfl⟩))
  try simp only [Act.put, List.setIfInBounds_toArray, List.set_cons_zero, List.set_cons_succ]
  first | (refine wpAnyH_take (i := 14) (oi := ?o341) (v := ?v341) ?i341 (by kernel_rfl) (by kernel_rfl) (by kernel_rfl) ?q341 ?y341 (by assumption) ?r341; (case i341 => (simp only [List.getElem?_toArray, List.getElem?_cons_succ, List.getElem?_cons_zero]; rfl)); (case q341 => exact fun _ _ _ h => h); (case y341 => (refine Or.inl ⟨by rfl, ?_⟩; intro w hSw; (try dsimp only at hSw); go_simp; (try (with_reducible rfl))))) | (refine wpAnyH_take (i := 14) (oi := ?o342) (v := undef) ?i342 (by kernel_rfl) (by kernel_rfl) (by kernel_rfl) ?q342 ?y342 (by assumption) ?r342; (case i342 => (simp only [List.getElem?_toArray, List.getElem?_cons_succ, List.getElem?_cons_zero]; rfl)); (case q342 => exact fun _ _ _ h => h); (case y342 => exact Or.inr ⟨by rfl, rfl⟩))
  try simp only [Act.put, List.setIfInBounds_toArray, List.set_cons_zero, List.set_cons_succ]
  first | (refine wpAnyH_take (i := 15) (oi := ?o343) (v := ?v343) ?i343 (by kernel_rfl) (by kernel_rfl) (by kernel_rfl) ?q343 ?y343 (by assumption) ?r343; (case i343 => (simp only [List.getElem?_toArray, List.getElem?_cons_succ, List.getElem?_cons_zero]; rfl)); (case q343 => exact fun _ _ _ h => h); (case y343 => (refine Or.inl ⟨by rfl, ?_⟩; intro w hSw; (try dsimp only at hSw); go_simp; (try (with_reducible rfl))))) | (refine wpAnyH_take (i := 15) (oi := ?o344) (v := undef) ?i344 (by kernel_rfl) (by kernel_rfl) (by kernel_rfl) ?q344 ?y344 (by assumption) ?r344; (case i344 => (simp only [List.getElem?_toArray, List.getElem?_cons_succ, List.getElem?_cons_zero]; rfl)); (case q344 => exact fun _ _ _ h => h); (case y344 => exact Or.inr ⟨by rfl, rfl⟩))
  try simp only [Act.put, List.setIfInBounds_toArray, List.set_cons_zero, List.set_cons_succ]
  first | (refine wpAnyH_take (i := 16) (oi := ?o345) (v := ?v345) ?i345 (by kernel_rfl) (by kernel_rfl) (by kernel_rfl) ?q345 ?y345 (by assumption) ?r345; (case i345 => (simp only [List.getElem?_toArray, List.getElem?_cons_succ, List.getElem?_cons_zero]; rfl)); (case q345 => exact fun _ _ _ h => h); (case y345 => (refine Or.inl ⟨by rfl, ?_⟩; intro w hSw; (try dsimp only at hSw); go_simp; (try (with_reducible rfl))))) | (refine wpAnyH_take (i := 16) (oi := ?o346) (v := undef) ?i346 (by kernel_rfl) (by kernel_rfl) (by kernel_rfl) ?q346 ?y346 (by assumption) ?r346; (case i346 => (simp only [List.getElem?_toArray, List.getElem?_cons_succ, List.getElem?_cons_zero]; rfl)); (case q346 => exact fun _ _ _ h => h); (case y346 => exact Or.inr ⟨by rfl, rfl⟩))
  try simp only [Act.put, List.setIfInBounds_toArray, List.set_cons_zero, List.set_cons_succ]
  first | (refine wpAnyH_take (i := 17) (oi := ?o347) (v := ?v347) ?i347 (by kernel_rfl) (by kernel_rfl) (by kernel_rfl) ?q347 ?y347 (by assumption) ?r347; (case i347 => (simp only [List.getElem?_toArray, List.getElem?_cons_succ, List.getElem?_cons_zero]; rfl)); (case q347 => exact fun _ _ _ h => h); (case y347 => (refine Or.inl ⟨by rfl, ?_⟩; intro w hSw; (try dsimp only at hSw); go_simp; (try (with_reducible rfl))))) | (refine wpAnyH_take (i := 17) (oi := ?o348) (v := undef) ?i348 (by kernel_rfl) (by kernel_rfl) (by kernel_rfl) ?q348 ?y348 (by assumption) ?r348; (case i348 => (simp only [List.getElem?_toArray, List.getElem?_cons_succ, List.getElem?_cons_zero]; rfl)); (case q348 => exact fun _ _ _ h => h); (case y348 => exact Or.inr ⟨by rfl, rfl⟩))
  try simp only [Act.put, List.setIfInBounds_toArray, List.set_cons_zero, List.set_cons_succ]
  first | (refine wpAnyH_take (i := 18) (oi := ?o349) (v := ?v349) ?i349 (by kernel_rfl) (by kernel_rfl) (by kernel_rfl) ?q349 ?y349 (by assumption) ?r349; (case i349 => (simp only [List.getElem?_toArray, List.getElem?_cons_succ, List.getElem?_cons_zero]; rfl)); (case q349 => exact fun _ _ _ h => h); (case y349 => (refine Or.inl ⟨by rfl, ?_⟩; intro w hSw; (try dsimp only at hSw); go_simp; (try (with_reducible rfl))))) | (refine wpAnyH_take (i := 18) (oi := ?o350) (v := undef) ?i350 (by kernel_rfl) (by kernel_rfl) (by kernel_rfl) ?q350 ?y350 (by assumption) ?r350; (case i350 => (simp only [List.getElem?_toArray, List.getElem?_cons_succ, List.getElem?_cons_zero]; rfl)); (case q350 => exact fun _ _ _ h => h); (case y350 => exact Or.inr ⟨by rfl, rfl⟩))
  try simp only [Act.put, List.setIfInBounds_toArray, List.set_cons_zero, List.set_cons_succ]
  refine wpAnyH_ready (rs := [19]) (by kernel_rfl) (by simp) ?_
  refine AllReadyH.cons (by (simp only [List.getElem?_toArray, List.getElem?_cons_succ, List.getElem?_cons_zero]; rfl)) (fun K hK => ?_) AllReadyH.nil
  go_simp
  (go_at_call 36; (with_reducible refine HAPP.out.mono ?_); rintro e w10 ⟨rfl, hf10, hb10, hk10⟩; have hl10 : RLog r t x cap rest g w10 := LY.out.step (hk10 r (.inl (.inl hr))) (hk10 t (.inl (.inl ht))); have s0 := hl10.c0; have s2 := hl10.c2; have s3 := hl10.c3; have s4 := hl10.c4; have fr3 := hl10.fr 3; have x8 := (hk10 w.heap.size (.inl (.inr ⟨Nat.le_refl _, by omega⟩))).trans ((BY.out.block _ (blt X85.out)).trans X85.out); have x12 := (hk10 w5.heap.size (.inr ⟨Nat.le_refl _, by show _ < Y.heap.size; omega⟩)).trans QY.out; have m0 : w10.cell? ⟨w.heap.size, 0, none⟩ = some (.int .i64 0) := bcell x8 0; have m1 : w10.cell? ⟨w.heap.size, 1, none⟩ = some (.int .i64 0) := bcell x8 1; have mf : ∀ j, w10.frozen? ⟨w.heap.size, j, none⟩ = false := (fun j => bfrozen x8 j); have t0 : w10.cell? ⟨w5.heap.size, 0, none⟩ = some (.int .i64 g.op) := bcell x12 0; have t1 : w10.cell? ⟨w5.heap.size, 1, none⟩ = some (.int .i64 g.pg) := bcell x12 1; have HL10 := Aside0.mk hl10; have X810 := Lib.hid x8; have HG10 := Aside0.mk hf10; have HB10 := Aside0.mk (BX.out.trans ((show Below N0 w5 Y.drew from (BY.out.drew).mono (by have := BX.out.size; omega)).trans hb10)); have HKR := Lib.hid hk10; clear hl10 hf10 hb10 hk10 x8 x12)
  (try dsimp only)
  refine hK.out _ _ ?_ (fun hHeld => ?_)
  · first | exact ⟨zY0, zY2, zY3, zY4⟩ | exact ⟨s0, s2, s3, s4⟩
  clear hK K
  try simp only [Act.put, List.setIfInBounds_toArray, List.set_cons_zero, List.set_cons_succ]
  refine wpAnyH_done (by kernel_rfl) ?_ _
  go_wp2_with fail
  have HK10 := Lib.hid (show Kept (fun k => K k ∧ k ≠ r ∧ k ≠ t) w w10 from fun k hk => (HKR.out k (.inl (.inl hk.1))).trans ((BY.out.block k (by have := HLT.out k hk.1; have := BX.out.size; omega)).trans (KX.out k hk)))
  have hl11 := HL10.out.setPg (g.pg + (kk : Int))
  have hu11 := Upd.setCell w10 (p := ⟨r, 3, none⟩) (S := fun k => k = r) rfl (.int .i64 (g.pg + (kk : Int)))
  have hf11 := hSt _ _ w10 _ r _ _ _ HG10.out (.inl (.inl hr)) HL10.out.blk hl11.blk (by decide) hu11
  have s10' := hG.size HG10.out
  have hb11 := HB10.out.trans (hu11.below s10' (fun k hk => by rw [hk]; exact hNr))
  have x811 := (hu11.block w.heap.size (blt X810.out) (fun e => nq3 e)).trans X810.out
  have hk11 : Kept (fun k => K k ∧ k ≠ r ∧ k ≠ t) w (w10.setCell ⟨r, 3, none⟩ (.int .i64 (g.pg + (kk : Int)))) := fun k hk => (hu11.block k (hG.lt HG10.out k (.inl (.inl hk.1))) hk.2.1).trans (HK10.out k hk)
  obtain ⟨w9, hw9⟩ : ∃ w9, w9 = ((w10.setCell ⟨r, 3, none⟩ (.int .i64 (g.pg + (kk : Int)))).setCell ⟨w.heap.size, 0, none⟩ (.int .i64 g.op)).setCell ⟨w.heap.size, 1, none⟩ (.int .i64 g.pg) := ⟨_, rfl⟩
  rw [← hw9]
  obtain ⟨r8, hf9, hl9, hb9, hk9⟩ := rput_end hG hSt hf11 hl11 hr ht HLT.out hsz (Nat.le_refl _) x811 (.inl (.inr ⟨Nat.le_refl _, by omega⟩)) (fun k hk => .inl (.inl hk)) hb11 hk11 hw9
  have r0 := bcell r8 0
  have r1 := bcell r8 1
  exact bodyPost_ret (v := .tuple #[.agg #[.int .i64 g.op, .int .i64 g.pg], .int .i64 0]) (by simp [results, Try.results69, go_sem, r0, r1]) rfl ⟨rfl, hf9, by rw [← HKP.out]; exact hl9, hb9, hk9⟩
end
end Go.Proofs.Ytmbiebdcnadhkaa.Fl

/- The document's log: Put with a turn: walked. -/
namespace Go.Proofs.Ytmbiebdcnadhkaa.Fl
open Go.RowKit Go.Proofs.YtmbiebdcnadhkaaW.PrintWords Go.Proofs.YtmbiebdcnadhkaaW.PrintMore Go.Maps
set_option linter.unusedSimpArgs false
set_option linter.unusedVariables false
section
variable {N0 x r t cap : Nat} {rest : List Value} {s : Int × Int × Int} {G : (Nat → Prop) → List Pg → World → Prop} {K : Nat → Prop} {ps : List Pg} {g : LG} {w : World} {A : Option Addr} {c : Nat} {l : List Int} {kind need : Int}
theorem RSeal_G (hG : RefFrame N0 x s G) (hSt : ∀ ps, Stays (fun K w => G K ps w)) (h : G K ps w) (hl : RLog r t x cap rest g w) (hr : K r) (ht : K t) (hNr : N0 ≤ r) (hNt : N0 ≤ t) (ho : g.op < g.st.length) : Calls Try.prog 73 #[.pointer (some ⟨r, 0, none⟩)] w fun e w' => e = .returned (.tuple #[]) ∧ G K ps w' ∧ RLog r t x cap rest (rsealG g) w' ∧ Below N0 w w' ∧ Kept (fun k => K k ∧ k ≠ r ∧ k ≠ t) w w' :=
  (RSeal_any hl ho).mono fun e w' ⟨h1, h2, w1, g1, h3, h4, h5⟩ => by
    have f1 := hSt ps K w w1 t _ _ _ h ht hl.row h3.row (by decide) h4
    have f2 := hSt ps K w1 w' r _ _ _ f1 hr h3.blk h2.blk (by decide) h5
    exact ⟨h1, f2, h2, (h4.below (hG.size h) (fun k hk => by rw [hk]; exact hNt)).trans (h5.below (hG.size f1) (fun k hk => by rw [hk]; exact hNr)), fun k hk => (h5.block k (hG.lt f1 k hk.1) hk.2.1).trans (h4.block k (hG.lt h k hk.1) hk.2.2)⟩
theorem rseal_len (g : LG) : (rsealG g).st.length = g.st.length := by
  unfold rsealG
  split <;> simp
set_option maxHeartbeats 4000000 in
set_option maxRecDepth 100000 in
theorem RPut_turn0 (hG : RefFrame N0 x s G) (hSt : ∀ ps, Stays (fun K w => G K ps w)) (h : G K ps w) (hl : RLog r t x cap rest g w) (hr : K r) (ht : K t) (hNr : N0 ≤ r) (hNt : N0 ≤ t) (hsh : ShapeOk s) (hc : l.length ≤ c) (hm : l.length ≤ 4096) (hk : kind ≠ 1) (hb1 : (kpg s l.length : Int) + 1 ≤ s.2.1) (ho : g.op < 0) (hsl : g.st.length < 1000) (hol : g.op < (g.st.length : Int)) (hcn : ¬ (cnt 0 g.st : Int) < need) (hkk : KindOk kind) (hBl : Byt l) (hCx : ∀ X, Below N0 w X → kB.C X A l.length l) (hd0 : ps.length < 900000) {m : Nat} (hdd : (appP s ps (m : Int) 0 0 (rec 1 g.nx [])).length < 900000) (hm0 : (rsealG g).st[m]? = some 0) (hmf : ∀ i, i < m → (rsealG g).st[i]? ≠ some 0) (hsq : SeqOk g.nx) (hn1 : 0 ≤ g.nx) (hn2 : g.nx < 1000000) : Calls Try.prog 69 #[.pointer (some ⟨r, 0, none⟩), .int .u8 kind, .slice A l.length c, .int .i64 need] w (RPutPost N0 r t x cap rest G K w ((m : Int), 1) 0 (appP s (appP s ps (m : Int) 0 0 (rec 1 g.nx [])) (m : Int) 1 l.length (rec kind g.nx l)) { st := (rsealG g).st.set m 1, op := (m : Int), pg := 1 + (kpg s l.length : Int), nx := g.nx + 1 }) := by
  obtain ⟨n, hn⟩ : ∃ n, n = l.length := ⟨_, rfl⟩
  have hsz := hG.size h
  have hlt := fun k hk => hG.lt h k hk
  obtain ⟨okx, hX⟩ := hG.ref h
  obtain ⟨vx, hxb, _⟩ := hX.blk
  obtain ⟨W0, hW0⟩ : ∃ W0, W0 = w.alloc (.cells #[.int .i64 0, .int .i64 0] TA) := ⟨_, rfl⟩
  have wb0 : Below w.heap.size w W0 := by rw [hW0]; exact below_alloc (Below.refl _ _) _
  have wz0 : W0.heap.size = w.heap.size + 1 := by rw [hW0]; exact size_alloc _ _
  have hxb0 := (wb0.block _ (blt hxb)).trans hxb
  have u0 : W0.cell? ⟨x, 0, none⟩ = some (.int .i64 s.1) := bcell hxb0 0
  have u1 : W0.cell? ⟨x, 1, none⟩ = some (.int .i64 s.2.1) := bcell hxb0 1
  have u2 : W0.cell? ⟨x, 2, none⟩ = some (.int .i64 s.2.2) := bcell hxb0 2
  have k0 := (hl.below wb0).c0
  obtain ⟨W, hW⟩ : ∃ W, W = W0.alloc (.cells #[.int .i64 s.1, .int .i64 s.2.1, .int .i64 s.2.2] TSh) := ⟨_, rfl⟩
  obtain ⟨q8, q10⟩ := pair_blk w (.cells #[.int .i64 0, .int .i64 0] TA) (.cells #[.int .i64 s.1, .int .i64 s.2.1, .int .i64 s.2.2] TSh)
  rw [← hW0, ← hW] at q8 q10
  have y2 : W.cell? ⟨w.heap.size + 1, 2, none⟩ = some (.int .i64 s.2.2) := bcell q10 2
  have wb : Below w.heap.size w W := by rw [hW]; exact below_alloc wb0 _
  have wsz : W.heap.size = w.heap.size + 2 := by rw [hW, size_alloc, wz0]
  have hf1 := hG.keep h wb
  have hl1 := hl.below wb
  rw [← hn] at hc hm
  obtain ⟨kk, hkp⟩ : ∃ kk, kk = kpg s n := ⟨_, rfl⟩
  have hkb : kk ≤ 257 := by rw [hkp]; exact (kpg_bd hsh hm).2
  have hpg : ∀ X : World, Calls Try.prog 42 #[.int .i64 (n : Int), .int .i64 s.2.2] X fun e w' => e = .returned (.int .i64 (kk : Int)) ∧ Below X.heap.size X w' := fun X => by
    rw [hkp]
    exact RPages_ok n s hsh hm X
  have s10 := hsh.b0
  have s11 := hsh.b1
  have HPG := Lib.hid hpg
  have HG1 := Aside0.mk hf1
  have HL1 := Aside0.mk hl1
  have HW := Lib.hid hW
  have HW0 := Lib.hid hW0
  have Q8 := Lib.hid q8
  have Q10 := Lib.hid q10
  have WB := Aside0.mk wb
  have HN := Lib.hid hn
  have HKP := Lib.hid hkp
  have HLT := Lib.hid hlt
  have e_n : decide ((n : Int) > 4096) = false := decide_eq_false (by omega)
  have kw1 : IntKind.i64.wrap ((kk : Int) + 1) = (kk : Int) + 1 := IntWalk.i64_in _ (by omega)
  rw [← hn]
  clear h hl hn hlt hf1 hl1 hX hxb hxb0 wb0 hW hW0 q8 q10 wb hkp hpg
  rw [← HN.out, ← HKP.out] at hb1
  have e_b : decide ((kk : Int) + 1 > s.2.1) = false := decide_eq_false (by omega)
  have e_k : (kind == 1) = false := by simpa using hk
  clear hk
  have e_o : decide (g.op < 0) = true := decide_eq_true ho
  have HOL := Lib.hid hol
  have HM0 := Lib.hid hm0
  have HMF := Lib.hid hmf
  obtain ⟨nl, hnl⟩ : ∃ nl, nl = g.st.length := ⟨_, rfl⟩
  have hnl2 : nl < 1000 := by omega
  have HNL := Lib.hid hnl
  have BBW := Aside0.mk WB.out
  clear hol hm0 hmf hnl
  obtain ⟨c0, hc0⟩ : ∃ c0, c0 = cnt 0 g.st := ⟨_, rfl⟩
  rw [← hc0] at hcn
  have HC0 := Lib.hid hc0
  have HSL := Lib.hid hsl
  clear hc0 hsl
  have e_c : decide ((c0 : Int) < need) = false := decide_eq_false hcn
  have HCX := Lib.hid hCx
  have HSH := Lib.hid hsh
  clear hCx
  go_enter Try.func69, Try.ntmps69
  go_wp2_with (first
    | (rw [← HW0.out])
    | (rw [← HW.out])
    | (go_at_call 42; (with_reducible refine (HPG.out _).mono ?_); rintro e w4 ⟨rfl, hb4⟩; have HB4 := Aside0.mk hb4; have x8 := (hb4.block _ (blt Q8.out)).trans Q8.out; have x10 := (hb4.block _ (blt Q10.out)).trans Q10.out; have hl4 := HL1.out.below hb4; have k04 := hl4.c0; have k14 := hl4.c1; have k24 := hl4.c2; have k34 := hl4.c3; have m0 : w4.cell? ⟨w.heap.size, 0, none⟩ = some (.int .i64 0) := bcell x8 0; have m1 : w4.cell? ⟨w.heap.size, 1, none⟩ = some (.int .i64 0) := bcell x8 1; have mf : ∀ j, w4.frozen? ⟨w.heap.size, j, none⟩ = false := (fun j => bfrozen x8 j); have y1 : w4.cell? ⟨w.heap.size + 1, 1, none⟩ = some (.int .i64 s.2.1) := bcell x10 1; have X84 := Lib.hid x8; have X104 := Lib.hid x10; have HL4 := Aside0.mk hl4; have HG4 := Aside0.mk (hG.below HG1.out hb4); clear hb4 x8 x10 hl4)
    | fail)
  have e_u : decide ((n : Int) > 4096) = false := e_n
  refine wp_region_held_drew (S := (fun w' => w'.cell? ⟨r, 2, none⟩ = some (.int .i64 g.op) ∧ w'.cell? ⟨r, 3, none⟩ = some (.int .i64 g.pg) ∧ w'.cell? ⟨w.heap.size + 1, 1, none⟩ = some (.int .i64 s.2.1))) (by kernel_rfl) ?_ (fun hHeld => ?_)
  · first | go_keep | exact ⟨k24, k34, y1⟩
  first | (refine wpAnyH_take (i := 0) (oi := ?o351) (v := ?v351) ?i351 (by kernel_rfl) (by kernel_rfl) (by kernel_rfl) ?q351 ?y351 (by assumption) ?r351; (case i351 => (simp only [List.getElem?_toArray, List.getElem?_cons_succ, List.getElem?_cons_zero]; rfl)); (case q351 => exact fun _ _ _ h => h); (case y351 => (refine Or.inl ⟨by rfl, ?_⟩; intro w hSw; (try dsimp only at hSw); go_simp; (try (with_reducible rfl))))) | (refine wpAnyH_take (i := 0) (oi := ?o352) (v := undef) ?i352 (by kernel_rfl) (by kernel_rfl) (by kernel_rfl) ?q352 ?y352 (by assumption) ?r352; (case i352 => (simp only [List.getElem?_toArray, List.getElem?_cons_succ, List.getElem?_cons_zero]; rfl)); (case q352 => exact fun _ _ _ h => h); (case y352 => exact Or.inr ⟨by rfl, rfl⟩))
  try simp only [Act.put, List.setIfInBounds_toArray, List.set_cons_zero, List.set_cons_succ]
  first | (refine wpAnyH_take (i := 1) (oi := ?o353) (v := ?v353) ?i353 (by kernel_rfl) (by kernel_rfl) (by kernel_rfl) ?q353 ?y353 (by assumption) ?r353; (case i353 => (simp only [List.getElem?_toArray, List.getElem?_cons_succ, List.getElem?_cons_zero]; rfl)); (case q353 => exact fun _ _ _ h => h); (case y353 => (refine Or.inl ⟨by rfl, ?_⟩; intro w hSw; (try dsimp only at hSw); go_simp; (try (with_reducible rfl))))) | (refine wpAnyH_take (i := 1) (oi := ?o354) (v := undef) ?i354 (by kernel_rfl) (by kernel_rfl) (by kernel_rfl) ?q354 ?y354 (by assumption) ?r354; (case i354 => (simp only [List.getElem?_toArray, List.getElem?_cons_succ, List.getElem?_cons_zero]; rfl)); (case q354 => exact fun _ _ _ h => h); (case y354 => exact Or.inr ⟨by rfl, rfl⟩))
  try simp only [Act.put, List.setIfInBounds_toArray, List.set_cons_zero, List.set_cons_succ]
  first | (refine wpAnyH_take (i := 2) (oi := ?o355) (v := ?v355) ?i355 (by kernel_rfl) (by kernel_rfl) (by kernel_rfl) ?q355 ?y355 (by assumption) ?r355; (case i355 => (simp only [List.getElem?_toArray, List.getElem?_cons_succ, List.getElem?_cons_zero]; rfl)); (case q355 => exact fun _ _ _ h => h); (case y355 => (refine Or.inl ⟨by rfl, ?_⟩; intro w hSw; (try dsimp only at hSw); go_simp; (try (with_reducible rfl))))) | (refine wpAnyH_take (i := 2) (oi := ?o356) (v := undef) ?i356 (by kernel_rfl) (by kernel_rfl) (by kernel_rfl) ?q356 ?y356 (by assumption) ?r356; (case i356 => (simp only [List.getElem?_toArray, List.getElem?_cons_succ, List.getElem?_cons_zero]; rfl)); (case q356 => exact fun _ _ _ h => h); (case y356 => exact Or.inr ⟨by rfl, rfl⟩))
  try simp only [Act.put, List.setIfInBounds_toArray, List.set_cons_zero, List.set_cons_succ]
  first | (refine wpAnyH_take (i := 3) (oi := ?o357) (v := ?v357) ?i357 (by kernel_rfl) (by kernel_rfl) (by kernel_rfl) ?q357 ?y357 (by assumption) ?r357; (case i357 => (simp only [List.getElem?_toArray, List.getElem?_cons_succ, List.getElem?_cons_zero]; rfl)); (case q357 => exact fun _ _ _ h => h); (case y357 => (refine Or.inl ⟨by rfl, ?_⟩; intro w hSw; (try dsimp only at hSw); go_simp; (try (with_reducible rfl))))) | (refine wpAnyH_take (i := 3) (oi := ?o358) (v := undef) ?i358 (by kernel_rfl) (by kernel_rfl) (by kernel_rfl) ?q358 ?y358 (by assumption) ?r358; (case i358 => (simp only [List.getElem?_toArray, List.getElem?_cons_succ, List.getElem?_cons_zero]; rfl)); (case q358 => exact fun _ _ _ h => h); (case y358 => exact Or.inr ⟨by rfl, rfl⟩))
  try simp only [Act.put, List.setIfInBounds_toArray, List.set_cons_zero, List.set_cons_succ]
  first | (refine wpAnyH_take (i := 4) (oi := ?o359) (v := ?v359) ?i359 (by kernel_rfl) (by kernel_rfl) (by kernel_rfl) ?q359 ?y359 (by assumption) ?r359; (case i359 => (simp only [List.getElem?_toArray, List.getElem?_cons_succ, List.getElem?_cons_zero]; rfl)); (case q359 => exact fun _ _ _ h => h); (case y359 => (refine Or.inl ⟨by rfl, ?_⟩; intro w hSw; (try dsimp only at hSw); go_simp; (try (with_reducible rfl))))) | (refine wpAnyH_take (i := 4) (oi := ?o360) (v := undef) ?i360 (by kernel_rfl) (by kernel_rfl) (by kernel_rfl) ?q360 ?y360 (by assumption) ?r360; (case i360 => (simp only [List.getElem?_toArray, List.getElem?_cons_succ, List.getElem?_cons_zero]; rfl)); (case q360 => exact fun _ _ _ h => h); (case y360 => exact Or.inr ⟨by rfl, rfl⟩))
  try simp only [Act.put, List.setIfInBounds_toArray, List.set_cons_zero, List.set_cons_succ]
  first | (refine wpAnyH_take (i := 5) (oi := ?o361) (v := ?v361) ?i361 (by kernel_rfl) (by kernel_rfl) (by kernel_rfl) ?q361 ?y361 (by assumption) ?r361; (case i361 => (simp only [List.getElem?_toArray, List.getElem?_cons_succ, List.getElem?_cons_zero]; rfl)); (case q361 => exact fun _ _ _ h => h); (case y361 => (refine Or.inl ⟨by rfl, ?_⟩; intro w hSw; (try dsimp only at hSw); go_simp; (try (with_reducible rfl))))) | (refine wpAnyH_take (i := 5) (oi := ?o362) (v := undef) ?i362 (by kernel_rfl) (by kernel_rfl) (by kernel_rfl) ?q362 ?y362 (by assumption) ?r362; (case i362 => (simp only [List.getElem?_toArray, List.getElem?_cons_succ, List.getElem?_cons_zero]; rfl)); (case q362 => exact fun _ _ _ h => h); (case y362 => exact Or.inr ⟨by rfl, rfl⟩))
  try simp only [Act.put, List.setIfInBounds_toArray, List.set_cons_zero, List.set_cons_succ]
  first | (refine wpAnyH_take (i := 6) (oi := ?o363) (v := ?v363) ?i363 (by kernel_rfl) (by kernel_rfl) (by kernel_rfl) ?q363 ?y363 (by assumption) ?r363; (case i363 => (simp only [List.getElem?_toArray, List.getElem?_cons_succ, List.getElem?_cons_zero]; rfl)); (case q363 => exact fun _ _ _ h => h); (case y363 => (refine Or.inl ⟨by rfl, ?_⟩; intro w hSw; (try dsimp only at hSw); go_simp; (try (with_reducible rfl))))) | (refine wpAnyH_take (i := 6) (oi := ?o364) (v := undef) ?i364 (by kernel_rfl) (by kernel_rfl) (by kernel_rfl) ?q364 ?y364 (by assumption) ?r364; (case i364 => (simp only [List.getElem?_toArray, List.getElem?_cons_succ, List.getElem?_cons_zero]; rfl)); (case q364 => exact fun _ _ _ h => h); (case y364 => exact Or.inr ⟨by rfl, rfl⟩))
  try simp only [Act.put, List.setIfInBounds_toArray, List.set_cons_zero, List.set_cons_succ]
  first | (refine wpAnyH_take (i := 7) (oi := ?o365) (v := ?v365) ?i365 (by kernel_rfl) (by kernel_rfl) (by kernel_rfl) ?q365 ?y365 (by assumption) ?r365; (case i365 => (simp only [List.getElem?_toArray, List.getElem?_cons_succ, List.getElem?_cons_zero]; rfl)); (case q365 => exact fun _ _ _ h => h); (case y365 => (refine Or.inl ⟨by rfl, ?_⟩; intro w hSw; (try dsimp only at hSw); go_simp; (try (with_reducible rfl))))) | (refine wpAnyH_take (i := 7) (oi := ?o366) (v := undef) ?i366 (by kernel_rfl) (by kernel_rfl) (by kernel_rfl) ?q366 ?y366 (by assumption) ?r366; (case i366 => (simp only [List.getElem?_toArray, List.getElem?_cons_succ, List.getElem?_cons_zero]; rfl)); (case q366 => exact fun _ _ _ h => h); (case y366 => exact Or.inr ⟨by rfl, rfl⟩))
  try simp only [Act.put, List.setIfInBounds_toArray, List.set_cons_zero, List.set_cons_succ]
  first | (refine wpAnyH_take (i := 8) (oi := ?o367) (v := ?v367) ?i367 (by kernel_rfl) (by kernel_rfl) (by kernel_rfl) ?q367 ?y367 (by assumption) ?r367; (case i367 => (simp only [List.getElem?_toArray, List.getElem?_cons_succ, List.getElem?_cons_zero]; rfl)); (case q367 => exact fun _ _ _ h => h); (case y367 => (refine Or.inl ⟨by rfl, ?_⟩; intro w hSw; (try dsimp only at hSw); go_simp; (try (with_reducible rfl))))) | (refine wpAnyH_take (i := 8) (oi := ?o368) (v := undef) ?i368 (by kernel_rfl) (by kernel_rfl) (by kernel_rfl) ?q368 ?y368 (by assumption) ?r368; (case i368 => (simp only [List.getElem?_toArray, List.getElem?_cons_succ, List.getElem?_cons_zero]; rfl)); (case q368 => exact fun _ _ _ h => h); (case y368 => exact Or.inr ⟨by rfl, rfl⟩))
  try simp only [Act.put, List.setIfInBounds_toArray, List.set_cons_zero, List.set_cons_succ]
  first | (refine wpAnyH_take (i := 9) (oi := ?o369) (v := ?v369) ?i369 (by kernel_rfl) (by kernel_rfl) (by kernel_rfl) ?q369 ?y369 (by assumption) ?r369; (case i369 => (simp only [List.getElem?_toArray, List.getElem?_cons_succ, List.getElem?_cons_zero]; rfl)); (case q369 => exact fun _ _ _ h => h); (case y369 => (refine Or.inl ⟨by rfl, ?_⟩; intro w hSw; (try dsimp only at hSw); go_simp; (try (with_reducible rfl))))) | (refine wpAnyH_take (i := 9) (oi := ?o370) (v := undef) ?i370 (by kernel_rfl) (by kernel_rfl) (by kernel_rfl) ?q370 ?y370 (by assumption) ?r370; (case i370 => (simp only [List.getElem?_toArray, List.getElem?_cons_succ, List.getElem?_cons_zero]; rfl)); (case q370 => exact fun _ _ _ h => h); (case y370 => exact Or.inr ⟨by rfl, rfl⟩))
  try simp only [Act.put, List.setIfInBounds_toArray, List.set_cons_zero, List.set_cons_succ]
  first | (refine wpAnyH_take (i := 10) (oi := ?o371) (v := ?v371) ?i371 (by kernel_rfl) (by kernel_rfl) (by kernel_rfl) ?q371 ?y371 (by assumption) ?r371; (case i371 => (simp only [List.getElem?_toArray, List.getElem?_cons_succ, List.getElem?_cons_zero]; rfl)); (case q371 => exact fun _ _ _ h => h); (case y371 => (refine Or.inl ⟨by rfl, ?_⟩; intro w hSw; (try dsimp only at hSw); go_simp; (try (with_reducible rfl))))) | (refine wpAnyH_take (i := 10) (oi := ?o372) (v := undef) ?i372 (by kernel_rfl) (by kernel_rfl) (by kernel_rfl) ?q372 ?y372 (by assumption) ?r372; (case i372 => (simp only [List.getElem?_toArray, List.getElem?_cons_succ, List.getElem?_cons_zero]; rfl)); (case q372 => exact fun _ _ _ h => h); (case y372 => exact Or.inr ⟨by rfl, rfl⟩))
  try simp only [Act.put, List.setIfInBounds_toArray, List.set_cons_zero, List.set_cons_succ]
  first | (refine wpAnyH_take (i := 11) (oi := ?o373) (v := ?v373) ?i373 (by kernel_rfl) (by kernel_rfl) (by kernel_rfl) ?q373 ?y373 (by assumption) ?r373; (case i373 => (simp only [List.getElem?_toArray, List.getElem?_cons_succ, List.getElem?_cons_zero]; rfl)); (case q373 => exact fun _ _ _ h => h); (case y373 => (refine Or.inl ⟨by rfl, ?_⟩; intro w hSw; (try dsimp only at hSw); go_simp; (try (with_reducible rfl))))) | (refine wpAnyH_take (i := 11) (oi := ?o374) (v := undef) ?i374 (by kernel_rfl) (by kernel_rfl) (by kernel_rfl) ?q374 ?y374 (by assumption) ?r374; (case i374 => (simp only [List.getElem?_toArray, List.getElem?_cons_succ, List.getElem?_cons_zero]; rfl)); (case q374 => exact fun _ _ _ h => h); (case y374 => exact Or.inr ⟨by rfl, rfl⟩))
  try simp only [Act.put, List.setIfInBounds_toArray, List.set_cons_zero, List.set_cons_succ]
  first | (refine wpAnyH_take (i := 12) (oi := ?o375) (v := ?v375) ?i375 (by kernel_rfl) (by kernel_rfl) (by kernel_rfl) ?q375 ?y375 (by assumption) ?r375; (case i375 => (simp only [List.getElem?_toArray, List.getElem?_cons_succ, List.getElem?_cons_zero]; rfl)); (case q375 => exact fun _ _ _ h => h); (case y375 => (refine Or.inl ⟨by rfl, ?_⟩; intro w hSw; (try dsimp only at hSw); go_simp; (try (with_reducible rfl))))) | (refine wpAnyH_take (i := 12) (oi := ?o376) (v := undef) ?i376 (by kernel_rfl) (by kernel_rfl) (by kernel_rfl) ?q376 ?y376 (by assumption) ?r376; (case i376 => (simp only [List.getElem?_toArray, List.getElem?_cons_succ, List.getElem?_cons_zero]; rfl)); (case q376 => exact fun _ _ _ h => h); (case y376 => exact Or.inr ⟨by rfl, rfl⟩))
  try simp only [Act.put, List.setIfInBounds_toArray, List.set_cons_zero, List.set_cons_succ]
  first | (refine wpAnyH_take (i := 13) (oi := ?o377) (v := ?v377) ?i377 (by kernel_rfl) (by kernel_rfl) (by kernel_rfl) ?q377 ?y377 (by assumption) ?r377; (case i377 => (simp only [List.getElem?_toArray, List.getElem?_cons_succ, List.getElem?_cons_zero]; rfl)); (case q377 => exact fun _ _ _ h => h); (case y377 => (refine Or.inl ⟨by rfl, ?_⟩; intro w hSw; (try dsimp only at hSw); go_simp; (try (with_reducible rfl))))) | (refine wpAnyH_take (i := 13) (oi := ?o378) (v := undef) ?i378 (by kernel_rfl) (by kernel_rfl) (by kernel_rfl) ?q378 ?y378 (by assumption) ?r378; (case i378 => (simp only [List.getElem?_toArray, List.getElem?_cons_succ, List.getElem?_cons_zero]; rfl)); (case q378 => exact fun _ _ _ h => h); (case y378 => exact Or.inr ⟨by rfl, rfl⟩))
  try simp only [Act.put, List.setIfInBounds_toArray, List.set_cons_zero, List.set_cons_succ]
  first | (refine wpAnyH_take (i := 14) (oi := ?o379) (v := ?v379) ?i379 (by kernel_rfl) (by kernel_rfl) (by kernel_rfl) ?q379 ?y379 (by assumption) ?r379; (case i379 => (simp only [List.getElem?_toArray, List.getElem?_cons_succ, List.getElem?_cons_zero]; rfl)); (case q379 => exact fun _ _ _ h => h); (case y379 => (refine Or.inl ⟨by rfl, ?_⟩; intro w hSw; (try dsimp only at hSw); go_simp; (try (with_reducible rfl))))) | (refine wpAnyH_take (i := 14) (oi := ?o380) (v := undef) ?i380 (by kernel_rfl) (by kernel_rfl) (by kernel_rfl) ?q380 ?y380 (by assumption) ?r380; (case i380 => (simp only [List.getElem?_toArray, List.getElem?_cons_succ, List.getElem?_cons_zero]; rfl)); (case q380 => exact fun _ _ _ h => h); (case y380 => exact Or.inr ⟨by rfl, rfl⟩))
  try simp only [Act.put, List.setIfInBounds_toArray, List.set_cons_zero, List.set_cons_succ]
  first | (refine wpAnyH_take (i := 15) (oi := ?o381) (v := ?v381) ?i381 (by kernel_rfl) (by kernel_rfl) (by kernel_rfl) ?q381 ?y381 (by assumption) ?r381; (case i381 => (simp only [List.getElem?_toArray, List.getElem?_cons_succ, List.getElem?_cons_zero]; rfl)); (case q381 => exact fun _ _ _ h => h); (case y381 => (refine Or.inl ⟨by rfl, ?_⟩; intro w hSw; (try dsimp only at hSw); go_simp; (try (with_reducible rfl))))) | (refine wpAnyH_take (i := 15) (oi := ?o382) (v := undef) ?i382 (by kernel_rfl) (by kernel_rfl) (by kernel_rfl) ?q382 ?y382 (by assumption) ?r382; (case i382 => (simp only [List.getElem?_toArray, List.getElem?_cons_succ, List.getElem?_cons_zero]; rfl)); (case q382 => exact fun _ _ _ h => h); (case y382 => exact Or.inr ⟨by rfl, rfl⟩))
  try simp only [Act.put, List.setIfInBounds_toArray, List.set_cons_zero, List.set_cons_succ]
  refine wpAnyH_done (by kernel_rfl) ?_ _
  obtain ⟨w5, hw5⟩ : ∃ w5, w5 = w4.drew := ⟨_, rfl⟩
  rw [← hw5]
  have b5 : Below w4.heap.size w4 w5 := by rw [hw5]; exact (Below.refl _ _).drew
  have HB5 := Aside0.mk (HB4.out.trans (b5.mono HB4.out.size))
  have hl5 := HL4.out.below b5
  have k05 := hl5.c0
  have k15 := hl5.c1
  have k25 := hl5.c2
  have k35 := hl5.c3
  have k45 := hl5.c4
  have x85 := (b5.block _ (blt X84.out)).trans X84.out
  have HG5 := Aside0.mk (hG.below HG4.out b5)
  have HL5 := Aside0.mk hl5
  have X85 := Lib.hid x85
  clear hw5 b5 hl5 x85
  go_wp2_with (first
    | (rw [← HW0.out])
    | (rw [← HW.out])
    | (go_at_call 32; (have hcc := RCount_any HL5.out HSL.out 0); (rw [← HC0.out] at hcc); (with_reducible refine hcc.mono ?_); clear hcc; rintro e w7 ⟨rfl, hb7⟩; have HB7 := Aside0.mk (HB5.out.trans (hb7.mono HB5.out.size)); have x8 := (hb7.block _ (blt X85.out)).trans X85.out; have X87 := Lib.hid x8; have n0 : w7.cell? ⟨w.heap.size, 0, none⟩ = some (.int .i64 0) := bcell x8 0; have n1 : w7.cell? ⟨w.heap.size, 1, none⟩ = some (.int .i64 0) := bcell x8 1; have nf : ∀ j, w7.frozen? ⟨w.heap.size, j, none⟩ = false := (fun j => bfrozen x8 j); have HL7 := Aside0.mk (HL5.out.below hb7); have HG7 := Aside0.mk (hG.below HG5.out hb7); clear hb7 x8)
    | (go_at_call 73; (have hse := RSeal_G hG hSt HG7.out HL7.out (.inl hr) (.inl ht) hNr hNt HOL.out); (with_reducible refine hse.mono ?_); clear hse; rintro e w8 ⟨rfl, hf8, hl8, hb8, hk8⟩; have bel8 : Below N0 w w8 := (((WB.out.trans ((HB7.out).mono (by omega))).mono hsz)).trans hb8; have kep8 : Kept (fun k => K k ∧ k ≠ r ∧ k ≠ t) w w8 := (fun k hk => (hk8 k ⟨.inl hk.1, hk.2⟩).trans ((show Kept (fun k => K k ∧ k ≠ r ∧ k ≠ t) w w7 from fun k hk => ((BBW.out.trans (HB7.out.mono BBW.out.size)).block k (HLT.out k hk.1))) k hk)); have x8 := (hk8 w.heap.size ⟨.inr ⟨Nat.le_refl _, by omega⟩, (by have := HLT.out r hr; omega), (by have := HLT.out t ht; omega)⟩).trans X87.out; (obtain ⟨g8, hg8⟩ : ∃ g8, g8 = rsealG g := ⟨_, rfl⟩); (rw [← hg8] at hl8); (have hgl : g8.st.length = nl := (by rw [hg8, rseal_len]; exact HNL.out.symm)); (have hgo : g8.op = -1 := (by rw [hg8]; rfl)); have k18 := hl8.c1; (rw [hgl] at k18); have X88 := Lib.hid x8; have HG8 := Aside0.mk hf8; have HL8 := Aside0.mk hl8; have BEL8 := Aside0.mk bel8; have KEP8 := Lib.hid kep8; have HG8E := Lib.hid hg8; have HGL := Lib.hid hgl; have HGO := Lib.hid hgo; clear hf8 hl8 hb8 hk8 bel8 kep8 x8 hg8 hgl hgo)
    | fail)
  go_loopw [12, 13, 69] (fun v12 v13 v69 wr => ∃ k : Nat, k ≤ nl ∧ v69 = .int .i64 (k : Int) ∧ RLog r t x cap rest (if k ≤ m then g8 else { g8 with op := (m : Int) }) wr ∧ Upd (fun k => k = r) w8 wr) (fun _ _ v69 _ => nl - (intOf v69).toNat)
  case atStart => exact ⟨0, Nat.zero_le _, rfl, by rw [if_pos (Nat.zero_le _)]; exact HL8.out, Upd.ofBelow (Below.refl _ _) _⟩
  case round =>
    obtain ⟨k, hk, rfl, hlr, hur⟩ := hrel
    have hmg : g8.st[m]? = some 0 := by rw [HG8E.out]; exact HM0.out
    have hml : m < nl := by have := (List.getElem?_eq_some_iff.1 hmg).1; have := HGL.out; omega
    have k0' : (0 : Int) ≤ (k : Int) := by omega
    have e_m : decide ((m : Int) < 0) = false := decide_eq_false (by omega)
    by_cases hlt : k < nl
    · have k1' : (k : Int) < (nl : Int) := by omega
      obtain ⟨y, hy⟩ : ∃ y, g8.st[k]? = some y := ⟨_, List.getElem?_eq_getElem (by have := HGL.out; omega)⟩
      by_cases hkm : k ≤ m
      · rw [if_pos hkm] at hlr
        have c5 := hlr.cst hy
        have c2 := hlr.c2
        rw [HGO.out] at c2
        have f2 := hlr.fr 2
        have HLR := Aside0.mk hlr
        have HUR := Aside0.mk hur
        by_cases hkm2 : k = m
        · have hy0 : y = 0 := by rw [hkm2, hmg] at hy; exact (Option.some.inj hy).symm
          rw [hy0] at c5
          have HKM := Lib.hid hkm2
          clear hlr hur hy hy0 hkm2 hmg
          go_wp2
          exact ⟨⟨k + 1, by omega, by go_num, by rw [if_neg (by have := HKM.out; omega), ← HKM.out]; exact HLR.out.setOp (k : Int), HUR.out.trans (Upd.setCell wr (p := ⟨r, 2, none⟩) (S := fun k => k = r) rfl _) (fun k hk _ => hk)⟩, by simp [intOf]; omega⟩
        · have hy0 : y ≠ 0 := fun e => by rw [e] at hy; exact HMF.out k (by omega) (by rw [← HG8E.out]; exact hy)
          have e1 : (y == 0) = false := by simpa using hy0
          have HKM := Lib.hid hkm2
          clear hlr hur hy hy0 hkm2 hmg
          go_wp2
          exact ⟨⟨k + 1, by omega, by go_num, by rw [if_pos (by have := HKM.out; omega)]; exact HLR.out, HUR.out⟩, by simp [intOf]; omega⟩
      · rw [if_neg hkm] at hlr
        have c5 := hlr.cst hy
        have c2 := hlr.c2
        simp only at c2
        have HLR := Aside0.mk hlr
        have HUR := Aside0.mk hur
        by_cases hy0 : y = 0
        · rw [hy0] at c5
          clear hlr hur hy hy0 hmg
          go_wp2
          exact ⟨⟨k + 1, by omega, by go_num, by rw [if_neg (by omega)]; exact HLR.out, HUR.out⟩, by simp [intOf]; omega⟩
        · have e1 : (y == 0) = false := by simpa using hy0
          clear hlr hur hy hy0 hmg
          go_wp2
          exact ⟨⟨k + 1, by omega, by go_num, by rw [if_neg (by omega)]; exact HLR.out, HUR.out⟩, by simp [intOf]; omega⟩
    · obtain rfl : k = nl := by omega
      rw [if_neg (by omega)] at hlr
      have c1 := hlr.c1
      simp only [HGL.out] at c1
      have c2 := hlr.c2
      simp only at c2
      have c5 := hlr.cst (i := m) (y := 0) hmg
      have f5 := hlr.ft m
      have q0 : (0 : Int) ≤ (m : Int) := by omega
      have q1 : (m : Int) < (k : Int) := by omega
      have n1 := hlr.ne
      have n2 : ¬ t = r := fun e => n1 e.symm
      have HMG := Lib.hid hmg
      have HLR := Aside0.mk hlr
      have HUR := Aside0.mk hur
      clear hlr hur hmg
      go_wp2_with fail
      go_region_held3 (fun w' => w'.cell? ⟨r, 1, none⟩ = some (.slice (some ⟨t, 0, none⟩) k cap) ∧ w'.cell? ⟨r, 2, none⟩ = some (.int .i64 (m : Int))) (first | go_keep | exact ⟨c1, c2⟩) (fail)
      obtain ⟨w11, hw11⟩ : ∃ w11, w11 = (wr.setCell ⟨t, m, none⟩ (.int .i64 1)).drew := ⟨_, rfl⟩
      rw [← hw11]
      have hfr := hSt _ _ w8 wr r _ _ _ HG8.out (.inl hr) HL8.out.blk HLR.out.blk (by decide) HUR.out
      have hlz := HLR.out.setSt (i := m) (by show m < g8.st.length; have := HGL.out; omega) 1
      have hlw : RLog r t x cap rest { st := g8.st.set m 1, op := (m : Int), pg := g8.pg, nx := g8.nx } w11 := by rw [hw11]; exact ⟨hlz.blk, hlz.row⟩
      have huw : Upd (fun k => k = t) wr w11 := by
        have := Upd.setCell wr (p := ⟨t, m, none⟩) (S := fun k => k = t) rfl (.int .i64 1)
        rw [hw11]
        exact ⟨this.os, this.tape, this.output, this.size, this.block⟩
      have hfw := hSt _ _ wr w11 t _ _ _ hfr (.inl ht) HLR.out.row hlw.row (by decide) huw
      have zr := hG.size hfr
      have z8 := hG.size HG8.out
      have blw : Below N0 w w11 := BEL8.out.trans ((HUR.out.below z8 (fun k hk => by rw [hk]; exact hNr)).trans (huw.below zr (fun k hk => by rw [hk]; exact hNt)))
      have hgn : g8.nx = g.nx := by rw [HG8E.out]; rfl
      have kpw : Kept (fun k => K k ∧ k ≠ r ∧ k ≠ t) w w11 := fun k hk => (huw.block k (hG.lt hfr k (.inl hk.1)) hk.2.2).trans ((HUR.out.block k (hG.lt HG8.out k (.inl hk.1)) hk.2.1).trans (KEP8.out k hk))
      have x8w := (huw.block w.heap.size (by have := hG.lt hfr w.heap.size (.inr ⟨Nat.le_refl _, by omega⟩); omega) (by have := HLT.out t ht; omega)).trans ((HUR.out.block w.heap.size (blt X88.out) (by have := HLT.out r hr; omega)).trans X88.out)
      have d0 := hlw.c0
      have d2 := hlw.c2
      have d4 := hlw.c4
      simp only at d2 d4
      rw [hgn] at d4
      have hap0 := RAppend_G (kind := 1) (seq := g.nx) (l := []) (c := 0) (A := none) hG (hG.below hfw (Below.refl _ w11).drew) HSH.out (m : Int) 0 one_kind hsq Byt.nil (Kd.C_nil kB _) (Nat.le_refl _) (by simp) hd0
      rw [List.length_nil] at hap0
      have HAP0 := Lib.hid hap0
      have HLW := Aside0.mk hlw
      have BLW := Aside0.mk blw
      have KPW := Lib.hid kpw
      have X8W := Lib.hid x8w
      have HGN := Lib.hid hgn
      clear hw11 hfr hlz hlw huw hfw blw hgn kpw x8w hap0 c1 c2 c5 f5
      go_wp2_with fail
      refine wp_region_held_drew (S := (fun w' => w'.cell? ⟨r, 0, none⟩ = some (.pointer (some ⟨x, 0, none⟩)) ∧ w'.cell? ⟨r, 2, none⟩ = some (.int .i64 (m : Int)) ∧ w'.cell? ⟨r, 4, none⟩ = some (.int .u64 g.nx))) (by kernel_rfl) ?_ (fun hHeld => ?_)
      · first | exact ⟨d0, d2, d4⟩ | exact ⟨v0, v2, v4⟩
      first | (refine wpAnyH_take (i := 0) (oi := ?o383) (v := ?v383) ?i383 (by kernel_rfl) (by kernel_rfl) (by kernel_rfl) ?q383 ?y383 (by assumption) ?r383; (case i383 => (simp only [List.getElem?_toArray, List.getElem?_cons_succ, List.getElem?_cons_zero]; rfl)); (case q383 => exact fun _ _ _ h => h); (case y383 => (refine Or.inl ⟨by rfl, ?_⟩; intro w hSw; (try dsimp only at hSw); go_simp; (try (with_reducible rfl))))) | (refine wpAnyH_take (i := 0) (oi := ?o384) (v := undef) ?i384 (by kernel_rfl) (by kernel_rfl) (by kernel_rfl) ?q384 ?y384 (by assumption) ?r384; (case i384 => (simp only [List.getElem?_toArray, List.getElem?_cons_succ, List.getElem?_cons_zero]; rfl)); (case q384 => exact fun _ _ _ h => h); (case y384 => exact Or.inr ⟨by rfl, rfl⟩))
      try simp only [Act.put, List.setIfInBounds_toArray, List.set_cons_zero, List.set_cons_succ]
      first | (refine wpAnyH_take (i := 1) (oi := ?o385) (v := ?v385) ?i385 (by kernel_rfl) (by kernel_rfl) (by kernel_rfl) ?q385 ?y385 (by assumption) ?r385; (case i385 => (simp only [List.getElem?_toArray, List.getElem?_cons_succ, List.getElem?_cons_zero]; rfl)); (case q385 => exact fun _ _ _ h => h); (case y385 => (refine Or.inl ⟨by rfl, ?_⟩; intro w hSw; (try dsimp only at hSw); go_simp; (try (with_reducible rfl))))) | (refine wpAnyH_take (i := 1) (oi := ?o386) (v := undef) ?i386 (by kernel_rfl) (by kernel_rfl) (by kernel_rfl) ?q386 ?y386 (by assumption) ?r386; (case i386 => (simp only [List.getElem?_toArray, List.getElem?_cons_succ, List.getElem?_cons_zero]; rfl)); (case q386 => exact fun _ _ _ h => h); (case y386 => exact Or.inr ⟨by rfl, rfl⟩))
      try simp only [Act.put, List.setIfInBounds_toArray, List.set_cons_zero, List.set_cons_succ]
      first | (refine wpAnyH_take (i := 2) (oi := ?o387) (v := ?v387) ?i387 (by kernel_rfl) (by kernel_rfl) (by kernel_rfl) ?q387 ?y387 (by assumption) ?r387; (case i387 => (simp only [List.getElem?_toArray, List.getElem?_cons_succ, List.getElem?_cons_zero]; rfl)); (case q387 => exact fun _ _ _ h => h); (case y387 => (refine Or.inl ⟨by rfl, ?_⟩; intro w hSw; (try dsimp only at hSw); go_simp; (try (with_reducible rfl))))) | (refine wpAnyH_take (i := 2) (oi := ?o388) (v := undef) ?i388 (by kernel_rfl) (by kernel_rfl) (by kernel_rfl) ?q388 ?y388 (by assumption) ?r388; (case i388 => (simp only [List.getElem?_toArray, List.getElem?_cons_succ, List.getElem?_cons_zero]; rfl)); (case q388 => exact fun _ _ _ h => h); (case y388 => exact Or.inr ⟨by rfl, rfl⟩))
      try simp only [Act.put, List.setIfInBounds_toArray, List.set_cons_zero, List.set_cons_succ]
      first | (refine wpAnyH_take (i := 3) (oi := ?o389) (v := ?v389) ?i389 (by kernel_rfl) (by kernel_rfl) (by kernel_rfl) ?q389 ?y389 (by assumption) ?r389; (case i389 => (simp only [List.getElem?_toArray, List.getElem?_cons_succ, List.getElem?_cons_zero]; rfl)); (case q389 => exact fun _ _ _ h => h); (case y389 => (refine Or.inl ⟨by rfl, ?_⟩; intro w hSw; (try dsimp only at hSw); go_simp; (try (with_reducible rfl))))) | (refine wpAnyH_take (i := 3) (oi := ?o390) (v := undef) ?i390 (by kernel_rfl) (by kernel_rfl) (by kernel_rfl) ?q390 ?y390 (by assumption) ?r390; (case i390 => (simp only [List.getElem?_toArray, List.getElem?_cons_succ, List.getElem?_cons_zero]; rfl)); (case q390 => exact fun _ _ _ h => h); (case y390 => exact Or.inr ⟨by rfl, rfl⟩))
      try simp only [Act.put, List.setIfInBounds_toArray, List.set_cons_zero, List.set_cons_succ]
      first | (refine wpAnyH_take (i := 4) (oi := ?o391) (v := ?v391) ?i391 (by kernel_rfl) (by kernel_rfl) (by kernel_rfl) ?q391 ?y391 (by assumption) ?r391; (case i391 => (simp only [List.getElem?_toArray, List.getElem?_cons_succ, List.getElem?_cons_zero]; rfl)); (case q391 => exact fun _ _ _ h => h); (case y391 => (refine Or.inl ⟨by rfl, ?_⟩; intro w hSw; (try dsimp only at hSw); go_simp; (try (with_reducible rfl))))) | (refine wpAnyH_take (i := 4) (oi := ?o392) (v := undef) ?i392 (by kernel_rfl) (by kernel_rfl) (by kernel_rfl) ?q392 ?y392 (by assumption) ?r392; (case i392 => (simp only [List.getElem?_toArray, List.getElem?_cons_succ, List.getElem?_cons_zero]; rfl)); (case q392 => exact fun _ _ _ h => h); (case y392 => exact Or.inr ⟨by rfl, rfl⟩))
      try simp only [Act.put, List.setIfInBounds_toArray, List.set_cons_zero, List.set_cons_succ]
      first | (refine wpAnyH_take (i := 5) (oi := ?o393) (v := ?v393) ?i393 (by kernel_rfl) (by kernel_rfl) (by kernel_rfl) ?q393 ?y393 (by assumption) ?r393; (case i393 => (simp only [List.getElem?_toArray, List.getElem?_cons_succ, List.getElem?_cons_zero]; rfl)); (case q393 => exact fun _ _ _ h => h); (case y393 => (refine Or.inl ⟨by rfl, ?_⟩; intro w hSw; (try dsimp only at hSw); go_simp; (try (with_reducible rfl))))) | (refine wpAnyH_take (i := 5) (oi := ?o394) (v := undef) ?i394 (by kernel_rfl) (by kernel_rfl) (by kernel_rfl) ?q394 ?y394 (by assumption) ?r394; (case i394 => (simp only [List.getElem?_toArray, List.getElem?_cons_succ, List.getElem?_cons_zero]; rfl)); (case q394 => exact fun _ _ _ h => h); (case y394 => exact Or.inr ⟨by rfl, rfl⟩))
      try simp only [Act.put, List.setIfInBounds_toArray, List.set_cons_zero, List.set_cons_succ]
      first | (refine wpAnyH_take (i := 6) (oi := ?o395) (v := ?v395) ?i395 (by kernel_rfl) (by kernel_rfl) (by kernel_rfl) ?q395 ?y395 (by assumption) ?r395; (case i395 => (simp only [List.getElem?_toArray, List.getElem?_cons_succ, List.getElem?_cons_zero]; rfl)); (case q395 => exact fun _ _ _ h => h); (case y395 => (refine Or.inl ⟨by rfl, ?_⟩; intro w hSw; (try dsimp only at hSw); go_simp; (try (with_reducible rfl))))) | (refine wpAnyH_take (i := 6) (oi := ?o396) (v := undef) ?i396 (by kernel_rfl) (by kernel_rfl) (by kernel_rfl) ?q396 ?y396 (by assumption) ?r396; (case i396 => (simp only [List.getElem?_toArray, List.getElem?_cons_succ, List.getElem?_cons_zero]; rfl)); (case q396 => exact fun _ _ _ h => h); (case y396 => exact Or.inr ⟨by rfl, rfl⟩))
      try simp only [Act.put, List.setIfInBounds_toArray, List.set_cons_zero, List.set_cons_succ]
      first | (refine wpAnyH_take (i := 7) (oi := ?o397) (v := ?v397) ?i397 (by kernel_rfl) (by kernel_rfl) (by kernel_rfl) ?q397 ?y397 (by assumption) ?r397; (case i397 => (simp only [List.getElem?_toArray, List.getElem?_cons_succ, List.getElem?_cons_zero]; rfl)); (case q397 => exact fun _ _ _ h => h); (case y397 => (refine Or.inl ⟨by rfl, ?_⟩; intro w hSw; (try dsimp only at hSw); go_simp; (try (with_reducible rfl))))) | (refine wpAnyH_take (i := 7) (oi := ?o398) (v := undef) ?i398 (by kernel_rfl) (by kernel_rfl) (by kernel_rfl) ?q398 ?y398 (by assumption) ?r398; (case i398 => (simp only [List.getElem?_toArray, List.getElem?_cons_succ, List.getElem?_cons_zero]; rfl)); (case q398 => exact fun _ _ _ h => h); (case y398 => exact Or.inr ⟨by rfl, rfl⟩))
      try simp only [Act.put, List.setIfInBounds_toArray, List.set_cons_zero, List.set_cons_succ]
      first | (refine wpAnyH_take (i := 8) (oi := ?o399) (v := ?v399) ?i399 (by kernel_rfl) (by kernel_rfl) (by kernel_rfl) ?q399 ?y399 (by assumption) ?r399; (case i399 => (simp only [List.getElem?_toArray, List.getElem?_cons_succ, List.getElem?_cons_zero]; rfl)); (case q399 => exact fun _ _ _ h => h); (case y399 => (refine Or.inl ⟨by rfl, ?_⟩; intro w hSw; (try dsimp only at hSw); go_simp; (try (with_reducible rfl))))) | (refine wpAnyH_take (i := 8) (oi := ?o400) (v := undef) ?i400 (by kernel_rfl) (by kernel_rfl) (by kernel_rfl) ?q400 ?y400 (by assumption) ?r400; (case i400 => (simp only [List.getElem?_toArray, List.getElem?_cons_succ, List.getElem?_cons_zero]; rfl)); (case q400 => exact fun _ _ _ h => h); (case y400 => exact Or.inr ⟨by rfl, rfl⟩))
      try simp only [Act.put, List.setIfInBounds_toArray, List.set_cons_zero, List.set_cons_succ]
      first | (refine wpAnyH_take (i := 9) (oi := ?o401) (v := ?v401) ?i401 (by kernel_rfl) (by kernel_rfl) (by kernel_rfl) ?q401 ?y401 (by assumption) ?r401; (case i401 => (simp only [List.getElem?_toArray, List.getElem?_cons_succ, List.getElem?_cons_zero]; rfl)); (case q401 => exact fun _ _ _ h => h); (case y401 => (refine Or.inl ⟨by rfl, ?_⟩; intro w hSw; (try dsimp only at hSw); go_simp; (try (with_reducible rfl))))) | (refine wpAnyH_take (i := 9) (oi := ?o402) (v := undef) ?i402 (by kernel_rfl) (by kernel_rfl) (by kernel_rfl) ?q402 ?y402 (by assumption) ?r402; (case i402 => (simp only [List.getElem?_toArray, List.getElem?_cons_succ, List.getElem?_cons_zero]; rfl)); (case q402 => exact fun _ _ _ h => h); (case y402 => exact Or.inr ⟨by rfl, rfl⟩))
      try simp only [Act.put, List.setIfInBounds_toArray, List.set_cons_zero, List.set_cons_succ]
      first | (refine wpAnyH_take (i := 10) (oi := ?o403) (v := ?v403) ?i403 (by kernel_rfl) (by kernel_rfl) (by kernel_rfl) ?q403 ?y403 (by assumption) ?r403; (case i403 => (simp only [List.getElem?_toArray, List.getElem?_cons_succ, List.getElem?_cons_zero]; rfl)); (case q403 => exact fun _ _ _ h => h); (case y403 => (refine Or.inl ⟨by rfl, ?_⟩; intro w hSw; (try dsimp only at hSw); go_simp; (try (with_reducible rfl))))) | (refine wpAnyH_take (i := 10) (oi := ?o404) (v := undef) ?i404 (by kernel_rfl) (by kernel_rfl) (by kernel_rfl) ?q404 ?y404 (by assumption) ?r404; (case i404 => (simp only [List.getElem?_toArray, List.getElem?_cons_succ, List.getElem?_cons_zero]; rfl)); (case q404 => exact fun _ _ _ h => h); (case y404 => exact Or.inr ⟨by rfl, rfl⟩))
      try simp only [Act.put, List.setIfInBounds_toArray, List.set_cons_zero, List.set_cons_succ]
      first | (refine wpAnyH_take (i := 11) (oi := ?o405) (v := ?v405) ?i405 (by kernel_rfl) (by kernel_rfl) (by kernel_rfl) ?q405 ?y405 (by assumption) ?r405; (case i405 => (simp only [List.getElem?_toArray, List.getElem?_cons_succ, List.getElem?_cons_zero]; rfl)); (case q405 => exact fun _ _ _ h => h); (case y405 => (refine Or.inl ⟨by rfl, ?_⟩; intro w hSw; (try dsimp only at hSw); go_simp; (try (with_reducible rfl))))) | (refine wpAnyH_take (i := 11) (oi := ?o406) (v := undef) ?i406 (by kernel_rfl) (by kernel_rfl) (by kernel_rfl) ?q406 ?y406 (by assumption) ?r406; (case i406 => (simp only [List.getElem?_toArray, List.getElem?_cons_succ, List.getElem?_cons_zero]; rfl)); (case q406 => exact fun _ _ _ h => h); (case y406 => exact Or.inr ⟨by rfl, rfl⟩))
      try simp only [Act.put, List.setIfInBounds_toArray, List.set_cons_zero, List.set_cons_succ]
      refine wpAnyH_ready (rs := [12]) (by kernel_rfl) (by simp) ?_
      refine AllReadyH.cons (by (simp only [List.getElem?_toArray, List.getElem?_cons_succ, List.getElem?_cons_zero]; rfl)) (fun K hK => ?_) AllReadyH.nil
      go_simp
      (go_at_call 36; (with_reducible refine HAP0.out.mono ?_); rintro e w12 ⟨rfl, hf12, hb12, hk12⟩; have hl12 := HLW.out.step (hk12 r (.inl hr)) (hk12 t (.inl ht)); have v0 := hl12.c0; have v2 := hl12.c2; have v4 := hl12.c4; simp only at v2 v4; rw [HGN.out] at v4; have v3 := hl12.c3; have fr3 := hl12.fr 3; have fr4 := hl12.fr 4; have HL12 := Aside0.mk hl12; have HG12 := Aside0.mk hf12; have HB12 := Aside0.mk hb12; have HK12 := Lib.hid hk12; clear hl12 hf12 hb12 hk12)
      (try dsimp only)
      refine hK.out _ _ ?_ (fun hHeld => ?_)
      · first | exact ⟨d0, d2, d4⟩ | exact ⟨v0, v2, v4⟩
      clear hK K
      try simp only [Act.put, List.setIfInBounds_toArray, List.set_cons_zero, List.set_cons_succ]
      refine wpAnyH_done (by kernel_rfl) ?_ _
      have hwn : IntKind.u64.wrap (g.nx + 1) = g.nx + 1 := IntWalk.u64_in _ (by omega)
      go_wp2_with fail
      obtain ⟨w13, hw13⟩ : ∃ w13, w13 = (w12.setCell ⟨r, 3, none⟩ (.int .i64 1)).setCell ⟨r, 4, none⟩ (.int .u64 (g.nx + 1)) := ⟨_, rfl⟩
      rw [← hw13]
      have hl13 : RLog r t x cap rest { st := g8.st.set m 1, op := (m : Int), pg := 1, nx := g.nx + 1 } w13 := by rw [hw13]; exact (HL12.out.setPg 1).setNx (g.nx + 1)
      have hu13 : Upd (fun k => k = r) w12 w13 := by
        rw [hw13]
        exact (Upd.setCell w12 (p := ⟨r, 3, none⟩) (S := fun k => k = r) rfl _).trans (Upd.setCell _ (p := ⟨r, 4, none⟩) (S := fun k => k = r) rfl _) (fun k hk _ => hk)
      have hg13 := hSt _ _ w12 w13 r _ _ _ HG12.out (.inl hr) HL12.out.blk hl13.blk (by decide) hu13
      have z12 := hG.size HG12.out
      have bel13 : Below N0 w w13 := BLW.out.trans (((show Below N0 w11 w11.drew from (Below.refl _ _).drew).trans HB12.out).trans (hu13.below z12 (fun k hk => by rw [hk]; exact hNr)))
      have kep13 : Kept (fun k => K k ∧ k ≠ r ∧ k ≠ t) w w13 := fun k hk => (hu13.block k (hG.lt HG12.out k (.inl hk.1)) hk.2.1).trans ((HK12.out k (.inl hk.1)).trans (KPW.out k hk))
      have x813 := (hu13.block w.heap.size (hG.lt HG12.out _ (.inr ⟨Nat.le_refl _, by omega⟩)) (by have := HLT.out r hr; omega)).trans ((HK12.out w.heap.size (.inr ⟨Nat.le_refl _, by omega⟩)).trans X8W.out)
      have X813 := Lib.hid x813
      have HL13 := Aside0.mk hl13
      have HG13 := Aside0.mk hg13
      have BEL13 := Aside0.mk bel13
      have KEP13 := Lib.hid kep13
      clear hw13 hl13 hu13 hg13 bel13 kep13 x813 v0 v2 v3 v4 fr3 fr4 hHeld
      go_wp2_with fail
      have y2_ := HL13.out.c2
      have y3_ := HL13.out.c3
      refine wp_region_held_drew (S := (fun w' => w'.cell? ⟨r, 2, none⟩ = some (.int .i64 (m : Int)) ∧ w'.cell? ⟨r, 3, none⟩ = some (.int .i64 1))) (by kernel_rfl) ?_ (fun hHeld => ?_)
      · first | go_keep | exact ⟨y2_, y3_⟩
      first | (refine wpAnyH_take (i := 0) (oi := ?o407) (v := ?v407) ?i407 (by kernel_rfl) (by kernel_rfl) (by kernel_rfl) ?q407 ?y407 (by assumption) ?r407; (case i407 => (simp only [List.getElem?_toArray, List.getElem?_cons_succ, List.getElem?_cons_zero]; rfl)); (case q407 => exact fun _ _ _ h => h); (case y407 => (refine Or.inl ⟨by rfl, ?_⟩; intro w hSw; (try dsimp only at hSw); go_simp; (try (with_reducible rfl))))) | (refine wpAnyH_take (i := 0) (oi := ?o408) (v := undef) ?i408 (by kernel_rfl) (by kernel_rfl) (by kernel_rfl) ?q408 ?y408 (by assumption) ?r408; (case i408 => (simp only [List.getElem?_toArray, List.getElem?_cons_succ, List.getElem?_cons_zero]; rfl)); (case q408 => exact fun _ _ _ h => h); (case y408 => exact Or.inr ⟨by rfl, rfl⟩))
      try simp only [Act.put, List.setIfInBounds_toArray, List.set_cons_zero, List.set_cons_succ]
      first | (refine wpAnyH_take (i := 1) (oi := ?o409) (v := ?v409) ?i409 (by kernel_rfl) (by kernel_rfl) (by kernel_rfl) ?q409 ?y409 (by assumption) ?r409; (case i409 => (simp only [List.getElem?_toArray, List.getElem?_cons_succ, List.getElem?_cons_zero]; rfl)); (case q409 => exact fun _ _ _ h => h); (case y409 => (refine Or.inl ⟨by rfl, ?_⟩; intro w hSw; (try dsimp only at hSw); go_simp; (try (with_reducible rfl))))) | (refine wpAnyH_take (i := 1) (oi := ?o410) (v := undef) ?i410 (by kernel_rfl) (by kernel_rfl) (by kernel_rfl) ?q410 ?y410 (by assumption) ?r410; (case i410 => (simp only [List.getElem?_toArray, List.getElem?_cons_succ, List.getElem?_cons_zero]; rfl)); (case q410 => exact fun _ _ _ h => h); (case y410 => exact Or.inr ⟨by rfl, rfl⟩))
      try simp only [Act.put, List.setIfInBounds_toArray, List.set_cons_zero, List.set_cons_succ]
      first | (refine wpAnyH_take (i := 2) (oi := ?o411) (v := ?v411) ?i411 (by kernel_rfl) (by kernel_rfl) (by kernel_rfl) ?q411 ?y411 (by assumption) ?r411; (case i411 => (simp only [List.getElem?_toArray, List.getElem?_cons_succ, List.getElem?_cons_zero]; rfl)); (case q411 => exact fun _ _ _ h => h); (case y411 => (refine Or.inl ⟨by rfl, ?_⟩; intro w hSw; (try dsimp only at hSw); go_simp; (try (with_reducible rfl))))) | (refine wpAnyH_take (i := 2) (oi := ?o412) (v := undef) ?i412 (by kernel_rfl) (by kernel_rfl) (by kernel_rfl) ?q412 ?y412 (by assumption) ?r412; (case i412 => (simp only [List.getElem?_toArray, List.getElem?_cons_succ, List.getElem?_cons_zero]; rfl)); (case q412 => exact fun _ _ _ h => h); (case y412 => exact Or.inr ⟨by rfl, rfl⟩))
      try simp only [Act.put, List.setIfInBounds_toArray, List.set_cons_zero, List.set_cons_succ]
      first | (refine wpAnyH_take (i := 3) (oi := ?o413) (v := ?v413) ?i413 (by kernel_rfl) (by kernel_rfl) (by kernel_rfl) ?q413 ?y413 (by assumption) ?r413; (case i413 => (simp only [List.getElem?_toArray, List.getElem?_cons_succ, List.getElem?_cons_zero]; rfl)); (case q413 => exact fun _ _ _ h => h); (case y413 => (refine Or.inl ⟨by rfl, ?_⟩; intro w hSw; (try dsimp only at hSw); go_simp; (try (with_reducible rfl))))) | (refine wpAnyH_take (i := 3) (oi := ?o414) (v := undef) ?i414 (by kernel_rfl) (by kernel_rfl) (by kernel_rfl) ?q414 ?y414 (by assumption) ?r414; (case i414 => (simp only [List.getElem?_toArray, List.getElem?_cons_succ, List.getElem?_cons_zero]; rfl)); (case q414 => exact fun _ _ _ h => h); (case y414 => exact Or.inr ⟨by rfl, rfl⟩))
      try simp only [Act.put, List.setIfInBounds_toArray, List.set_cons_zero, List.set_cons_succ]
      first | (refine wpAnyH_take (i := 4) (oi := ?o415) (v := ?v415) ?i415 (by kernel_rfl) (by kernel_rfl) (by kernel_rfl) ?q415 ?y415 (by assumption) ?r415; (case i415 => (simp only [List.getElem?_toArray, List.getElem?_cons_succ, List.getElem?_cons_zero]; rfl)); (case q415 => exact fun _ _ _ h => h); (case y415 => (refine Or.inl ⟨by rfl, ?_⟩; intro w hSw; (try dsimp only at hSw); go_simp; (try (with_reducible rfl))))) | (refine wpAnyH_take (i := 4) (oi := ?o416) (v := undef) ?i416 (by kernel_rfl) (by kernel_rfl) (by kernel_rfl) ?q416 ?y416 (by assumption) ?r416; (case i416 => (simp only [List.getElem?_toArray, List.getElem?_cons_succ, List.getElem?_cons_zero]; rfl)); (case q416 => exact fun _ _ _ h => h); (case y416 => exact Or.inr ⟨by rfl, rfl⟩))
      try simp only [Act.put, List.setIfInBounds_toArray, List.set_cons_zero, List.set_cons_succ]
      first | (refine wpAnyH_take (i := 5) (oi := ?o417) (v := ?v417) ?i417 (by kernel_rfl) (by kernel_rfl) (by kernel_rfl) ?q417 ?y417 (by assumption) ?r417; (case i417 => (simp only [List.getElem?_toArray, List.getElem?_cons_succ, List.getElem?_cons_zero]; rfl)); (case q417 => exact fun _ _ _ h => h); (case y417 => (refine Or.inl ⟨by rfl, ?_⟩; intro w hSw; (try dsimp only at hSw); go_simp; (try (with_reducible rfl))))) | (refine wpAnyH_take (i := 5) (oi := ?o418) (v := undef) ?i418 (by kernel_rfl) (by kernel_rfl) (by kernel_rfl) ?q418 ?y418 (by assumption) ?r418; (case i418 => (simp only [List.getElem?_toArray, List.getElem?_cons_succ, List.getElem?_cons_zero]; rfl)); (case q418 => exact fun _ _ _ h => h); (case y418 => exact Or.inr ⟨by rfl, rfl⟩))
      try simp only [Act.put, List.setIfInBounds_toArray, List.set_cons_zero, List.set_cons_succ]
      first | (refine wpAnyH_take (i := 6) (oi := ?o419) (v := ?v419) ?i419 (by kernel_rfl) (by kernel_rfl) (by kernel_rfl) ?q419 ?y419 (by assumption) ?r419; (case i419 => (simp only [List.getElem?_toArray, List.getElem?_cons_succ, List.getElem?_cons_zero]; rfl)); (case q419 => exact fun _ _ _ h => h); (case y419 => (refine Or.inl ⟨by rfl, ?_⟩; intro w hSw; (try dsimp only at hSw); go_simp; (try (with_reducible rfl))))) | (refine wpAnyH_take (i := 6) (oi := ?o420) (v := undef) ?i420 (by kernel_rfl) (by kernel_rfl) (by kernel_rfl) ?q420 ?y420 (by assumption) ?r420; (case i420 => (simp only [List.getElem?_toArray, List.getElem?_cons_succ, List.getElem?_cons_zero]; rfl)); (case q420 => exact fun _ _ _ h => h); (case y420 => exact Or.inr ⟨by rfl, rfl⟩))
      try simp only [Act.put, List.setIfInBounds_toArray, List.set_cons_zero, List.set_cons_succ]
      first | (refine wpAnyH_take (i := 7) (oi := ?o421) (v := ?v421) ?i421 (by kernel_rfl) (by kernel_rfl) (by kernel_rfl) ?q421 ?y421 (by assumption) ?r421; (case i421 => (simp only [List.getElem?_toArray, List.getElem?_cons_succ, List.getElem?_cons_zero]; rfl)); (case q421 => exact fun _ _ _ h => h); (case y421 => (refine Or.inl ⟨by rfl, ?_⟩; intro w hSw; (try dsimp only at hSw); go_simp; (try (with_reducible rfl))))) | (refine wpAnyH_take (i := 7) (oi := ?o422) (v := undef) ?i422 (by kernel_rfl) (by kernel_rfl) (by kernel_rfl) ?q422 ?y422 (by assumption) ?r422; (case i422 => (simp only [List.getElem?_toArray, List.getElem?_cons_succ, List.getElem?_cons_zero]; rfl)); (case q422 => exact fun _ _ _ h => h); (case y422 => exact Or.inr ⟨by rfl, rfl⟩))
      try simp only [Act.put, List.setIfInBounds_toArray, List.set_cons_zero, List.set_cons_succ]
      first | (refine wpAnyH_take (i := 8) (oi := ?o423) (v := ?v423) ?i423 (by kernel_rfl) (by kernel_rfl) (by kernel_rfl) ?q423 ?y423 (by assumption) ?r423; (case i423 => (simp only [List.getElem?_toArray, List.getElem?_cons_succ, List.getElem?_cons_zero]; rfl)); (case q423 => exact fun _ _ _ h => h); (case y423 => (refine Or.inl ⟨by rfl, ?_⟩; intro w hSw; (try dsimp only at hSw); go_simp; (try (with_reducible rfl))))) | (refine wpAnyH_take (i := 8) (oi := ?o424) (v := undef) ?i424 (by kernel_rfl) (by kernel_rfl) (by kernel_rfl) ?q424 ?y424 (by assumption) ?r424; (case i424 => (simp only [List.getElem?_toArray, List.getElem?_cons_succ, List.getElem?_cons_zero]; rfl)); (case q424 => exact fun _ _ _ h => h); (case y424 => exact Or.inr ⟨by rfl, rfl⟩))
      try simp only [Act.put, List.setIfInBounds_toArray, List.set_cons_zero, List.set_cons_succ]
      refine wpAnyH_ready (rs := [9]) (by kernel_rfl) (by simp) ?_
      refine AllReadyH.cons (by (simp only [List.getElem?_toArray, List.getElem?_cons_succ, List.getElem?_cons_zero]; rfl)) (fun K hK => ?_) AllReadyH.nil
      go_simp
      (try dsimp only)
      refine hK.out _ _ ?_ (fun hHeld => ?_)
      · first | go_keep | exact ⟨y2_, y3_⟩
      clear hK K
      try simp only [Act.put, List.setIfInBounds_toArray, List.set_cons_zero, List.set_cons_succ]
      refine wpAnyH_ready (rs := [10]) (by kernel_rfl) (by simp) ?_
      refine AllReadyH.cons (by (simp only [List.getElem?_toArray, List.getElem?_cons_succ, List.getElem?_cons_zero]; rfl)) (fun K hK => ?_) AllReadyH.nil
      go_simp
      (try dsimp only)
      refine hK.out _ _ ?_ (fun hHeld => ?_)
      · first | go_keep | exact ⟨y2_, y3_⟩
      clear hK K
      try simp only [Act.put, List.setIfInBounds_toArray, List.set_cons_zero, List.set_cons_succ]
      refine wpAnyH_done (by kernel_rfl) ?_ _
      obtain ⟨Y, hY⟩ : ∃ Y, Y = (w13.alloc (.cells #[.int .i64 (m : Int), .int .i64 1] TA)).drew := ⟨_, rfl⟩
      rw [← hY]
      have qY : Y.heap[w13.heap.size]? = some (.cells #[.int .i64 (m : Int), .int .i64 1] TA (0, 0)) := by rw [hY]; exact blk_new _ _
      have bY : Below w13.heap.size w13 Y := by rw [hY]; exact (below_alloc (Below.refl _ _) _).drew
      have bYd : Below w13.heap.size w13 Y.drew := bY.drew
      have sY : Y.heap.size = w13.heap.size + 1 := by rw [hY]; exact size_alloc _ _
      have fY := hG.keep HG13.out bYd
      have lY := HL13.out.below bY
      have zY0 := lY.c0
      have zY2 := lY.c2
      have zY3 := lY.c3
      have zY4 := lY.c4
      have belX : Below N0 w w13 := BEL13.out
      have kepX : Kept (fun k => K k ∧ k ≠ r ∧ k ≠ t) w w13 := KEP13.out
      have bNY : Below N0 w Y.drew := belX.trans (bYd.mono (by have := belX.size; omega))
      have happ := RAppend_G (kind := kind) (seq := g.nx) (l := l) (c := c) hG fY HSH.out (m : Int) 1 hkk hsq hBl (HCX.out _ bNY) (by rw [← HN.out]; exact hc) (by rw [← HN.out]; omega) hdd
      rw [← HN.out] at happ
      have HAPP := Lib.hid happ
      have LY := Aside0.mk lY
      have QY := Lib.hid qY
      have BY := Aside0.mk bY
      have HY := Lib.hid hY
      have hwx : IntKind.u64.wrap g.nx = g.nx := IntWalk.u64_in _ (by omega)
      have hwk : IntKind.i64.wrap (1 + (kk : Int)) = 1 + (kk : Int) := IntWalk.i64_in _ (by omega)
      have BX := Aside0.mk belX
      have KX := Lib.hid kepX
      have nq1 : ¬ w13.heap.size = r := by have := blt HL13.out.blk; omega
      have nq2 : ¬ r = w13.heap.size := fun e => nq1 e.symm
      have nq3 : ¬ w.heap.size = r := by have := HLT.out r hr; omega
      have nq4 : ¬ r = w.heap.size := fun e => nq3 e.symm
      have nq5 : ¬ w13.heap.size = w.heap.size := by have := blt X813.out; omega
      have nq6 : ¬ w.heap.size = w13.heap.size := fun e => nq5 e.symm
      clear qY bY bYd fY lY belX kepX bNY happ hY y2_ y3_ hHeld
      go_wp2_with fail
      refine wp_region_held_drew (S := (fun w' => w'.cell? ⟨r, 0, none⟩ = some (.pointer (some ⟨x, 0, none⟩)) ∧ w'.cell? ⟨r, 2, none⟩ = some (.int .i64 (m : Int)) ∧ w'.cell? ⟨r, 3, none⟩ = some (.int .i64 1) ∧ w'.cell? ⟨r, 4, none⟩ = some (.int .u64 (g.nx + 1)))) (by kernel_rfl) ?_ (fun hHeld => ?_)
      · first | exact ⟨zY0, zY2, zY3, zY4⟩ | exact ⟨s0, s2, s3, s4⟩
      first | (refine wpAnyH_take (i := 0) (oi := ?o425) (v := ?v425) ?i425 (by kernel_rfl) (by kernel_rfl) (by kernel_rfl) ?q425 ?y425 (by assumption) ?r425; (case i425 => (simp only [List.getElem?_toArray, List.getElem?_cons_succ, List.getElem?_cons_zero]; rfl)); (case q425 => exact fun _ _ _ h => h); (case y425 => (refine Or.inl ⟨by rfl, ?_⟩; intro w hSw; (try dsimp only at hSw); go_simp; (try (with_reducible rfl))))) | (refine wpAnyH_take (i := 0) (oi := ?o426) (v := undef) ?i426 (by kernel_rfl) (by kernel_rfl) (by kernel_rfl) ?q426 ?y426 (by assumption) ?r426; (case i426 => (simp only [List.getElem?_toArray, List.getElem?_cons_succ, List.getElem?_cons_zero]; rfl)); (case q426 => exact fun _ _ _ h => h); (case y426 => exact Or.inr ⟨by rfl, rfl⟩))
      try simp only [Act.put, List.setIfInBounds_toArray, List.set_cons_zero, List.set_cons_succ]
      first | (refine wpAnyH_take (i := 1) (oi := ?o427) (v := ?v427) ?i427 (by kernel_rfl) (by kernel_rfl) (by kernel_rfl) ?q427 ?y427 (by assumption) ?r427; (case i427 => (simp only [List.getElem?_toArray, List.getElem?_cons_succ, List.getElem?_cons_zero]; rfl)); (case q427 => exact fun _ _ _ h => h); (case y427 => (refine Or.inl ⟨by rfl, ?_⟩; intro w hSw; (try dsimp only at hSw); go_simp; (try (with_reducible rfl))))) | (refine wpAnyH_take (i := 1) (oi := ?o428) (v := undef) ?i428 (by kernel_rfl) (by kernel_rfl) (by kernel_rfl) ?q428 ?y428 (by assumption) ?r428; (case i428 => (simp only [List.getElem?_toArray, List.getElem?_cons_succ, List.getElem?_cons_zero]; rfl)); (case q428 => exact fun _ _ _ h => h); (case y428 => exact Or.inr ⟨by rfl, rfl⟩))
      try simp only [Act.put, List.setIfInBounds_toArray, List.set_cons_zero, List.set_cons_succ]
      first | (refine wpAnyH_take (i := 2) (oi := ?o429) (v := ?v429) ?i429 (by kernel_rfl) (by kernel_rfl) (by kernel_rfl) ?q429 ?y429 (by assumption) ?r429; (case i429 => (simp only [List.getElem?_toArray, List.getElem?_cons_succ, List.getElem?_cons_zero]; rfl)); (case q429 => exact fun _ _ _ h => h); (case y429 => (refine Or.inl ⟨by rfl, ?_⟩; intro w hSw; (try dsimp only at hSw); go_simp; (try (with_reducible rfl))))) | (refine wpAnyH_take (i := 2) (oi := ?o430) (v := undef) ?i430 (by kernel_rfl) (by kernel_rfl) (by kernel_rfl) ?q430 ?y430 (by assumption) ?r430; (case i430 => (simp only [List.getElem?_toArray, List.getElem?_cons_succ, List.getElem?_cons_zero]; rfl)); (case q430 => exact fun _ _ _ h => h); (case y430 => exact Or.inr ⟨by rfl, rfl⟩))
      try simp only [Act.put, List.setIfInBounds_toArray, List.set_cons_zero, List.set_cons_succ]
      first | (refine wpAnyH_take (i := 3) (oi := ?o431) (v := ?v431) ?i431 (by kernel_rfl) (by kernel_rfl) (by kernel_rfl) ?q431 ?y431 (by assumption) ?r431; (case i431 => (simp only [List.getElem?_toArray, List.getElem?_cons_succ, List.getElem?_cons_zero]; rfl)); (case q431 => exact fun _ _ _ h => h); (case y431 => (refine Or.inl ⟨by rfl, ?_⟩; intro w hSw; (try dsimp only at hSw); go_simp; (try (with_reducible rfl))))) | (refine wpAnyH_take (i := 3) (oi := ?o432) (v := undef) ?i432 (by kernel_rfl) (by kernel_rfl) (by kernel_rfl) ?q432 ?y432 (by assumption) ?r432; (case i432 => (simp only [List.getElem?_toArray, List.getElem?_cons_succ, List.getElem?_cons_zero]; rfl)); (case q432 => exact fun _ _ _ h => h); (case y432 => exact Or.inr ⟨by rfl, rfl⟩))
      try simp only [Act.put, List.setIfInBounds_toArray, List.set_cons_zero, List.set_cons_succ]
      first | (refine wpAnyH_take (i := 4) (oi := ?o433) (v := ?v433) ?i433 (by kernel_rfl) (by kernel_rfl) (by kernel_rfl) ?q433 ?y433 (by assumption) ?r433; (case i433 => (simp only [List.getElem?_toArray, List.getElem?_cons_succ, List.getElem?_cons_zero]; rfl)); (case q433 => exact fun _ _ _ h => h); (case y433 => (refine Or.inl ⟨by rfl, ?_⟩; intro w hSw; (try dsimp only at hSw); go_simp; (try (with_reducible rfl))))) | (refine wpAnyH_take (i := 4) (oi := ?o434) (v := undef) ?i434 (by kernel_rfl) (by kernel_rfl) (by kernel_rfl) ?q434 ?y434 (by assumption) ?r434; (case i434 => (simp only [List.getElem?_toArray, List.getElem?_cons_succ, List.getElem?_cons_zero]; rfl)); (case q434 => exact fun _ _ _ h => h); (case y434 => exact Or.inr ⟨by rfl, rfl⟩))
      try simp only [Act.put, List.setIfInBounds_toArray, List.set_cons_zero, List.set_cons_succ]
      first | (refine wpAnyH_take (i := 5) (oi := ?o435) (v := ?v435) ?i435 (by kernel_rfl) (by kernel_rfl) (by kernel_rfl) ?q435 ?y435 (by assumption) ?r435; (case i435 => (simp only [List.getElem?_toArray, List.getElem?_cons_succ, List.getElem?_cons_zero]; rfl)); (case q435 => exact fun _ _ _ h => h); (case y435 => (refine Or.inl ⟨by rfl, ?_⟩; intro w hSw; (try dsimp only at hSw); go_simp; (try (with_reducible rfl))))) | (refine wpAnyH_take (i := 5) (oi := ?o436) (v := undef) ?i436 (by kernel_rfl) (by kernel_rfl) (by kernel_rfl) ?q436 ?y436 (by assumption) ?r436; (case i436 => (simp only [List.getElem?_toArray, List.getElem?_cons_succ, List.getElem?_cons_zero]; rfl)); (case q436 => exact fun _ _ _ h => h); (case y436 => exact Or.inr ⟨by rfl, rfl⟩))
      try simp only [Act.put, List.setIfInBounds_toArray, List.set_cons_zero, List.set_cons_succ]
      first | (refine wpAnyH_take (i := 6) (oi := ?o437) (v := ?v437) ?i437 (by kernel_rfl) (by kernel_rfl) (by kernel_rfl) ?q437 ?y437 (by assumption) ?r437; (case i437 => (simp only [List.getElem?_toArray, List.getElem?_cons_succ, List.getElem?_cons_zero]; rfl)); (case q437 => exact fun _ _ _ h => h); (case y437 => (refine Or.inl ⟨by rfl, ?_⟩; intro w hSw; (try dsimp only at hSw); go_simp; (try (with_reducible rfl))))) | (refine wpAnyH_take (i := 6) (oi := ?o438) (v := undef) ?i438 (by kernel_rfl) (by kernel_rfl) (by kernel_rfl) ?q438 ?y438 (by assumption) ?r438; (case i438 => (simp only [List.getElem?_toArray, List.getElem?_cons_succ, List.getElem?_cons_zero]; rfl)); (case q438 => exact fun _ _ _ h => h); (case y438 => exact Or.inr ⟨by rfl, rfl⟩))
      try simp only [Act.put, List.setIfInBounds_toArray, List.set_cons_zero, List.set_cons_succ]
      first | (refine wpAnyH_take (i := 7) (oi := ?o439) (v := ?v439) ?i439 (by kernel_rfl) (by kernel_rfl) (by kernel_rfl) ?q439 ?y439 (by assumption) ?r439; (case i439 => (simp only [List.getElem?_toArray, List.getElem?_cons_succ, List.getElem?_cons_zero]; rfl)); (case q439 => exact fun _ _ _ h => h); (case y439 => (refine Or.inl ⟨by rfl, ?_⟩; intro w hSw; (try dsimp only at hSw); go_simp; (try (with_reducible rfl))))) | (refine wpAnyH_take (i := 7) (oi := ?o440) (v := undef) ?i440 (by kernel_rfl) (by kernel_rfl) (by kernel_rfl) ?q440 ?y440 (by assumption) ?r440; (case i440 => (simp only [List.getElem?_toArray, List.getElem?_cons_succ, List.getElem?_cons_zero]; rfl)); (case q440 => exact fun _ _ _ h => h); (case y440 => exact Or.inr ⟨by rfl, rfl⟩))
      try simp only [Act.put, List.setIfInBounds_toArray, List.set_cons_zero, List.set_cons_succ]
      first | (refine wpAnyH_take (i := 8) (oi := ?o441) (v := ?v441) ?i441 (by kernel_rfl) (by kernel_rfl) (by kernel_rfl) ?q441 ?y441 (by assumption) ?r441; (case i441 => (simp only [List.getElem?_toArray, List.getElem?_cons_succ, List.getElem?_cons_zero]; rfl)); (case q441 => exact fun _ _ _ h => h); (case y441 => (refine Or.inl ⟨by rfl, ?_⟩; intro w hSw; (try dsimp only at hSw); go_simp; (try (with_reducible rfl))))) | (refine wpAnyH_take (i := 8) (oi := ?o442) (v := undef) ?i442 (by kernel_rfl) (by kernel_rfl) (by kernel_rfl) ?q442 ?y442 (by assumption) ?r442; (case i442 => (simp only [List.getElem?_toArray, List.getElem?_cons_succ, List.getElem?_cons_zero]; rfl)); (case q442 => exact fun _ _ _ h => h); (case y442 => exact Or.inr ⟨by rfl, rfl⟩))
      try simp only [Act.put, List.setIfInBounds_toArray, List.set_cons_zero, List.set_cons_succ]
      first | (refine wpAnyH_take (i := 9) (oi := ?o443) (v := ?v443) ?i443 (by kernel_rfl) (by kernel_rfl) (by kernel_rfl) ?q443 ?y443 (by assumption) ?r443; (case i443 => (simp only [List.getElem?_toArray, List.getElem?_cons_succ, List.getElem?_cons_zero]; rfl)); (case q443 => exact fun _ _ _ h => h); (case y443 => (refine Or.inl ⟨by rfl, ?_⟩; intro w hSw; (try dsimp only at hSw); go_simp; (try (with_reducible rfl))))) | (refine wpAnyH_take (i := 9) (oi := ?o444) (v := undef) ?i444 (by kernel_rfl) (by kernel_rfl) (by kernel_rfl) ?q444 ?y444 (by assumption) ?r444; (case i444 => (simp only [List.getElem?_toArray, List.getElem?_cons_succ, List.getElem?_cons_zero]; rfl)); (case q444 => exact fun _ _ _ h => h); (case y444 => exact Or.inr ⟨by rfl, rfl⟩))
      try simp only [Act.put, List.setIfInBounds_toArray, List.set_cons_zero, List.set_cons_succ]
      first | (refine wpAnyH_take (i := 10) (oi := ?o445) (v := ?v445) ?i445 (by kernel_rfl) (by kernel_rfl) (by kernel_rfl) ?q445 ?y445 (by assumption) ?r445; (case i445 => (simp only [List.getElem?_toArray, List.getElem?_cons_succ, List.getElem?_cons_zero]; rfl)); (case q445 => exact fun _ _ _ h => h); (case y445 => (refine Or.inl ⟨by rfl, ?_⟩; intro w hSw; (try dsimp only at hSw); go_simp; (try (with_reducible rfl))))) | (refine wpAnyH_take (i := 10) (oi := ?o446) (v := undef) ?i446 (by kernel_rfl) (by kernel_rfl) (by kernel_rfl) ?q446 ?y446 (by assumption) ?r446; (case i446 => (simp only [List.getElem?_toArray, List.getElem?_cons_succ, List.getElem?_cons_zero]; rfl)); (case q446 => exact fun _ _ _ h => h); (case y446 => exact Or.inr ⟨by rfl, rfl⟩))
      try simp only [Act.put, List.setIfInBounds_toArray, List.set_cons_zero, List.set_cons_succ]
      first | (refine wpAnyH_take (i := 11) (oi := ?o447) (v := ?v447) ?i447 (by kernel_rfl) (by kernel_rfl) (by kernel_rfl) ?q447 ?y447 (by assumption) ?r447; (case i447 => (simp only [List.getElem?_toArray, List.getElem?_cons_succ, List.getElem?_cons_zero]; rfl)); (case q447 => exact fun _ _ _ h => h); (case y447 => (refine Or.inl ⟨by rfl, ?_⟩; intro w hSw; (try dsimp only at hSw); go_simp; (try (with_reducible rfl))))) | (refine wpAnyH_take (i := 11) (oi := ?o448) (v := undef) ?i448 (by kernel_rfl) (by kernel_rfl) (by kernel_rfl) ?q448 ?y448 (by assumption) ?r448; (case i448 => (simp only [List.getElem?_toArray, List.getElem?_cons_succ, List.getElem?_cons_zero]; rfl)); (case q448 => exact fun _ _ _ h => h); (case y448 => exact Or.inr ⟨by rfl, rfl⟩))
      try simp only [Act.put, List.setIfInBounds_toArray, List.set_cons_zero, List.set_cons_succ]
      first | (refine wpAnyH_take (i := 12) (oi := ?o449) (v := ?v449) ?i449 (by kernel_rfl) (by kernel_rfl) (by kernel_rfl) ?q449 ?y449 (by assumption) ?r449; (case i449 => (simp only [List.getElem?_toArray, List.getElem?_cons_succ, List.getElem?_cons_zero]; rfl)); (case q449 => exact fun _ _ _ h => h); (case y449 => (refine Or.inl ⟨by rfl, ?_⟩; intro w hSw; (try dsimp only at hSw); go_simp; (try (with_reducible rfl))))) | (refine wpAnyH_take (i := 12) (oi := ?o450) (v := undef) ?i450 (by kernel_rfl) (by kernel_rfl) (by kernel_rfl) ?q450 ?y450 (by assumption) ?r450; (case i450 => (simp only [List.getElem?_toArray, List.getElem?_cons_succ, List.getElem?_cons_zero]; rfl)); (case q450 => exact fun _ _ _ h => h); (case y450 => exact Or.inr ⟨by rfl, rfl⟩))
      try simp only [Act.put, List.setIfInBounds_toArray, List.set_cons_zero, List.set_cons_succ]
      first | (refine wpAnyH_take (i := 13) (oi := ?o451) (v := ?v451) ?i451 (by kernel_rfl) (by kernel_rfl) (by kernel_rfl) ?q451 ?y451 (by assumption) ?r451; (case i451 => (simp only [List.getElem?_toArray, List.getElem?_cons_succ, List.getElem?_cons_zero]; rfl)); (case q451 => exact fun _ _ _ h => h); (case y451 => (refine Or.inl ⟨by rfl, ?_⟩; intro w hSw; (try dsimp only at hSw); go_simp; (try (with_reducible rfl))))) | (refine wpAnyH_take (i := 13) (oi := ?o452) (v := undef) ?i452 (by kernel_rfl) (by kernel_rfl) (by kernel_rfl) ?q452 ?y452 (by assumption) ?r452; (case i452 => (simp only [List.getElem?_toArray, List.getElem?_cons_succ, List.getElem?_cons_zero]; rfl)); (case q452 => exact fun _ _ _ h => h); (case y452 => exact Or.inr ⟨by rfl, rfl⟩))
      try simp only [Act.put, List.setIfInBounds_toArray, List.set_cons_zero, List.set_cons_succ]
      first | (refine wpAnyH_take (i := 14) (oi := ?o453) (v := ?v453) ?i453 (by kernel_rfl) (by kernel_rfl) (by kernel_rfl) ?q453 ?y453 (by assumption) ?r453; (case i453 => (simp only [List.getElem?_toArray, List.getElem?_cons_succ, List.getElem?_cons_zero]; rfl)); (case q453 => exact fun _ _ _ h => h); (case y453 => (refine Or.inl ⟨by rfl, ?_⟩; intro w hSw; (try dsimp only at hSw); go_simp; (try (with_reducible rfl))))) | (refine wpAnyH_take (i := 14) (oi := ?o454) (v := undef) ?i454 (by kernel_rfl) (by kernel_rfl) (by kernel_rfl) ?q454 ?y454 (by assumption) ?r454; (case i454 => (simp only [List.getElem?_toArray, List.getElem?_cons_succ, List.getElem?_cons_zero]; rfl)); (case q454 => exact fun _ _ _ h => h); (case y454 => exact Or.inr ⟨by rfl, rfl⟩))
      try simp only [Act.put, List.setIfInBounds_toArray, List.set_cons_zero, List.set_cons_succ]
      first | (refine wpAnyH_take (i := 15) (oi := ?o455) (v := ?v455) ?i455 (by kernel_rfl) (by kernel_rfl) (by kernel_rfl) ?q455 ?y455 (by assumption) ?r455; (case i455 => (simp only [List.getElem?_toArray, List.getElem?_cons_succ, List.getElem?_cons_zero]; rfl)); (case q455 => exact fun _ _ _ h => h); (case y455 => (refine Or.inl ⟨by rfl, ?_⟩; intro w hSw; (try dsimp only at hSw); go_simp; (try (with_reducible rfl))))) | (refine wpAnyH_take (i := 15) (oi := ?o456) (v := undef) ?i456 (by kernel_rfl) (by kernel_rfl) (by kernel_rfl) ?q456 ?y456 (by assumption) ?r456; (case i456 => (simp only [List.getElem?_toArray, List.getElem?_cons_succ, List.getElem?_cons_zero]; rfl)); (case q456 => exact fun _ _ _ h => h); (case y456 => exact Or.inr ⟨by rfl, rfl⟩))
      try simp only [Act.put, List.setIfInBounds_toArray, List.set_cons_zero, List.set_cons_succ]
      first | (refine wpAnyH_take (i := 16) (oi := ?o457) (v := ?v457) ?i457 (by kernel_rfl) (by kernel_rfl) (by kernel_rfl) ?q457 ?y457 (by assumption) ?r457; (case i457 => (simp only [List.getElem?_toArray, List.getElem?_cons_succ, List.getElem?_cons_zero]; rfl)); (case q457 => exact fun _ _ _ h => h); (case y457 => (refine Or.inl ⟨by rfl, ?_⟩; intro w hSw; (try dsimp only at hSw); go_simp; (try (with_reducible rfl))))) | (refine wpAnyH_take (i := 16) (oi := ?o458) (v := undef) ?i458 (by kernel_rfl) (by kernel_rfl) (by kernel_rfl) ?q458 ?y458 (by assumption) ?r458; (case i458 => (simp only [List.getElem?_toArray, List.getElem?_cons_succ, List.getElem?_cons_zero]; rfl)); (case q458 => exact fun _ _ _ h => h); (case y458 => exact Or.inr ⟨by rfl, rfl⟩))
      try simp only [Act.put, List.setIfInBounds_toArray, List.set_cons_zero, List.set_cons_succ]
      first | (refine wpAnyH_take (i := 17) (oi := ?o459) (v := ?v459) ?i459 (by kernel_rfl) (by kernel_rfl) (by kernel_rfl) ?q459 ?y459 (by assumption) ?r459; (case i459 => (simp only [List.getElem?_toArray, List.getElem?_cons_succ, List.getElem?_cons_zero]; rfl)); (case q459 => exact fun _ _ _ h => h); (case y459 => (refine Or.inl ⟨by rfl, ?_⟩; intro w hSw; (try dsimp only at hSw); go_simp; (try (with_reducible rfl))))) | (refine wpAnyH_take (i := 17) (oi := ?o460) (v := undef) ?i460 (by kernel_rfl) (by kernel_rfl) (by kernel_rfl) ?q460 ?y460 (by assumption) ?r460; (case i460 => (simp only [List.getElem?_toArray, List.getElem?_cons_succ, List.getElem?_cons_zero]; rfl)); (case q460 => exact fun _ _ _ h => h); (case y460 => exact Or.inr ⟨by rfl, rfl⟩))
      try simp only [Act.put, List.setIfInBounds_toArray, List.set_cons_zero, List.set_cons_succ]
      first | (refine wpAnyH_take (i := 18) (oi := ?o461) (v := ?v461) ?i461 (by kernel_rfl) (by kernel_rfl) (by kernel_rfl) ?q461 ?y461 (by assumption) ?r461; (case i461 => (simp only [List.getElem?_toArray, List.getElem?_cons_succ, List.getElem?_cons_zero]; rfl)); (case q461 => exact fun _ _ _ h => h); (case y461 => (refine Or.inl ⟨by rfl, ?_⟩; intro w hSw; (try dsimp only at hSw); go_simp; (try (with_reducible rfl))))) | (refine wpAnyH_take (i := 18) (oi := ?o462) (v := undef) ?i462 (by kernel_rfl) (by kernel_rfl) (by kernel_rfl) ?q462 ?y462 (by assumption) ?r462; (case i462 => (simp only [List.getElem?_toArray, List.getElem?_cons_succ, List.getElem?_cons_zero]; rfl)); (case q462 => exact fun _ _ _ h => h); (case y462 => exact Or.inr ⟨by rfl, rfl⟩))
      try simp only [Act.put, List.setIfInBounds_toArray, List.set_cons_zero, List.set_cons_succ]
      refine wpAnyH_ready (rs := [19]) (by kernel_rfl) (by simp) ?_
      refine AllReadyH.cons (by (simp only [List.getElem?_toArray, List.getElem?_cons_succ, List.getElem?_cons_zero]; rfl)) (fun K hK => ?_) AllReadyH.nil
      go_simp
      (go_at_call 36; (with_reducible refine HAPP.out.mono ?_); rintro e w10 ⟨rfl, hf10, hb10, hk10⟩; have hl10 : RLog r t x cap rest { st := g8.st.set m 1, op := (m : Int), pg := 1, nx := g.nx + 1 } w10 := LY.out.step (hk10 r (.inl (.inl hr))) (hk10 t (.inl (.inl ht))); have s0 := hl10.c0; have s2 := hl10.c2; have s3 := hl10.c3; have s4 := hl10.c4; have fr3 := hl10.fr 3; have x8 := (hk10 w.heap.size (.inl (.inr ⟨Nat.le_refl _, by omega⟩))).trans ((BY.out.block _ (blt X813.out)).trans X813.out); have x12 := (hk10 w13.heap.size (.inr ⟨Nat.le_refl _, by show _ < Y.heap.size; omega⟩)).trans QY.out; have m0 : w10.cell? ⟨w.heap.size, 0, none⟩ = some (.int .i64 0) := bcell x8 0; have m1 : w10.cell? ⟨w.heap.size, 1, none⟩ = some (.int .i64 0) := bcell x8 1; have mf : ∀ j, w10.frozen? ⟨w.heap.size, j, none⟩ = false := (fun j => bfrozen x8 j); have t0 : w10.cell? ⟨w13.heap.size, 0, none⟩ = some (.int .i64 (m : Int)) := bcell x12 0; have t1 : w10.cell? ⟨w13.heap.size, 1, none⟩ = some (.int .i64 1) := bcell x12 1; have HL10 := Aside0.mk hl10; have X810 := Lib.hid x8; have HG10 := Aside0.mk hf10; have HB10 := Aside0.mk (BX.out.trans ((show Below N0 w13 Y.drew from (BY.out.drew).mono (by have := BX.out.size; omega)).trans hb10)); have HKR := Lib.hid hk10; clear hl10 hf10 hb10 hk10 x8 x12)
      (try dsimp only)
      refine hK.out _ _ ?_ (fun hHeld => ?_)
      · first | exact ⟨zY0, zY2, zY3, zY4⟩ | exact ⟨s0, s2, s3, s4⟩
      clear hK K
      try simp only [Act.put, List.setIfInBounds_toArray, List.set_cons_zero, List.set_cons_succ]
      refine wpAnyH_done (by kernel_rfl) ?_ _
      go_wp2_with fail
      have HK10 := Lib.hid (show Kept (fun k => K k ∧ k ≠ r ∧ k ≠ t) w w10 from fun k hk => (HKR.out k (.inl (.inl hk.1))).trans ((BY.out.block k (by have := HLT.out k hk.1; have := BX.out.size; omega)).trans (KX.out k hk)))
      have hl11 := HL10.out.setPg (1 + (kk : Int))
      have hu11 := Upd.setCell w10 (p := ⟨r, 3, none⟩) (S := fun k => k = r) rfl (.int .i64 (1 + (kk : Int)))
      have hf11 := hSt _ _ w10 _ r _ _ _ HG10.out (.inl (.inl hr)) HL10.out.blk hl11.blk (by decide) hu11
      have s10' := hG.size HG10.out
      have hb11 := HB10.out.trans (hu11.below s10' (fun k hk => by rw [hk]; exact hNr))
      have x811 := (hu11.block w.heap.size (blt X810.out) (fun e => nq3 e)).trans X810.out
      have hk11 : Kept (fun k => K k ∧ k ≠ r ∧ k ≠ t) w (w10.setCell ⟨r, 3, none⟩ (.int .i64 (1 + (kk : Int)))) := fun k hk => (hu11.block k (hG.lt HG10.out k (.inl (.inl hk.1))) hk.2.1).trans (HK10.out k hk)
      obtain ⟨w9, hw9⟩ : ∃ w9, w9 = ((w10.setCell ⟨r, 3, none⟩ (.int .i64 (1 + (kk : Int)))).setCell ⟨w.heap.size, 0, none⟩ (.int .i64 (m : Int))).setCell ⟨w.heap.size, 1, none⟩ (.int .i64 1) := ⟨_, rfl⟩
      rw [← hw9]
      obtain ⟨r8, hf9, hl9, hb9, hk9⟩ := rput_end hG hSt hf11 hl11 hr ht HLT.out hsz (Nat.le_refl _) x811 (.inl (.inr ⟨Nat.le_refl _, by omega⟩)) (fun k hk => .inl (.inl hk)) hb11 hk11 hw9
      have r0 := bcell r8 0
      have r1 := bcell r8 1
      exact bodyPost_ret (v := .tuple #[.agg #[.int .i64 (m : Int), .int .i64 1], .int .i64 0]) (by simp [results, Try.results69, go_sem, r0, r1]) rfl ⟨rfl, hf9, by rw [← HKP.out, ← HG8E.out]; exact hl9, hb9, hk9⟩
set_option maxHeartbeats 4000000 in
set_option maxRecDepth 100000 in
theorem RPut_turnN (hG : RefFrame N0 x s G) (hSt : ∀ ps, Stays (fun K w => G K ps w)) (h : G K ps w) (hl : RLog r t x cap rest g w) (hr : K r) (ht : K t) (hNr : N0 ≤ r) (hNt : N0 ≤ t) (hsh : ShapeOk s) (hc : l.length ≤ c) (hm : l.length ≤ 4096) (hk : kind ≠ 1) (hb1 : (kpg s l.length : Int) + 1 ≤ s.2.1) (ho : 0 ≤ g.op) (hp0 : 0 ≤ g.pg) (hp1 : g.pg ≤ 100000) (hb2 : s.2.1 < g.pg + (kpg s l.length : Int)) (hsl : g.st.length < 1000) (hol : g.op < (g.st.length : Int)) (hcn : ¬ (cnt 0 g.st : Int) < need) (hkk : KindOk kind) (hBl : Byt l) (hCx : ∀ X, Below N0 w X → kB.C X A l.length l) (hd0 : ps.length < 900000) {m : Nat} (hdd : (appP s ps (m : Int) 0 0 (rec 1 g.nx [])).length < 900000) (hm0 : (rsealG g).st[m]? = some 0) (hmf : ∀ i, i < m → (rsealG g).st[i]? ≠ some 0) (hsq : SeqOk g.nx) (hn1 : 0 ≤ g.nx) (hn2 : g.nx < 1000000) : Calls Try.prog 69 #[.pointer (some ⟨r, 0, none⟩), .int .u8 kind, .slice A l.length c, .int .i64 need] w (RPutPost N0 r t x cap rest G K w ((m : Int), 1) 0 (appP s (appP s ps (m : Int) 0 0 (rec 1 g.nx [])) (m : Int) 1 l.length (rec kind g.nx l)) { st := (rsealG g).st.set m 1, op := (m : Int), pg := 1 + (kpg s l.length : Int), nx := g.nx + 1 }) := by
  obtain ⟨n, hn⟩ : ∃ n, n = l.length := ⟨_, rfl⟩
  have hsz := hG.size h
  have hlt := fun k hk => hG.lt h k hk
  obtain ⟨okx, hX⟩ := hG.ref h
  obtain ⟨vx, hxb, _⟩ := hX.blk
  obtain ⟨W0, hW0⟩ : ∃ W0, W0 = w.alloc (.cells #[.int .i64 0, .int .i64 0] TA) := ⟨_, rfl⟩
  have wb0 : Below w.heap.size w W0 := by rw [hW0]; exact below_alloc (Below.refl _ _) _
  have wz0 : W0.heap.size = w.heap.size + 1 := by rw [hW0]; exact size_alloc _ _
  have hxb0 := (wb0.block _ (blt hxb)).trans hxb
  have u0 : W0.cell? ⟨x, 0, none⟩ = some (.int .i64 s.1) := bcell hxb0 0
  have u1 : W0.cell? ⟨x, 1, none⟩ = some (.int .i64 s.2.1) := bcell hxb0 1
  have u2 : W0.cell? ⟨x, 2, none⟩ = some (.int .i64 s.2.2) := bcell hxb0 2
  have k0 := (hl.below wb0).c0
  obtain ⟨W, hW⟩ : ∃ W, W = W0.alloc (.cells #[.int .i64 s.1, .int .i64 s.2.1, .int .i64 s.2.2] TSh) := ⟨_, rfl⟩
  obtain ⟨q8, q10⟩ := pair_blk w (.cells #[.int .i64 0, .int .i64 0] TA) (.cells #[.int .i64 s.1, .int .i64 s.2.1, .int .i64 s.2.2] TSh)
  rw [← hW0, ← hW] at q8 q10
  have y2 : W.cell? ⟨w.heap.size + 1, 2, none⟩ = some (.int .i64 s.2.2) := bcell q10 2
  have wb : Below w.heap.size w W := by rw [hW]; exact below_alloc wb0 _
  have wsz : W.heap.size = w.heap.size + 2 := by rw [hW, size_alloc, wz0]
  have hf1 := hG.keep h wb
  have hl1 := hl.below wb
  rw [← hn] at hc hm
  obtain ⟨kk, hkp⟩ : ∃ kk, kk = kpg s n := ⟨_, rfl⟩
  have hkb : kk ≤ 257 := by rw [hkp]; exact (kpg_bd hsh hm).2
  have hpg : ∀ X : World, Calls Try.prog 42 #[.int .i64 (n : Int), .int .i64 s.2.2] X fun e w' => e = .returned (.int .i64 (kk : Int)) ∧ Below X.heap.size X w' := fun X => by
    rw [hkp]
    exact RPages_ok n s hsh hm X
  have s10 := hsh.b0
  have s11 := hsh.b1
  have HPG := Lib.hid hpg
  have HG1 := Aside0.mk hf1
  have HL1 := Aside0.mk hl1
  have HW := Lib.hid hW
  have HW0 := Lib.hid hW0
  have Q8 := Lib.hid q8
  have Q10 := Lib.hid q10
  have WB := Aside0.mk wb
  have HN := Lib.hid hn
  have HKP := Lib.hid hkp
  have HLT := Lib.hid hlt
  have e_n : decide ((n : Int) > 4096) = false := decide_eq_false (by omega)
  have kw1 : IntKind.i64.wrap ((kk : Int) + 1) = (kk : Int) + 1 := IntWalk.i64_in _ (by omega)
  rw [← hn]
  clear h hl hn hlt hf1 hl1 hX hxb hxb0 wb0 hW hW0 q8 q10 wb hkp hpg
  rw [← HN.out, ← HKP.out] at hb1
  have e_b : decide ((kk : Int) + 1 > s.2.1) = false := decide_eq_false (by omega)
  have e_k : (kind == 1) = false := by simpa using hk
  clear hk
  rw [← HN.out, ← HKP.out] at hb2
  have e_o : decide (g.op < 0) = false := decide_eq_false (by omega)
  have kw2 : IntKind.i64.wrap (g.pg + (kk : Int)) = g.pg + (kk : Int) := IntWalk.i64_in _ (by omega)
  have e_p : decide (g.pg + (kk : Int) > s.2.1) = true := decide_eq_true (by omega)
  have HOL := Lib.hid hol
  have HM0 := Lib.hid hm0
  have HMF := Lib.hid hmf
  obtain ⟨nl, hnl⟩ : ∃ nl, nl = g.st.length := ⟨_, rfl⟩
  have hnl2 : nl < 1000 := by omega
  have HNL := Lib.hid hnl
  have BBW := Aside0.mk WB.out
  clear hol hm0 hmf hnl
  obtain ⟨c0, hc0⟩ : ∃ c0, c0 = cnt 0 g.st := ⟨_, rfl⟩
  rw [← hc0] at hcn
  have HC0 := Lib.hid hc0
  have HSL := Lib.hid hsl
  clear hc0 hsl
  have e_c : decide ((c0 : Int) < need) = false := decide_eq_false hcn
  have HCX := Lib.hid hCx
  have HSH := Lib.hid hsh
  clear hCx
  go_enter Try.func69, Try.ntmps69
  go_wp2_with (first
    | (rw [← HW0.out])
    | (rw [← HW.out])
    | (go_at_call 42; (with_reducible refine (HPG.out _).mono ?_); rintro e w4 ⟨rfl, hb4⟩; have HB4 := Aside0.mk hb4; have x8 := (hb4.block _ (blt Q8.out)).trans Q8.out; have x10 := (hb4.block _ (blt Q10.out)).trans Q10.out; have hl4 := HL1.out.below hb4; have k04 := hl4.c0; have k14 := hl4.c1; have k24 := hl4.c2; have k34 := hl4.c3; have m0 : w4.cell? ⟨w.heap.size, 0, none⟩ = some (.int .i64 0) := bcell x8 0; have m1 : w4.cell? ⟨w.heap.size, 1, none⟩ = some (.int .i64 0) := bcell x8 1; have mf : ∀ j, w4.frozen? ⟨w.heap.size, j, none⟩ = false := (fun j => bfrozen x8 j); have y1 : w4.cell? ⟨w.heap.size + 1, 1, none⟩ = some (.int .i64 s.2.1) := bcell x10 1; have X84 := Lib.hid x8; have X104 := Lib.hid x10; have HL4 := Aside0.mk hl4; have HG4 := Aside0.mk (hG.below HG1.out hb4); clear hb4 x8 x10 hl4)
    | fail)
  have e_u : decide ((n : Int) > 4096) = false := e_n
  refine wp_region_held_drew (S := (fun w' => w'.cell? ⟨r, 2, none⟩ = some (.int .i64 g.op) ∧ w'.cell? ⟨r, 3, none⟩ = some (.int .i64 g.pg) ∧ w'.cell? ⟨w.heap.size + 1, 1, none⟩ = some (.int .i64 s.2.1))) (by kernel_rfl) ?_ (fun hHeld => ?_)
  · first | go_keep | exact ⟨k24, k34, y1⟩
  first | (refine wpAnyH_take (i := 0) (oi := ?o463) (v := ?v463) ?i463 (by kernel_rfl) (by kernel_rfl) (by kernel_rfl) ?q463 ?y463 (by assumption) ?r463; (case i463 => (simp only [List.getElem?_toArray, List.getElem?_cons_succ, List.getElem?_cons_zero]; rfl)); (case q463 => exact fun _ _ _ h => h); (case y463 => (refine Or.inl ⟨by rfl, ?_⟩; intro w hSw; (try dsimp only at hSw); go_simp; (try (with_reducible rfl))))) | (refine wpAnyH_take (i := 0) (oi := ?o464) (v := undef) ?i464 (by kernel_rfl) (by kernel_rfl) (by kernel_rfl) ?q464 ?y464 (by assumption) ?r464; (case i464 => (simp only [List.getElem?_toArray, List.getElem?_cons_succ, List.getElem?_cons_zero]; rfl)); (case q464 => exact fun _ _ _ h => h); (case y464 => exact Or.inr ⟨by rfl, rfl⟩))
  try simp only [Act.put, List.setIfInBounds_toArray, List.set_cons_zero, List.set_cons_succ]
  first | (refine wpAnyH_take (i := 1) (oi := ?o465) (v := ?v465) ?i465 (by kernel_rfl) (by kernel_rfl) (by kernel_rfl) ?q465 ?y465 (by assumption) ?r465; (case i465 => (simp only [List.getElem?_toArray, List.getElem?_cons_succ, List.getElem?_cons_zero]; rfl)); (case q465 => exact fun _ _ _ h => h); (case y465 => (refine Or.inl ⟨by rfl, ?_⟩; intro w hSw; (try dsimp only at hSw); go_simp; (try (with_reducible rfl))))) | (refine wpAnyH_take (i := 1) (oi := ?o466) (v := undef) ?i466 (by kernel_rfl) (by kernel_rfl) (by kernel_rfl) ?q466 ?y466 (by assumption) ?r466; (case i466 => (simp only [List.getElem?_toArray, List.getElem?_cons_succ, List.getElem?_cons_zero]; rfl)); (case q466 => exact fun _ _ _ h => h); (case y466 => exact Or.inr ⟨by rfl, rfl⟩))
  try simp only [Act.put, List.setIfInBounds_toArray, List.set_cons_zero, List.set_cons_succ]
  first | (refine wpAnyH_take (i := 2) (oi := ?o467) (v := ?v467) ?i467 (by kernel_rfl) (by kernel_rfl) (by kernel_rfl) ?q467 ?y467 (by assumption) ?r467; (case i467 => (simp only [List.getElem?_toArray, List.getElem?_cons_succ, List.getElem?_cons_zero]; rfl)); (case q467 => exact fun _ _ _ h => h); (case y467 => (refine Or.inl ⟨by rfl, ?_⟩; intro w hSw; (try dsimp only at hSw); go_simp; (try (with_reducible rfl))))) | (refine wpAnyH_take (i := 2) (oi := ?o468) (v := undef) ?i468 (by kernel_rfl) (by kernel_rfl) (by kernel_rfl) ?q468 ?y468 (by assumption) ?r468; (case i468 => (simp only [List.getElem?_toArray, List.getElem?_cons_succ, List.getElem?_cons_zero]; rfl)); (case q468 => exact fun _ _ _ h => h); (case y468 => exact Or.inr ⟨by rfl, rfl⟩))
  try simp only [Act.put, List.setIfInBounds_toArray, List.set_cons_zero, List.set_cons_succ]
  first | (refine wpAnyH_take (i := 3) (oi := ?o469) (v := ?v469) ?i469 (by kernel_rfl) (by kernel_rfl) (by kernel_rfl) ?q469 ?y469 (by assumption) ?r469; (case i469 => (simp only [List.getElem?_toArray, List.getElem?_cons_succ, List.getElem?_cons_zero]; rfl)); (case q469 => exact fun _ _ _ h => h); (case y469 => (refine Or.inl ⟨by rfl, ?_⟩; intro w hSw; (try dsimp only at hSw); go_simp; (try (with_reducible rfl))))) | (refine wpAnyH_take (i := 3) (oi := ?o470) (v := undef) ?i470 (by kernel_rfl) (by kernel_rfl) (by kernel_rfl) ?q470 ?y470 (by assumption) ?r470; (case i470 => (simp only [List.getElem?_toArray, List.getElem?_cons_succ, List.getElem?_cons_zero]; rfl)); (case q470 => exact fun _ _ _ h => h); (case y470 => exact Or.inr ⟨by rfl, rfl⟩))
  try simp only [Act.put, List.setIfInBounds_toArray, List.set_cons_zero, List.set_cons_succ]
  first | (refine wpAnyH_take (i := 4) (oi := ?o471) (v := ?v471) ?i471 (by kernel_rfl) (by kernel_rfl) (by kernel_rfl) ?q471 ?y471 (by assumption) ?r471; (case i471 => (simp only [List.getElem?_toArray, List.getElem?_cons_succ, List.getElem?_cons_zero]; rfl)); (case q471 => exact fun _ _ _ h => h); (case y471 => (refine Or.inl ⟨by rfl, ?_⟩; intro w hSw; (try dsimp only at hSw); go_simp; (try (with_reducible rfl))))) | (refine wpAnyH_take (i := 4) (oi := ?o472) (v := undef) ?i472 (by kernel_rfl) (by kernel_rfl) (by kernel_rfl) ?q472 ?y472 (by assumption) ?r472; (case i472 => (simp only [List.getElem?_toArray, List.getElem?_cons_succ, List.getElem?_cons_zero]; rfl)); (case q472 => exact fun _ _ _ h => h); (case y472 => exact Or.inr ⟨by rfl, rfl⟩))
  try simp only [Act.put, List.setIfInBounds_toArray, List.set_cons_zero, List.set_cons_succ]
  first | (refine wpAnyH_take (i := 5) (oi := ?o473) (v := ?v473) ?i473 (by kernel_rfl) (by kernel_rfl) (by kernel_rfl) ?q473 ?y473 (by assumption) ?r473; (case i473 => (simp only [List.getElem?_toArray, List.getElem?_cons_succ, List.getElem?_cons_zero]; rfl)); (case q473 => exact fun _ _ _ h => h); (case y473 => (refine Or.inl ⟨by rfl, ?_⟩; intro w hSw; (try dsimp only at hSw); go_simp; (try (with_reducible rfl))))) | (refine wpAnyH_take (i := 5) (oi := ?o474) (v := undef) ?i474 (by kernel_rfl) (by kernel_rfl) (by kernel_rfl) ?q474 ?y474 (by assumption) ?r474; (case i474 => (simp only [List.getElem?_toArray, List.getElem?_cons_succ, List.getElem?_cons_zero]; rfl)); (case q474 => exact fun _ _ _ h => h); (case y474 => exact Or.inr ⟨by rfl, rfl⟩))
  try simp only [Act.put, List.setIfInBounds_toArray, List.set_cons_zero, List.set_cons_succ]
  first | (refine wpAnyH_take (i := 6) (oi := ?o475) (v := ?v475) ?i475 (by kernel_rfl) (by kernel_rfl) (by kernel_rfl) ?q475 ?y475 (by assumption) ?r475; (case i475 => (simp only [List.getElem?_toArray, List.getElem?_cons_succ, List.getElem?_cons_zero]; rfl)); (case q475 => exact fun _ _ _ h => h); (case y475 => (refine Or.inl ⟨by rfl, ?_⟩; intro w hSw; (try dsimp only at hSw); go_simp; (try (with_reducible rfl))))) | (refine wpAnyH_take (i := 6) (oi := ?o476) (v := undef) ?i476 (by kernel_rfl) (by kernel_rfl) (by kernel_rfl) ?q476 ?y476 (by assumption) ?r476; (case i476 => (simp only [List.getElem?_toArray, List.getElem?_cons_succ, List.getElem?_cons_zero]; rfl)); (case q476 => exact fun _ _ _ h => h); (case y476 => exact Or.inr ⟨by rfl, rfl⟩))
  try simp only [Act.put, List.setIfInBounds_toArray, List.set_cons_zero, List.set_cons_succ]
  first | (refine wpAnyH_take (i := 7) (oi := ?o477) (v := ?v477) ?i477 (by kernel_rfl) (by kernel_rfl) (by kernel_rfl) ?q477 ?y477 (by assumption) ?r477; (case i477 => (simp only [List.getElem?_toArray, List.getElem?_cons_succ, List.getElem?_cons_zero]; rfl)); (case q477 => exact fun _ _ _ h => h); (case y477 => (refine Or.inl ⟨by rfl, ?_⟩; intro w hSw; (try dsimp only at hSw); go_simp; (try (with_reducible rfl))))) | (refine wpAnyH_take (i := 7) (oi := ?o478) (v := undef) ?i478 (by kernel_rfl) (by kernel_rfl) (by kernel_rfl) ?q478 ?y478 (by assumption) ?r478; (case i478 => (simp only [List.getElem?_toArray, List.getElem?_cons_succ, List.getElem?_cons_zero]; rfl)); (case q478 => exact fun _ _ _ h => h); (case y478 => exact Or.inr ⟨by rfl, rfl⟩))
  try simp only [Act.put, List.setIfInBounds_toArray, List.set_cons_zero, List.set_cons_succ]
  first | (refine wpAnyH_take (i := 8) (oi := ?o479) (v := ?v479) ?i479 (by kernel_rfl) (by kernel_rfl) (by kernel_rfl) ?q479 ?y479 (by assumption) ?r479; (case i479 => (simp only [List.getElem?_toArray, List.getElem?_cons_succ, List.getElem?_cons_zero]; rfl)); (case q479 => exact fun _ _ _ h => h); (case y479 => (refine Or.inl ⟨by rfl, ?_⟩; intro w hSw; (try dsimp only at hSw); go_simp; (try (with_reducible rfl))))) | (refine wpAnyH_take (i := 8) (oi := ?o480) (v := undef) ?i480 (by kernel_rfl) (by kernel_rfl) (by kernel_rfl) ?q480 ?y480 (by assumption) ?r480; (case i480 => (simp only [List.getElem?_toArray, List.getElem?_cons_succ, List.getElem?_cons_zero]; rfl)); (case q480 => exact fun _ _ _ h => h); (case y480 => exact Or.inr ⟨by rfl, rfl⟩))
  try simp only [Act.put, List.setIfInBounds_toArray, List.set_cons_zero, List.set_cons_succ]
  first | (refine wpAnyH_take (i := 9) (oi := ?o481) (v := ?v481) ?i481 (by kernel_rfl) (by kernel_rfl) (by kernel_rfl) ?q481 ?y481 (by assumption) ?r481; (case i481 => (simp only [List.getElem?_toArray, List.getElem?_cons_succ, List.getElem?_cons_zero]; rfl)); (case q481 => exact fun _ _ _ h => h); (case y481 => (refine Or.inl ⟨by rfl, ?_⟩; intro w hSw; (try dsimp only at hSw); go_simp; (try (with_reducible rfl))))) | (refine wpAnyH_take (i := 9) (oi := ?o482) (v := undef) ?i482 (by kernel_rfl) (by kernel_rfl) (by kernel_rfl) ?q482 ?y482 (by assumption) ?r482; (case i482 => (simp only [List.getElem?_toArray, List.getElem?_cons_succ, List.getElem?_cons_zero]; rfl)); (case q482 => exact fun _ _ _ h => h); (case y482 => exact Or.inr ⟨by rfl, rfl⟩))
  try simp only [Act.put, List.setIfInBounds_toArray, List.set_cons_zero, List.set_cons_succ]
  first | (refine wpAnyH_take (i := 10) (oi := ?o483) (v := ?v483) ?i483 (by kernel_rfl) (by kernel_rfl) (by kernel_rfl) ?q483 ?y483 (by assumption) ?r483; (case i483 => (simp only [List.getElem?_toArray, List.getElem?_cons_succ, List.getElem?_cons_zero]; rfl)); (case q483 => exact fun _ _ _ h => h); (case y483 => (refine Or.inl ⟨by rfl, ?_⟩; intro w hSw; (try dsimp only at hSw); go_simp; (try (with_reducible rfl))))) | (refine wpAnyH_take (i := 10) (oi := ?o484) (v := undef) ?i484 (by kernel_rfl) (by kernel_rfl) (by kernel_rfl) ?q484 ?y484 (by assumption) ?r484; (case i484 => (simp only [List.getElem?_toArray, List.getElem?_cons_succ, List.getElem?_cons_zero]; rfl)); (case q484 => exact fun _ _ _ h => h); (case y484 => exact Or.inr ⟨by rfl, rfl⟩))
  try simp only [Act.put, List.setIfInBounds_toArray, List.set_cons_zero, List.set_cons_succ]
  first | (refine wpAnyH_take (i := 11) (oi := ?o485) (v := ?v485) ?i485 (by kernel_rfl) (by kernel_rfl) (by kernel_rfl) ?q485 ?y485 (by assumption) ?r485; (case i485 => (simp only [List.getElem?_toArray, List.getElem?_cons_succ, List.getElem?_cons_zero]; rfl)); (case q485 => exact fun _ _ _ h => h); (case y485 => (refine Or.inl ⟨by rfl, ?_⟩; intro w hSw; (try dsimp only at hSw); go_simp; (try (with_reducible rfl))))) | (refine wpAnyH_take (i := 11) (oi := ?o486) (v := undef) ?i486 (by kernel_rfl) (by kernel_rfl) (by kernel_rfl) ?q486 ?y486 (by assumption) ?r486; (case i486 => (simp only [List.getElem?_toArray, List.getElem?_cons_succ, List.getElem?_cons_zero]; rfl)); (case q486 => exact fun _ _ _ h => h); (case y486 => exact Or.inr ⟨by rfl, rfl⟩))
  try simp only [Act.put, List.setIfInBounds_toArray, List.set_cons_zero, List.set_cons_succ]
  first | (refine wpAnyH_take (i := 12) (oi := ?o487) (v := ?v487) ?i487 (by kernel_rfl) (by kernel_rfl) (by kernel_rfl) ?q487 ?y487 (by assumption) ?r487; (case i487 => (simp only [List.getElem?_toArray, List.getElem?_cons_succ, List.getElem?_cons_zero]; rfl)); (case q487 => exact fun _ _ _ h => h); (case y487 => (refine Or.inl ⟨by rfl, ?_⟩; intro w hSw; (try dsimp only at hSw); go_simp; (try (with_reducible rfl))))) | (refine wpAnyH_take (i := 12) (oi := ?o488) (v := undef) ?i488 (by kernel_rfl) (by kernel_rfl) (by kernel_rfl) ?q488 ?y488 (by assumption) ?r488; (case i488 => (simp only [List.getElem?_toArray, List.getElem?_cons_succ, List.getElem?_cons_zero]; rfl)); (case q488 => exact fun _ _ _ h => h); (case y488 => exact Or.inr ⟨by rfl, rfl⟩))
  try simp only [Act.put, List.setIfInBounds_toArray, List.set_cons_zero, List.set_cons_succ]
  first | (refine wpAnyH_take (i := 13) (oi := ?o489) (v := ?v489) ?i489 (by kernel_rfl) (by kernel_rfl) (by kernel_rfl) ?q489 ?y489 (by assumption) ?r489; (case i489 => (simp only [List.getElem?_toArray, List.getElem?_cons_succ, List.getElem?_cons_zero]; rfl)); (case q489 => exact fun _ _ _ h => h); (case y489 => (refine Or.inl ⟨by rfl, ?_⟩; intro w hSw; (try dsimp only at hSw); go_simp; (try (with_reducible rfl))))) | (refine wpAnyH_take (i := 13) (oi := ?o490) (v := undef) ?i490 (by kernel_rfl) (by kernel_rfl) (by kernel_rfl) ?q490 ?y490 (by assumption) ?r490; (case i490 => (simp only [List.getElem?_toArray, List.getElem?_cons_succ, List.getElem?_cons_zero]; rfl)); (case q490 => exact fun _ _ _ h => h); (case y490 => exact Or.inr ⟨by rfl, rfl⟩))
  try simp only [Act.put, List.setIfInBounds_toArray, List.set_cons_zero, List.set_cons_succ]
  first | (refine wpAnyH_take (i := 14) (oi := ?o491) (v := ?v491) ?i491 (by kernel_rfl) (by kernel_rfl) (by kernel_rfl) ?q491 ?y491 (by assumption) ?r491; (case i491 => (simp only [List.getElem?_toArray, List.getElem?_cons_succ, List.getElem?_cons_zero]; rfl)); (case q491 => exact fun _ _ _ h => h); (case y491 => (refine Or.inl ⟨by rfl, ?_⟩; intro w hSw; (try dsimp only at hSw); go_simp; (try (with_reducible rfl))))) | (refine wpAnyH_take (i := 14) (oi := ?o492) (v := undef) ?i492 (by kernel_rfl) (by kernel_rfl) (by kernel_rfl) ?q492 ?y492 (by assumption) ?r492; (case i492 => (simp only [List.getElem?_toArray, List.getElem?_cons_succ, List.getElem?_cons_zero]; rfl)); (case q492 => exact fun _ _ _ h => h); (case y492 => exact Or.inr ⟨by rfl, rfl⟩))
  try simp only [Act.put, List.setIfInBounds_toArray, List.set_cons_zero, List.set_cons_succ]
  first | (refine wpAnyH_take (i := 15) (oi := ?o493) (v := ?v493) ?i493 (by kernel_rfl) (by kernel_rfl) (by kernel_rfl) ?q493 ?y493 (by assumption) ?r493; (case i493 => (simp only [List.getElem?_toArray, List.getElem?_cons_succ, List.getElem?_cons_zero]; rfl)); (case q493 => exact fun _ _ _ h => h); (case y493 => (refine Or.inl ⟨by rfl, ?_⟩; intro w hSw; (try dsimp only at hSw); go_simp; (try (with_reducible rfl))))) | (refine wpAnyH_take (i := 15) (oi := ?o494) (v := undef) ?i494 (by kernel_rfl) (by kernel_rfl) (by kernel_rfl) ?q494 ?y494 (by assumption) ?r494; (case i494 => (simp only [List.getElem?_toArray, List.getElem?_cons_succ, List.getElem?_cons_zero]; rfl)); (case q494 => exact fun _ _ _ h => h); (case y494 => exact Or.inr ⟨by rfl, rfl⟩))
  try simp only [Act.put, List.setIfInBounds_toArray, List.set_cons_zero, List.set_cons_succ]
  refine wpAnyH_done (by kernel_rfl) ?_ _
  obtain ⟨w5, hw5⟩ : ∃ w5, w5 = w4.drew := ⟨_, rfl⟩
  rw [← hw5]
  have b5 : Below w4.heap.size w4 w5 := by rw [hw5]; exact (Below.refl _ _).drew
  have HB5 := Aside0.mk (HB4.out.trans (b5.mono HB4.out.size))
  have hl5 := HL4.out.below b5
  have k05 := hl5.c0
  have k15 := hl5.c1
  have k25 := hl5.c2
  have k35 := hl5.c3
  have k45 := hl5.c4
  have x85 := (b5.block _ (blt X84.out)).trans X84.out
  have HG5 := Aside0.mk (hG.below HG4.out b5)
  have HL5 := Aside0.mk hl5
  have X85 := Lib.hid x85
  clear hw5 b5 hl5 x85
  go_wp2_with (first
    | (rw [← HW0.out])
    | (rw [← HW.out])
    | (go_at_call 32; (have hcc := RCount_any HL5.out HSL.out 0); (rw [← HC0.out] at hcc); (with_reducible refine hcc.mono ?_); clear hcc; rintro e w7 ⟨rfl, hb7⟩; have HB7 := Aside0.mk (HB5.out.trans (hb7.mono HB5.out.size)); have x8 := (hb7.block _ (blt X85.out)).trans X85.out; have X87 := Lib.hid x8; have n0 : w7.cell? ⟨w.heap.size, 0, none⟩ = some (.int .i64 0) := bcell x8 0; have n1 : w7.cell? ⟨w.heap.size, 1, none⟩ = some (.int .i64 0) := bcell x8 1; have nf : ∀ j, w7.frozen? ⟨w.heap.size, j, none⟩ = false := (fun j => bfrozen x8 j); have HL7 := Aside0.mk (HL5.out.below hb7); have HG7 := Aside0.mk (hG.below HG5.out hb7); clear hb7 x8)
    | (go_at_call 73; (have hse := RSeal_G hG hSt HG7.out HL7.out (.inl hr) (.inl ht) hNr hNt HOL.out); (with_reducible refine hse.mono ?_); clear hse; rintro e w8 ⟨rfl, hf8, hl8, hb8, hk8⟩; have bel8 : Below N0 w w8 := (((WB.out.trans ((HB7.out).mono (by omega))).mono hsz)).trans hb8; have kep8 : Kept (fun k => K k ∧ k ≠ r ∧ k ≠ t) w w8 := (fun k hk => (hk8 k ⟨.inl hk.1, hk.2⟩).trans ((show Kept (fun k => K k ∧ k ≠ r ∧ k ≠ t) w w7 from fun k hk => ((BBW.out.trans (HB7.out.mono BBW.out.size)).block k (HLT.out k hk.1))) k hk)); have x8 := (hk8 w.heap.size ⟨.inr ⟨Nat.le_refl _, by omega⟩, (by have := HLT.out r hr; omega), (by have := HLT.out t ht; omega)⟩).trans X87.out; (obtain ⟨g8, hg8⟩ : ∃ g8, g8 = rsealG g := ⟨_, rfl⟩); (rw [← hg8] at hl8); (have hgl : g8.st.length = nl := (by rw [hg8, rseal_len]; exact HNL.out.symm)); (have hgo : g8.op = -1 := (by rw [hg8]; rfl)); have k18 := hl8.c1; (rw [hgl] at k18); have X88 := Lib.hid x8; have HG8 := Aside0.mk hf8; have HL8 := Aside0.mk hl8; have BEL8 := Aside0.mk bel8; have KEP8 := Lib.hid kep8; have HG8E := Lib.hid hg8; have HGL := Lib.hid hgl; have HGO := Lib.hid hgo; clear hf8 hl8 hb8 hk8 bel8 kep8 x8 hg8 hgl hgo)
    | fail)
  go_loopw [12, 13, 69] (fun v12 v13 v69 wr => ∃ k : Nat, k ≤ nl ∧ v69 = .int .i64 (k : Int) ∧ RLog r t x cap rest (if k ≤ m then g8 else { g8 with op := (m : Int) }) wr ∧ Upd (fun k => k = r) w8 wr) (fun _ _ v69 _ => nl - (intOf v69).toNat)
  case atStart => exact ⟨0, Nat.zero_le _, rfl, by rw [if_pos (Nat.zero_le _)]; exact HL8.out, Upd.ofBelow (Below.refl _ _) _⟩
  case round =>
    obtain ⟨k, hk, rfl, hlr, hur⟩ := hrel
    have hmg : g8.st[m]? = some 0 := by rw [HG8E.out]; exact HM0.out
    have hml : m < nl := by have := (List.getElem?_eq_some_iff.1 hmg).1; have := HGL.out; omega
    have k0' : (0 : Int) ≤ (k : Int) := by omega
    have e_m : decide ((m : Int) < 0) = false := decide_eq_false (by omega)
    by_cases hlt : k < nl
    · have k1' : (k : Int) < (nl : Int) := by omega
      obtain ⟨y, hy⟩ : ∃ y, g8.st[k]? = some y := ⟨_, List.getElem?_eq_getElem (by have := HGL.out; omega)⟩
      by_cases hkm : k ≤ m
      · rw [if_pos hkm] at hlr
        have c5 := hlr.cst hy
        have c2 := hlr.c2
        rw [HGO.out] at c2
        have f2 := hlr.fr 2
        have HLR := Aside0.mk hlr
        have HUR := Aside0.mk hur
        by_cases hkm2 : k = m
        · have hy0 : y = 0 := by rw [hkm2, hmg] at hy; exact (Option.some.inj hy).symm
          rw [hy0] at c5
          have HKM := Lib.hid hkm2
          clear hlr hur hy hy0 hkm2 hmg
          go_wp2
          exact ⟨⟨k + 1, by omega, by go_num, by rw [if_neg (by have := HKM.out; omega), ← HKM.out]; exact HLR.out.setOp (k : Int), HUR.out.trans (Upd.setCell wr (p := ⟨r, 2, none⟩) (S := fun k => k = r) rfl _) (fun k hk _ => hk)⟩, by simp [intOf]; omega⟩
        · have hy0 : y ≠ 0 := fun e => by rw [e] at hy; exact HMF.out k (by omega) (by rw [← HG8E.out]; exact hy)
          have e1 : (y == 0) = false := by simpa using hy0
          have HKM := Lib.hid hkm2
          clear hlr hur hy hy0 hkm2 hmg
          go_wp2
          exact ⟨⟨k + 1, by omega, by go_num, by rw [if_pos (by have := HKM.out; omega)]; exact HLR.out, HUR.out⟩, by simp [intOf]; omega⟩
      · rw [if_neg hkm] at hlr
        have c5 := hlr.cst hy
        have c2 := hlr.c2
        simp only at c2
        have HLR := Aside0.mk hlr
        have HUR := Aside0.mk hur
        by_cases hy0 : y = 0
        · rw [hy0] at c5
          clear hlr hur hy hy0 hmg
          go_wp2
          exact ⟨⟨k + 1, by omega, by go_num, by rw [if_neg (by omega)]; exact HLR.out, HUR.out⟩, by simp [intOf]; omega⟩
        · have e1 : (y == 0) = false := by simpa using hy0
          clear hlr hur hy hy0 hmg
          go_wp2
          exact ⟨⟨k + 1, by omega, by go_num, by rw [if_neg (by omega)]; exact HLR.out, HUR.out⟩, by simp [intOf]; omega⟩
    · obtain rfl : k = nl := by omega
      rw [if_neg (by omega)] at hlr
      have c1 := hlr.c1
      simp only [HGL.out] at c1
      have c2 := hlr.c2
      simp only at c2
      have c5 := hlr.cst (i := m) (y := 0) hmg
      have f5 := hlr.ft m
      have q0 : (0 : Int) ≤ (m : Int) := by omega
      have q1 : (m : Int) < (k : Int) := by omega
      have n1 := hlr.ne
      have n2 : ¬ t = r := fun e => n1 e.symm
      have HMG := Lib.hid hmg
      have HLR := Aside0.mk hlr
      have HUR := Aside0.mk hur
      clear hlr hur hmg
      go_wp2_with fail
      go_region_held3 (fun w' => w'.cell? ⟨r, 1, none⟩ = some (.slice (some ⟨t, 0, none⟩) k cap) ∧ w'.cell? ⟨r, 2, none⟩ = some (.int .i64 (m : Int))) (first | go_keep | exact ⟨c1, c2⟩) (fail)
      obtain ⟨w11, hw11⟩ : ∃ w11, w11 = (wr.setCell ⟨t, m, none⟩ (.int .i64 1)).drew := ⟨_, rfl⟩
      rw [← hw11]
      have hfr := hSt _ _ w8 wr r _ _ _ HG8.out (.inl hr) HL8.out.blk HLR.out.blk (by decide) HUR.out
      have hlz := HLR.out.setSt (i := m) (by show m < g8.st.length; have := HGL.out; omega) 1
      have hlw : RLog r t x cap rest { st := g8.st.set m 1, op := (m : Int), pg := g8.pg, nx := g8.nx } w11 := by rw [hw11]; exact ⟨hlz.blk, hlz.row⟩
      have huw : Upd (fun k => k = t) wr w11 := by
        have := Upd.setCell wr (p := ⟨t, m, none⟩) (S := fun k => k = t) rfl (.int .i64 1)
        rw [hw11]
        exact ⟨this.os, this.tape, this.output, this.size, this.block⟩
      have hfw := hSt _ _ wr w11 t _ _ _ hfr (.inl ht) HLR.out.row hlw.row (by decide) huw
      have zr := hG.size hfr
      have z8 := hG.size HG8.out
      have blw : Below N0 w w11 := BEL8.out.trans ((HUR.out.below z8 (fun k hk => by rw [hk]; exact hNr)).trans (huw.below zr (fun k hk => by rw [hk]; exact hNt)))
      have hgn : g8.nx = g.nx := by rw [HG8E.out]; rfl
      have kpw : Kept (fun k => K k ∧ k ≠ r ∧ k ≠ t) w w11 := fun k hk => (huw.block k (hG.lt hfr k (.inl hk.1)) hk.2.2).trans ((HUR.out.block k (hG.lt HG8.out k (.inl hk.1)) hk.2.1).trans (KEP8.out k hk))
      have x8w := (huw.block w.heap.size (by have := hG.lt hfr w.heap.size (.inr ⟨Nat.le_refl _, by omega⟩); omega) (by have := HLT.out t ht; omega)).trans ((HUR.out.block w.heap.size (blt X88.out) (by have := HLT.out r hr; omega)).trans X88.out)
      have d0 := hlw.c0
      have d2 := hlw.c2
      have d4 := hlw.c4
      simp only at d2 d4
      rw [hgn] at d4
      have hap0 := RAppend_G (kind := 1) (seq := g.nx) (l := []) (c := 0) (A := none) hG (hG.below hfw (Below.refl _ w11).drew) HSH.out (m : Int) 0 one_kind hsq Byt.nil (Kd.C_nil kB _) (Nat.le_refl _) (by simp) hd0
      rw [List.length_nil] at hap0
      have HAP0 := Lib.hid hap0
      have HLW := Aside0.mk hlw
      have BLW := Aside0.mk blw
      have KPW := Lib.hid kpw
      have X8W := Lib.hid x8w
      have HGN := Lib.hid hgn
      clear hw11 hfr hlz hlw huw hfw blw hgn kpw x8w hap0 c1 c2 c5 f5
      go_wp2_with fail
      refine wp_region_held_drew (S := (fun w' => w'.cell? ⟨r, 0, none⟩ = some (.pointer (some ⟨x, 0, none⟩)) ∧ w'.cell? ⟨r, 2, none⟩ = some (.int .i64 (m : Int)) ∧ w'.cell? ⟨r, 4, none⟩ = some (.int .u64 g.nx))) (by kernel_rfl) ?_ (fun hHeld => ?_)
      · first | exact ⟨d0, d2, d4⟩ | exact ⟨v0, v2, v4⟩
      first | (refine wpAnyH_take (i := 0) (oi := ?o495) (v := ?v495) ?i495 (by kernel_rfl) (by kernel_rfl) (by kernel_rfl) ?q495 ?y495 (by assumption) ?r495; (case i495 => (simp only [List.getElem?_toArray, List.getElem?_cons_succ, List.getElem?_cons_zero]; rfl)); (case q495 => exact fun _ _ _ h => h); (case y495 => (refine Or.inl ⟨by rfl, ?_⟩; intro w hSw; (try dsimp only at hSw); go_simp; (try (with_reducible rfl))))) | (refine wpAnyH_take (i := 0) (oi := ?o496) (v := undef) ?i496 (by kernel_rfl) (by kernel_rfl) (by kernel_rfl) ?q496 ?y496 (by assumption) ?r496; (case i496 => (simp only [List.getElem?_toArray, List.getElem?_cons_succ, List.getElem?_cons_zero]; rfl)); (case q496 => exact fun _ _ _ h => h); (case y496 => exact Or.inr ⟨by rfl, rfl⟩))
      try simp only [Act.put, List.setIfInBounds_toArray, List.set_cons_zero, List.set_cons_succ]
      first | (refine wpAnyH_take (i := 1) (oi := ?o497) (v := ?v497) ?i497 (by kernel_rfl) (by kernel_rfl) (by kernel_rfl) ?q497 ?y497 (by assumption) ?r497; (case i497 => (simp only [List.getElem?_toArray, List.getElem?_cons_succ, List.getElem?_cons_zero]; rfl)); (case q497 => exact fun _ _ _ h => h); (case y497 => (refine Or.inl ⟨by rfl, ?_⟩; intro w hSw; (try dsimp only at hSw); go_simp; (try (with_reducible rfl))))) | (refine wpAnyH_take (i := 1) (oi := ?o498) (v := undef) ?i498 (by kernel_rfl) (by kernel_rfl) (by kernel_rfl) ?q498 ?y498 (by assumption) ?r498; (case i498 => (simp only [List.getElem?_toArray, List.getElem?_cons_succ, List.getElem?_cons_zero]; rfl)); (case q498 => exact fun _ _ _ h => h); (case y498 => exact Or.inr ⟨by rfl, rfl⟩))
      try simp only [Act.put, List.setIfInBounds_toArray, List.set_cons_zero, List.set_cons_succ]
      first | (refine wpAnyH_take (i := 2) (oi := ?o499) (v := ?v499) ?i499 (by kernel_rfl) (by kernel_rfl) (by kernel_rfl) ?q499 ?y499 (by assumption) ?r499; (case i499 => (simp only [List.getElem?_toArray, List.getElem?_cons_succ, List.getElem?_cons_zero]; rfl)); (case q499 => exact fun _ _ _ h => h); (case y499 => (refine Or.inl ⟨by rfl, ?_⟩; intro w hSw; (try dsimp only at hSw); go_simp; (try (with_reducible rfl))))) | (refine wpAnyH_take (i := 2) (oi := ?o500) (v := undef) ?i500 (by kernel_rfl) (by kernel_rfl) (by kernel_rfl) ?q500 ?y500 (by assumption) ?r500; (case i500 => (simp only [List.getElem?_toArray, List.getElem?_cons_succ, List.getElem?_cons_zero]; rfl)); (case q500 => exact fun _ _ _ h => h); (case y500 => exact Or.inr ⟨by rfl, rfl⟩))
      try simp only [Act.put, List.setIfInBounds_toArray, List.set_cons_zero, List.set_cons_succ]
      first | (refine wpAnyH_take (i := 3) (oi := ?o501) (v := ?v501) ?i501 (by kernel_rfl) (by kernel_rfl) (by kernel_rfl) ?q501 ?y501 (by assumption) ?r501; (case i501 => (simp only [List.getElem?_toArray, List.getElem?_cons_succ, List.getElem?_cons_zero]; rfl)); (case q501 => exact fun _ _ _ h => h); (case y501 => (refine Or.inl ⟨by rfl, ?_⟩; intro w hSw; (try dsimp only at hSw); go_simp; (try (with_reducible rfl))))) | (refine wpAnyH_take (i := 3) (oi := ?o502) (v := undef) ?i502 (by kernel_rfl) (by kernel_rfl) (by kernel_rfl) ?q502 ?y502 (by assumption) ?r502; (case i502 => (simp only [List.getElem?_toArray, List.getElem?_cons_succ, List.getElem?_cons_zero]; rfl)); (case q502 => exact fun _ _ _ h => h); (case y502 => exact Or.inr ⟨by rfl, rfl⟩))
      try simp only [Act.put, List.setIfInBounds_toArray, List.set_cons_zero, List.set_cons_succ]
      first | (refine wpAnyH_take (i := 4) (oi := ?o503) (v := ?v503) ?i503 (by kernel_rfl) (by kernel_rfl) (by kernel_rfl) ?q503 ?y503 (by assumption) ?r503; (case i503 => (simp only [List.getElem?_toArray, List.getElem?_cons_succ, List.getElem?_cons_zero]; rfl)); (case q503 => exact fun _ _ _ h => h); (case y503 => (refine Or.inl ⟨by rfl, ?_⟩; intro w hSw; (try dsimp only at hSw); go_simp; (try (with_reducible rfl))))) | (refine wpAnyH_take (i := 4) (oi := ?o504) (v := undef) ?i504 (by kernel_rfl) (by kernel_rfl) (by kernel_rfl) ?q504 ?y504 (by assumption) ?r504; (case i504 => (simp only [List.getElem?_toArray, List.getElem?_cons_succ, List.getElem?_cons_zero]; rfl)); (case q504 => exact fun _ _ _ h => h); (case y504 => exact Or.inr ⟨by rfl, rfl⟩))
      try simp only [Act.put, List.setIfInBounds_toArray, List.set_cons_zero, List.set_cons_succ]
      first | (refine wpAnyH_take (i := 5) (oi := ?o505) (v := ?v505) ?i505 (by kernel_rfl) (by kernel_rfl) (by kernel_rfl) ?q505 ?y505 (by assumption) ?r505; (case i505 => (simp only [List.getElem?_toArray, List.getElem?_cons_succ, List.getElem?_cons_zero]; rfl)); (case q505 => exact fun _ _ _ h => h); (case y505 => (refine Or.inl ⟨by rfl, ?_⟩; intro w hSw; (try dsimp only at hSw); go_simp; (try (with_reducible rfl))))) | (refine wpAnyH_take (i := 5) (oi := ?o506) (v := undef) ?i506 (by kernel_rfl) (by kernel_rfl) (by kernel_rfl) ?q506 ?y506 (by assumption) ?r506; (case i506 => (simp only [List.getElem?_toArray, List.getElem?_cons_succ, List.getElem?_cons_zero]; rfl)); (case q506 => exact fun _ _ _ h => h); (case y506 => exact Or.inr ⟨by rfl, rfl⟩))
      try simp only [Act.put, List.setIfInBounds_toArray, List.set_cons_zero, List.set_cons_succ]
      first | (refine wpAnyH_take (i := 6) (oi := ?o507) (v := ?v507) ?i507 (by kernel_rfl) (by kernel_rfl) (by kernel_rfl) ?q507 ?y507 (by assumption) ?r507; (case i507 => (simp only [List.getElem?_toArray, List.getElem?_cons_succ, List.getElem?_cons_zero]; rfl)); (case q507 => exact fun _ _ _ h => h); (case y507 => (refine Or.inl ⟨by rfl, ?_⟩; intro w hSw; (try dsimp only at hSw); go_simp; (try (with_reducible rfl))))) | (refine wpAnyH_take (i := 6) (oi := ?o508) (v := undef) ?i508 (by kernel_rfl) (by kernel_rfl) (by kernel_rfl) ?q508 ?y508 (by assumption) ?r508; (case i508 => (simp only [List.getElem?_toArray, List.getElem?_cons_succ, List.getElem?_cons_zero]; rfl)); (case q508 => exact fun _ _ _ h => h); (case y508 => exact Or.inr ⟨by rfl, rfl⟩))
      try simp only [Act.put, List.setIfInBounds_toArray, List.set_cons_zero, List.set_cons_succ]
      first | (refine wpAnyH_take (i := 7) (oi := ?o509) (v := ?v509) ?i509 (by kernel_rfl) (by kernel_rfl) (by kernel_rfl) ?q509 ?y509 (by assumption) ?r509; (case i509 => (simp only [List.getElem?_toArray, List.getElem?_cons_succ, List.getElem?_cons_zero]; rfl)); (case q509 => exact fun _ _ _ h => h); (case y509 => (refine Or.inl ⟨by rfl, ?_⟩; intro w hSw; (try dsimp only at hSw); go_simp; (try (with_reducible rfl))))) | (refine wpAnyH_take (i := 7) (oi := ?o510) (v := undef) ?i510 (by kernel_rfl) (by kernel_rfl) (by kernel_rfl) ?q510 ?y510 (by assumption) ?r510; (case i510 => (simp only [List.getElem?_toArray, List.getElem?_cons_succ, List.getElem?_cons_zero]; rfl)); (case q510 => exact fun _ _ _ h => h); (case y510 => exact Or.inr ⟨by rfl, rfl⟩))
      try simp only [Act.put, List.setIfInBounds_toArray, List.set_cons_zero, List.set_cons_succ]
      first | (refine wpAnyH_take (i := 8) (oi := ?o511) (v := ?v511) ?i511 (by kernel_rfl) (by kernel_rfl) (by kernel_rfl) ?q511 ?y511 (by assumption) ?r511; (case i511 => (simp only [List.getElem?_toArray, List.getElem?_cons_succ, List.getElem?_cons_zero]; rfl)); (case q511 => exact fun _ _ _ h => h); (case y511 => (refine Or.inl ⟨by rfl, ?_⟩; intro w hSw; (try dsimp only at hSw); go_simp; (try (with_reducible rfl))))) | (refine wpAnyH_take (i := 8) (oi := ?o512) (v := undef) ?i512 (by kernel_rfl) (by kernel_rfl) (by kernel_rfl) ?q512 ?y512 (by assumption) ?r512; (case i512 => (simp only [List.getElem?_toArray, List.getElem?_cons_succ, List.getElem?_cons_zero]; rfl)); (case q512 => exact fun _ _ _ h => h); (case y512 => exact Or.inr ⟨by rfl, rfl⟩))
      try simp only [Act.put, List.setIfInBounds_toArray, List.set_cons_zero, List.set_cons_succ]
      first | (refine wpAnyH_take (i := 9) (oi := ?o513) (v := ?v513) ?i513 (by kernel_rfl) (by kernel_rfl) (by kernel_rfl) ?q513 ?y513 (by assumption) ?r513; (case i513 => (simp only [List.getElem?_toArray, List.getElem?_cons_succ, List.getElem?_cons_zero]; rfl)); (case q513 => exact fun _ _ _ h => h); (case y513 => (refine Or.inl ⟨by rfl, ?_⟩; intro w hSw; (try dsimp only at hSw); go_simp; (try (with_reducible rfl))))) | (refine wpAnyH_take (i := 9) (oi := ?o514) (v := undef) ?i514 (by kernel_rfl) (by kernel_rfl) (by kernel_rfl) ?q514 ?y514 (by assumption) ?r514; (case i514 => (simp only [List.getElem?_toArray, List.getElem?_cons_succ, List.getElem?_cons_zero]; rfl)); (case q514 => exact fun _ _ _ h => h); (case y514 => exact Or.inr ⟨by rfl, rfl⟩))
      try simp only [Act.put, List.setIfInBounds_toArray, List.set_cons_zero, List.set_cons_succ]
      first | (refine wpAnyH_take (i := 10) (oi := ?o515) (v := ?v515) ?i515 (by kernel_rfl) (by kernel_rfl) (by kernel_rfl) ?q515 ?y515 (by assumption) ?r515; (case i515 => (simp only [List.getElem?_toArray, List.getElem?_cons_succ, List.getElem?_cons_zero]; rfl)); (case q515 => exact fun _ _ _ h => h); (case y515 => (refine Or.inl ⟨by rfl, ?_⟩; intro w hSw; (try dsimp only at hSw); go_simp; (try (with_reducible rfl))))) | (refine wpAnyH_take (i := 10) (oi := ?o516) (v := undef) ?i516 (by kernel_rfl) (by kernel_rfl) (by kernel_rfl) ?q516 ?y516 (by assumption) ?r516; (case i516 => (simp only [List.getElem?_toArray, List.getElem?_cons_succ, List.getElem?_cons_zero]; rfl)); (case q516 => exact fun _ _ _ h => h); (case y516 => exact Or.inr ⟨by rfl, rfl⟩))
      try simp only [Act.put, List.setIfInBounds_toArray, List.set_cons_zero, List.set_cons_succ]
      first | (refine wpAnyH_take (i := 11) (oi := ?o517) (v := ?v517) ?i517 (by kernel_rfl) (by kernel_rfl) (by kernel_rfl) ?q517 ?y517 (by assumption) ?r517; (case i517 => (simp only [List.getElem?_toArray, List.getElem?_cons_succ, List.getElem?_cons_zero]; rfl)); (case q517 => exact fun _ _ _ h => h); (case y517 => (refine Or.inl ⟨by rfl, ?_⟩; intro w hSw; (try dsimp only at hSw); go_simp; (try (with_reducible rfl))))) | (refine wpAnyH_take (i := 11) (oi := ?o518) (v := undef) ?i518 (by kernel_rfl) (by kernel_rfl) (by kernel_rfl) ?q518 ?y518 (by assumption) ?r518; (case i518 => (simp only [List.getElem?_toArray, List.getElem?_cons_succ, List.getElem?_cons_zero]; rfl)); (case q518 => exact fun _ _ _ h => h); (case y518 => exact Or.inr ⟨by rfl, rfl⟩))
      try simp only [Act.put, List.setIfInBounds_toArray, List.set_cons_zero, List.set_cons_succ]
      refine wpAnyH_ready (rs := [12]) (by kernel_rfl) (by simp) ?_
      refine AllReadyH.cons (by (simp only [List.getElem?_toArray, List.getElem?_cons_succ, List.getElem?_cons_zero]; rfl)) (fun K hK => ?_) AllReadyH.nil
      go_simp
      (go_at_call 36; (with_reducible refine HAP0.out.mono ?_); rintro e w12 ⟨rfl, hf12, hb12, hk12⟩; have hl12 := HLW.out.step (hk12 r (.inl hr)) (hk12 t (.inl ht)); have v0 := hl12.c0; have v2 := hl12.c2; have v4 := hl12.c4; simp only at v2 v4; rw [HGN.out] at v4; have v3 := hl12.c3; have fr3 := hl12.fr 3; have fr4 := hl12.fr 4; have HL12 := Aside0.mk hl12; have HG12 := Aside0.mk hf12; have HB12 := Aside0.mk hb12; have HK12 := Lib.hid hk12; clear hl12 hf12 hb12 hk12)
      (try dsimp only)
      refine hK.out _ _ ?_ (fun hHeld => ?_)
      · first | exact ⟨d0, d2, d4⟩ | exact ⟨v0, v2, v4⟩
      clear hK K
      try simp only [Act.put, List.setIfInBounds_toArray, List.set_cons_zero, List.set_cons_succ]
      refine wpAnyH_done (by kernel_rfl) ?_ _
      have hwn : IntKind.u64.wrap (g.nx + 1) = g.nx + 1 := IntWalk.u64_in _ (by omega)
      go_wp2_with fail
      obtain ⟨w13, hw13⟩ : ∃ w13, w13 = (w12.setCell ⟨r, 3, none⟩ (.int .i64 1)).setCell ⟨r, 4, none⟩ (.int .u64 (g.nx + 1)) := ⟨_, rfl⟩
      rw [← hw13]
      have hl13 : RLog r t x cap rest { st := g8.st.set m 1, op := (m : Int), pg := 1, nx := g.nx + 1 } w13 := by rw [hw13]; exact (HL12.out.setPg 1).setNx (g.nx + 1)
      have hu13 : Upd (fun k => k = r) w12 w13 := by
        rw [hw13]
        exact (Upd.setCell w12 (p := ⟨r, 3, none⟩) (S := fun k => k = r) rfl _).trans (Upd.setCell _ (p := ⟨r, 4, none⟩) (S := fun k => k = r) rfl _) (fun k hk _ => hk)
      have hg13 := hSt _ _ w12 w13 r _ _ _ HG12.out (.inl hr) HL12.out.blk hl13.blk (by decide) hu13
      have z12 := hG.size HG12.out
      have bel13 : Below N0 w w13 := BLW.out.trans (((show Below N0 w11 w11.drew from (Below.refl _ _).drew).trans HB12.out).trans (hu13.below z12 (fun k hk => by rw [hk]; exact hNr)))
      have kep13 : Kept (fun k => K k ∧ k ≠ r ∧ k ≠ t) w w13 := fun k hk => (hu13.block k (hG.lt HG12.out k (.inl hk.1)) hk.2.1).trans ((HK12.out k (.inl hk.1)).trans (KPW.out k hk))
      have x813 := (hu13.block w.heap.size (hG.lt HG12.out _ (.inr ⟨Nat.le_refl _, by omega⟩)) (by have := HLT.out r hr; omega)).trans ((HK12.out w.heap.size (.inr ⟨Nat.le_refl _, by omega⟩)).trans X8W.out)
      have X813 := Lib.hid x813
      have HL13 := Aside0.mk hl13
      have HG13 := Aside0.mk hg13
      have BEL13 := Aside0.mk bel13
      have KEP13 := Lib.hid kep13
      clear hw13 hl13 hu13 hg13 bel13 kep13 x813 v0 v2 v3 v4 fr3 fr4 hHeld
      go_wp2_with fail
      have y2_ := HL13.out.c2
      have y3_ := HL13.out.c3
      refine wp_region_held_drew (S := (fun w' => w'.cell? ⟨r, 2, none⟩ = some (.int .i64 (m : Int)) ∧ w'.cell? ⟨r, 3, none⟩ = some (.int .i64 1))) (by kernel_rfl) ?_ (fun hHeld => ?_)
      · first | go_keep | exact ⟨y2_, y3_⟩
      first | (refine wpAnyH_take (i := 0) (oi := ?o519) (v := ?v519) ?i519 (by kernel_rfl) (by kernel_rfl) (by kernel_rfl) ?q519 ?y519 (by assumption) ?r519; (case i519 => (simp only [List.getElem?_toArray, List.getElem?_cons_succ, List.getElem?_cons_zero]; rfl)); (case q519 => exact fun _ _ _ h => h); (case y519 => (refine Or.inl ⟨by rfl, ?_⟩; intro w hSw; (try dsimp only at hSw); go_simp; (try (with_reducible rfl))))) | (refine wpAnyH_take (i := 0) (oi := ?o520) (v := undef) ?i520 (by kernel_rfl) (by kernel_rfl) (by kernel_rfl) ?q520 ?y520 (by assumption) ?r520; (case i520 => (simp only [List.getElem?_toArray, List.getElem?_cons_succ, List.getElem?_cons_zero]; rfl)); (case q520 => exact fun _ _ _ h => h); (case y520 => exact Or.inr ⟨by rfl, rfl⟩))
      try simp only [Act.put, List.setIfInBounds_toArray, List.set_cons_zero, List.set_cons_succ]
      first | (refine wpAnyH_take (i := 1) (oi := ?o521) (v := ?v521) ?i521 (by kernel_rfl) (by kernel_rfl) (by kernel_rfl) ?q521 ?y521 (by assumption) ?r521; (case i521 => (simp only [List.getElem?_toArray, List.getElem?_cons_succ, List.getElem?_cons_zero]; rfl)); (case q521 => exact fun _ _ _ h => h); (case y521 => (refine Or.inl ⟨by rfl, ?_⟩; intro w hSw; (try dsimp only at hSw); go_simp; (try (with_reducible rfl))))) | (refine wpAnyH_take (i := 1) (oi := ?o522) (v := undef) ?i522 (by kernel_rfl) (by kernel_rfl) (by kernel_rfl) ?q522 ?y522 (by assumption) ?r522; (case i522 => (simp only [List.getElem?_toArray, List.getElem?_cons_succ, List.getElem?_cons_zero]; rfl)); (case q522 => exact fun _ _ _ h => h); (case y522 => exact Or.inr ⟨by rfl, rfl⟩))
      try simp only [Act.put, List.setIfInBounds_toArray, List.set_cons_zero, List.set_cons_succ]
      first | (refine wpAnyH_take (i := 2) (oi := ?o523) (v := ?v523) ?i523 (by kernel_rfl) (by kernel_rfl) (by kernel_rfl) ?q523 ?y523 (by assumption) ?r523; (case i523 => (simp only [List.getElem?_toArray, List.getElem?_cons_succ, List.getElem?_cons_zero]; rfl)); (case q523 => exact fun _ _ _ h => h); (case y523 => (refine Or.inl ⟨by rfl, ?_⟩; intro w hSw; (try dsimp only at hSw); go_simp; (try (with_reducible rfl))))) | (refine wpAnyH_take (i := 2) (oi := ?o524) (v := undef) ?i524 (by kernel_rfl) (by kernel_rfl) (by kernel_rfl) ?q524 ?y524 (by assumption) ?r524; (case i524 => (simp only [List.getElem?_toArray, List.getElem?_cons_succ, List.getElem?_cons_zero]; rfl)); (case q524 => exact fun _ _ _ h => h); (case y524 => exact Or.inr ⟨by rfl, rfl⟩))
      try simp only [Act.put, List.setIfInBounds_toArray, List.set_cons_zero, List.set_cons_succ]
      first | (refine wpAnyH_take (i := 3) (oi := ?o525) (v := ?v525) ?i525 (by kernel_rfl) (by kernel_rfl) (by kernel_rfl) ?q525 ?y525 (by assumption) ?r525; (case i525 => (simp only [List.getElem?_toArray, List.getElem?_cons_succ, List.getElem?_cons_zero]; rfl)); (case q525 => exact fun _ _ _ h => h); (case y525 => (refine Or.inl ⟨by rfl, ?_⟩; intro w hSw; (try dsimp only at hSw); go_simp; (try (with_reducible rfl))))) | (refine wpAnyH_take (i := 3) (oi := ?o526) (v := undef) ?i526 (by kernel_rfl) (by kernel_rfl) (by kernel_rfl) ?q526 ?y526 (by assumption) ?r526; (case i526 => (simp only [List.getElem?_toArray, List.getElem?_cons_succ, List.getElem?_cons_zero]; rfl)); (case q526 => exact fun _ _ _ h => h); (case y526 => exact Or.inr ⟨by rfl, rfl⟩))
      try simp only [Act.put, List.setIfInBounds_toArray, List.set_cons_zero, List.set_cons_succ]
      first | (refine wpAnyH_take (i := 4) (oi := ?o527) (v := ?v527) ?i527 (by kernel_rfl) (by kernel_rfl) (by kernel_rfl) ?q527 ?y527 (by assumption) ?r527; (case i527 => (simp only [List.getElem?_toArray, List.getElem?_cons_succ, List.getElem?_cons_zero]; rfl)); (case q527 => exact fun _ _ _ h => h); (case y527 => (refine Or.inl ⟨by rfl, ?_⟩; intro w hSw; (try dsimp only at hSw); go_simp; (try (with_reducible rfl))))) | (refine wpAnyH_take (i := 4) (oi := ?o528) (v := undef) ?i528 (by kernel_rfl) (by kernel_rfl) (by kernel_rfl) ?q528 ?y528 (by assumption) ?r528; (case i528 => (simp only [List.getElem?_toArray, List.getElem?_cons_succ, List.getElem?_cons_zero]; rfl)); (case q528 => exact fun _ _ _ h => h); (case y528 => exact Or.inr ⟨by rfl, rfl⟩))
      try simp only [Act.put, List.setIfInBounds_toArray, List.set_cons_zero, List.set_cons_succ]
      first | (refine wpAnyH_take (i := 5) (oi := ?o529) (v := ?v529) ?i529 (by kernel_rfl) (by kernel_rfl) (by kernel_rfl) ?q529 ?y529 (by assumption) ?r529; (case i529 => (simp only [List.getElem?_toArray, List.getElem?_cons_succ, List.getElem?_cons_zero]; rfl)); (case q529 => exact fun _ _ _ h => h); (case y529 => (refine Or.inl ⟨by rfl, ?_⟩; intro w hSw; (try dsimp only at hSw); go_simp; (try (with_reducible rfl))))) | (refine wpAnyH_take (i := 5) (oi := ?o530) (v := undef) ?i530 (by kernel_rfl) (by kernel_rfl) (by kernel_rfl) ?q530 ?y530 (by assumption) ?r530; (case i530 => (simp only [List.getElem?_toArray, List.getElem?_cons_succ, List.getElem?_cons_zero]; rfl)); (case q530 => exact fun _ _ _ h => h); (case y530 => exact Or.inr ⟨by rfl, rfl⟩))
      try simp only [Act.put, List.setIfInBounds_toArray, List.set_cons_zero, List.set_cons_succ]
      first | (refine wpAnyH_take (i := 6) (oi := ?o531) (v := ?v531) ?i531 (by kernel_rfl) (by kernel_rfl) (by kernel_rfl) ?q531 ?y531 (by assumption) ?r531; (case i531 => (simp only [List.getElem?_toArray, List.getElem?_cons_succ, List.getElem?_cons_zero]; rfl)); (case q531 => exact fun _ _ _ h => h); (case y531 => (refine Or.inl ⟨by rfl, ?_⟩; intro w hSw; (try dsimp only at hSw); go_simp; (try (with_reducible rfl))))) | (refine wpAnyH_take (i := 6) (oi := ?o532) (v := undef) ?i532 (by kernel_rfl) (by kernel_rfl) (by kernel_rfl) ?q532 ?y532 (by assumption) ?r532; (case i532 => (simp only [List.getElem?_toArray, List.getElem?_cons_succ, List.getElem?_cons_zero]; rfl)); (case q532 => exact fun _ _ _ h => h); (case y532 => exact Or.inr ⟨by rfl, rfl⟩))
      try simp only [Act.put, List.setIfInBounds_toArray, List.set_cons_zero, List.set_cons_succ]
      first | (refine wpAnyH_take (i := 7) (oi := ?o533) (v := ?v533) ?i533 (by kernel_rfl) (by kernel_rfl) (by kernel_rfl) ?q533 ?y533 (by assumption) ?r533; (case i533 => (simp only [List.getElem?_toArray, List.getElem?_cons_succ, List.getElem?_cons_zero]; rfl)); (case q533 => exact fun _ _ _ h => h); (case y533 => (refine Or.inl ⟨by rfl, ?_⟩; intro w hSw; (try dsimp only at hSw); go_simp; (try (with_reducible rfl))))) | (refine wpAnyH_take (i := 7) (oi := ?o534) (v := undef) ?i534 (by kernel_rfl) (by kernel_rfl) (by kernel_rfl) ?q534 ?y534 (by assumption) ?r534; (case i534 => (simp only [List.getElem?_toArray, List.getElem?_cons_succ, List.getElem?_cons_zero]; rfl)); (case q534 => exact fun _ _ _ h => h); (case y534 => exact Or.inr ⟨by rfl, rfl⟩))
      try simp only [Act.put, List.setIfInBounds_toArray, List.set_cons_zero, List.set_cons_succ]
      first | (refine wpAnyH_take (i := 8) (oi := ?o535) (v := ?v535) ?i535 (by kernel_rfl) (by kernel_rfl) (by kernel_rfl) ?q535 ?y535 (by assumption) ?r535; (case i535 => (simp only [List.getElem?_toArray, List.getElem?_cons_succ, List.getElem?_cons_zero]; rfl)); (case q535 => exact fun _ _ _ h => h); (case y535 => (refine Or.inl ⟨by rfl, ?_⟩; intro w hSw; (try dsimp only at hSw); go_simp; (try (with_reducible rfl))))) | (refine wpAnyH_take (i := 8) (oi := ?o536) (v := undef) ?i536 (by kernel_rfl) (by kernel_rfl) (by kernel_rfl) ?q536 ?y536 (by assumption) ?r536; (case i536 => (simp only [List.getElem?_toArray, List.getElem?_cons_succ, List.getElem?_cons_zero]; rfl)); (case q536 => exact fun _ _ _ h => h); (case y536 => exact Or.inr ⟨by rfl, rfl⟩))
      try simp only [Act.put, List.setIfInBounds_toArray, List.set_cons_zero, List.set_cons_succ]
      refine wpAnyH_ready (rs := [9]) (by kernel_rfl) (by simp) ?_
      refine AllReadyH.cons (by (simp only [List.getElem?_toArray, List.getElem?_cons_succ, List.getElem?_cons_zero]; rfl)) (fun K hK => ?_) AllReadyH.nil
      go_simp
      (try dsimp only)
      refine hK.out _ _ ?_ (fun hHeld => ?_)
      · first | go_keep | exact ⟨y2_, y3_⟩
      clear hK K
      try simp only [Act.put, List.setIfInBounds_toArray, List.set_cons_zero, List.set_cons_succ]
      refine wpAnyH_ready (rs := [10]) (by kernel_rfl) (by simp) ?_
      refine AllReadyH.cons (by (simp only [List.getElem?_toArray, List.getElem?_cons_succ, List.getElem?_cons_zero]; rfl)) (fun K hK => ?_) AllReadyH.nil
      go_simp
      (try dsimp only)
      refine hK.out _ _ ?_ (fun hHeld => ?_)
      · first | go_keep | exact ⟨y2_, y3_⟩
      clear hK K
      try simp only [Act.put, List.setIfInBounds_toArray, List.set_cons_zero, List.set_cons_succ]
      refine wpAnyH_done (by kernel_rfl) ?_ _
      obtain ⟨Y, hY⟩ : ∃ Y, Y = (w13.alloc (.cells #[.int .i64 (m : Int), .int .i64 1] TA)).drew := ⟨_, rfl⟩
      rw [← hY]
      have qY : Y.heap[w13.heap.size]? = some (.cells #[.int .i64 (m : Int), .int .i64 1] TA (0, 0)) := by rw [hY]; exact blk_new _ _
      have bY : Below w13.heap.size w13 Y := by rw [hY]; exact (below_alloc (Below.refl _ _) _).drew
      have bYd : Below w13.heap.size w13 Y.drew := bY.drew
      have sY : Y.heap.size = w13.heap.size + 1 := by rw [hY]; exact size_alloc _ _
      have fY := hG.keep HG13.out bYd
      have lY := HL13.out.below bY
      have zY0 := lY.c0
      have zY2 := lY.c2
      have zY3 := lY.c3
      have zY4 := lY.c4
      have belX : Below N0 w w13 := BEL13.out
      have kepX : Kept (fun k => K k ∧ k ≠ r ∧ k ≠ t) w w13 := KEP13.out
      have bNY : Below N0 w Y.drew := belX.trans (bYd.mono (by have := belX.size; omega))
      have happ := RAppend_G (kind := kind) (seq := g.nx) (l := l) (c := c) hG fY HSH.out (m : Int) 1 hkk hsq hBl (HCX.out _ bNY) (by rw [← HN.out]; exact hc) (by rw [← HN.out]; omega) hdd
      rw [← HN.out] at happ
      have HAPP := Lib.hid happ
      have LY := Aside0.mk lY
      have QY := Lib.hid qY
      have BY := Aside0.mk bY
      have HY := Lib.hid hY
      have hwx : IntKind.u64.wrap g.nx = g.nx := IntWalk.u64_in _ (by omega)
      have hwk : IntKind.i64.wrap (1 + (kk : Int)) = 1 + (kk : Int) := IntWalk.i64_in _ (by omega)
      have BX := Aside0.mk belX
      have KX := Lib.hid kepX
      have nq1 : ¬ w13.heap.size = r := by have := blt HL13.out.blk; omega
      have nq2 : ¬ r = w13.heap.size := fun e => nq1 e.symm
      have nq3 : ¬ w.heap.size = r := by have := HLT.out r hr; omega
      have nq4 : ¬ r = w.heap.size := fun e => nq3 e.symm
      have nq5 : ¬ w13.heap.size = w.heap.size := by have := blt X813.out; omega
      have nq6 : ¬ w.heap.size = w13.heap.size := fun e => nq5 e.symm
      clear qY bY bYd fY lY belX kepX bNY happ hY y2_ y3_ hHeld
      go_wp2_with fail
      refine wp_region_held_drew (S := (fun w' => w'.cell? ⟨r, 0, none⟩ = some (.pointer (some ⟨x, 0, none⟩)) ∧ w'.cell? ⟨r, 2, none⟩ = some (.int .i64 (m : Int)) ∧ w'.cell? ⟨r, 3, none⟩ = some (.int .i64 1) ∧ w'.cell? ⟨r, 4, none⟩ = some (.int .u64 (g.nx + 1)))) (by kernel_rfl) ?_ (fun hHeld => ?_)
      · first | exact ⟨zY0, zY2, zY3, zY4⟩ | exact ⟨s0, s2, s3, s4⟩
      first | (refine wpAnyH_take (i := 0) (oi := ?o537) (v := ?v537) ?i537 (by kernel_rfl) (by kernel_rfl) (by kernel_rfl) ?q537 ?y537 (by assumption) ?r537; (case i537 => (simp only [List.getElem?_toArray, List.getElem?_cons_succ, List.getElem?_cons_zero]; rfl)); (case q537 => exact fun _ _ _ h => h); (case y537 => (refine Or.inl ⟨by rfl, ?_⟩; intro w hSw; (try dsimp only at hSw); go_simp; (try (with_reducible rfl))))) | (refine wpAnyH_take (i := 0) (oi := ?o538) (v := undef) ?i538 (by kernel_rfl) (by kernel_rfl) (by kernel_rfl) ?q538 ?y538 (by assumption) ?r538; (case i538 => (simp only [List.getElem?_toArray, List.getElem?_cons_succ, List.getElem?_cons_zero]; rfl)); (case q538 => exact fun _ _ _ h => h); (case y538 => exact Or.inr ⟨by rfl, rfl⟩))
      try simp only [Act.put, List.setIfInBounds_toArray, List.set_cons_zero, List.set_cons_succ]
      first | (refine wpAnyH_take (i := 1) (oi := ?o539) (v := ?v539) ?i539 (by kernel_rfl) (by kernel_rfl) (by kernel_rfl) ?q539 ?y539 (by assumption) ?r539; (case i539 => (simp only [List.getElem?_toArray, List.getElem?_cons_succ, List.getElem?_cons_zero]; rfl)); (case q539 => exact fun _ _ _ h => h); (case y539 => (refine Or.inl ⟨by rfl, ?_⟩; intro w hSw; (try dsimp only at hSw); go_simp; (try (with_reducible rfl))))) | (refine wpAnyH_take (i := 1) (oi := ?o540) (v := undef) ?i540 (by kernel_rfl) (by kernel_rfl) (by kernel_rfl) ?q540 ?y540 (by assumption) ?r540; (case i540 => (simp only [List.getElem?_toArray, List.getElem?_cons_succ, List.getElem?_cons_zero]; rfl)); (case q540 => exact fun _ _ _ h => h); (case y540 => exact Or.inr ⟨by rfl, rfl⟩))
      try simp only [Act.put, List.setIfInBounds_toArray, List.set_cons_zero, List.set_cons_succ]
      first | (refine wpAnyH_take (i := 2) (oi := ?o541) (v := ?v541) ?i541 (by kernel_rfl) (by kernel_rfl) (by kernel_rfl) ?q541 ?y541 (by assumption) ?r541; (case i541 => (simp only [List.getElem?_toArray, List.getElem?_cons_succ, List.getElem?_cons_zero]; rfl)); (case q541 => exact fun _ _ _ h => h); (case y541 => (refine Or.inl ⟨by rfl, ?_⟩; intro w hSw; (try dsimp only at hSw); go_simp; (try (with_reducible rfl))))) | (refine wpAnyH_take (i := 2) (oi := ?o542) (v := undef) ?i542 (by kernel_rfl) (by kernel_rfl) (by kernel_rfl) ?q542 ?y542 (by assumption) ?r542; (case i542 => (simp only [List.getElem?_toArray, List.getElem?_cons_succ, List.getElem?_cons_zero]; rfl)); (case q542 => exact fun _ _ _ h => h); (case y542 => exact Or.inr ⟨by rfl, rfl⟩))
      try simp only [Act.put, List.setIfInBounds_toArray, List.set_cons_zero, List.set_cons_succ]
      first | (refine wpAnyH_take (i := 3) (oi := ?o543) (v := ?v543) ?i543 (by kernel_rfl) (by kernel_rfl) (by kernel_rfl) ?q543 ?y543 (by assumption) ?r543; (case i543 => (simp only [List.getElem?_toArray, List.getElem?_cons_succ, List.getElem?_cons_zero]; rfl)); (case q543 => exact fun _ _ _ h => h); (case y543 => (refine Or.inl ⟨by rfl, ?_⟩; intro w hSw; (try dsimp only at hSw); go_simp; (try (with_reducible rfl))))) | (refine wpAnyH_take (i := 3) (oi := ?o544) (v := undef) ?i544 (by kernel_rfl) (by kernel_rfl) (by kernel_rfl) ?q544 ?y544 (by assumption) ?r544; (case i544 => (simp only [List.getElem?_toArray, List.getElem?_cons_succ, List.getElem?_cons_zero]; rfl)); (case q544 => exact fun _ _ _ h => h); (case y544 => exact Or.inr ⟨by rfl, rfl⟩))
      try simp only [Act.put, List.setIfInBounds_toArray, List.set_cons_zero, List.set_cons_succ]
      first | (refine wpAnyH_take (i := 4) (oi := ?o545) (v := ?v545) ?i545 (by kernel_rfl) (by kernel_rfl) (by kernel_rfl) ?q545 ?y545 (by assumption) ?r545; (case i545 => (simp only [List.getElem?_toArray, List.getElem?_cons_succ, List.getElem?_cons_zero]; rfl)); (case q545 => exact fun _ _ _ h => h); (case y545 => (refine Or.inl ⟨by rfl, ?_⟩; intro w hSw; (try dsimp only at hSw); go_simp; (try (with_reducible rfl))))) | (refine wpAnyH_take (i := 4) (oi := ?o546) (v := undef) ?i546 (by kernel_rfl) (by kernel_rfl) (by kernel_rfl) ?q546 ?y546 (by assumption) ?r546; (case i546 => (simp only [List.getElem?_toArray, List.getElem?_cons_succ, List.getElem?_cons_zero]; rfl)); (case q546 => exact fun _ _ _ h => h); (case y546 => exact Or.inr ⟨by rfl, rfl⟩))
      try simp only [Act.put, List.setIfInBounds_toArray, List.set_cons_zero, List.set_cons_succ]
      first | (refine wpAnyH_take (i := 5) (oi := ?o547) (v := ?v547) ?i547 (by kernel_rfl) (by kernel_rfl) (by kernel_rfl) ?q547 ?y547 (by assumption) ?r547; (case i547 => (simp only [List.getElem?_toArray, List.getElem?_cons_succ, List.getElem?_cons_zero]; rfl)); (case q547 => exact fun _ _ _ h => h); (case y547 => (refine Or.inl ⟨by rfl, ?_⟩; intro w hSw; (try dsimp only at hSw); go_simp; (try (with_reducible rfl))))) | (refine wpAnyH_take (i := 5) (oi := ?o548) (v := undef) ?i548 (by kernel_rfl) (by kernel_rfl) (by kernel_rfl) ?q548 ?y548 (by assumption) ?r548; (case i548 => (simp only [List.getElem?_toArray, List.getElem?_cons_succ, List.getElem?_cons_zero]; rfl)); (case q548 => exact fun _ _ _ h => h); (case y548 => exact Or.inr ⟨by rfl, rfl⟩))
      try simp only [Act.put, List.setIfInBounds_toArray, List.set_cons_zero, List.set_cons_succ]
      first | (refine wpAnyH_take (i := 6) (oi := ?o549) (v := ?v549) ?i549 (by kernel_rfl) (by kernel_rfl) (by kernel_rfl) ?q549 ?y549 (by assumption) ?r549; (case i549 => (simp only [List.getElem?_toArray, List.getElem?_cons_succ, List.getElem?_cons_zero]; rfl)); (case q549 => exact fun _ _ _ h => h); (case y549 => (refine Or.inl ⟨by rfl, ?_⟩; intro w hSw; (try dsimp only at hSw); go_simp; (try (with_reducible rfl))))) | (refine wpAnyH_take (i := 6) (oi := ?o550) (v := undef) ?i550 (by kernel_rfl) (by kernel_rfl) (by kernel_rfl) ?q550 ?y550 (by assumption) ?r550; (case i550 => (simp only [List.getElem?_toArray, List.getElem?_cons_succ, List.getElem?_cons_zero]; rfl)); (case q550 => exact fun _ _ _ h => h); (case y550 => exact Or.inr ⟨by rfl, rfl⟩))
      try simp only [Act.put, List.setIfInBounds_toArray, List.set_cons_zero, List.set_cons_succ]
      first | (refine wpAnyH_take (i := 7) (oi := ?o551) (v := ?v551) ?i551 (by kernel_rfl) (by kernel_rfl) (by kernel_rfl) ?q551 ?y551 (by assumption) ?r551; (case i551 => (simp only [List.getElem?_toArray, List.getElem?_cons_succ, List.getElem?_cons_zero]; rfl)); (case q551 => exact fun _ _ _ h => h); (case y551 => (refine Or.inl ⟨by rfl, ?_⟩; intro w hSw; (try dsimp only at hSw); go_simp; (try (with_reducible rfl))))) | (refine wpAnyH_take (i := 7) (oi := ?o552) (v := undef) ?i552 (by kernel_rfl) (by kernel_rfl) (by kernel_rfl) ?q552 ?y552 (by assumption) ?r552; (case i552 => (simp only [List.getElem?_toArray, List.getElem?_cons_succ, List.getElem?_cons_zero]; rfl)); (case q552 => exact fun _ _ _ h => h); (case y552 => exact Or.inr ⟨by rfl, rfl⟩))
      try simp only [Act.put, List.setIfInBounds_toArray, List.set_cons_zero, List.set_cons_succ]
      first | (refine wpAnyH_take (i := 8) (oi := ?o553) (v := ?v553) ?i553 (by kernel_rfl) (by kernel_rfl) (by kernel_rfl) ?q553 ?y553 (by assumption) ?r553; (case i553 => (simp only [List.getElem?_toArray, List.getElem?_cons_succ, List.getElem?_cons_zero]; rfl)); (case q553 => exact fun _ _ _ h => h); (case y553 => (refine Or.inl ⟨by rfl, ?_⟩; intro w hSw; (try dsimp only at hSw); go_simp; (try (with_reducible rfl))))) | (refine wpAnyH_take (i := 8) (oi := ?o554) (v := undef) ?i554 (by kernel_rfl) (by kernel_rfl) (by kernel_rfl) ?q554 ?y554 (by assumption) ?r554; (case i554 => (simp only [List.getElem?_toArray, List.getElem?_cons_succ, List.getElem?_cons_zero]; rfl)); (case q554 => exact fun _ _ _ h => h); (case y554 => exact Or.inr ⟨by rfl, rfl⟩))
      try simp only [Act.put, List.setIfInBounds_toArray, List.set_cons_zero, List.set_cons_succ]
      first | (refine wpAnyH_take (i := 9) (oi := ?o555) (v := ?v555) ?i555 (by kernel_rfl) (by kernel_rfl) (by kernel_rfl) ?q555 ?y555 (by assumption) ?r555; (case i555 => (simp only [List.getElem?_toArray, List.getElem?_cons_succ, List.getElem?_cons_zero]; rfl)); (case q555 => exact fun _ _ _ h => h); (case y555 => (refine Or.inl ⟨by rfl, ?_⟩; intro w hSw; (try dsimp only at hSw); go_simp; (try (with_reducible rfl))))) | (refine wpAnyH_take (i := 9) (oi := ?o556) (v := undef) ?i556 (by kernel_rfl) (by kernel_rfl) (by kernel_rfl) ?q556 ?y556 (by assumption) ?r556; (case i556 => (simp only [List.getElem?_toArray, List.getElem?_cons_succ, List.getElem?_cons_zero]; rfl)); (case q556 => exact fun _ _ _ h => h); (case y556 => exact Or.inr ⟨by rfl, rfl⟩))
      try simp only [Act.put, List.setIfInBounds_toArray, List.set_cons_zero, List.set_cons_succ]
      first | (refine wpAnyH_take (i := 10) (oi := ?o557) (v := ?v557) ?i557 (by kernel_rfl) (by kernel_rfl) (by kernel_rfl) ?q557 ?y557 (by assumption) ?r557; (case i557 => (simp only [List.getElem?_toArray, List.getElem?_cons_succ, List.getElem?_cons_zero]; rfl)); (case q557 => exact fun _ _ _ h => h); (case y557 => (refine Or.inl ⟨by rfl, ?_⟩; intro w hSw; (try dsimp only at hSw); go_simp; (try (with_reducible rfl))))) | (refine wpAnyH_take (i := 10) (oi := ?o558) (v := undef) ?i558 (by kernel_rfl) (by kernel_rfl) (by kernel_rfl) ?q558 ?y558 (by assumption) ?r558; (case i558 => (simp only [List.getElem?_toArray, List.getElem?_cons_succ, List.getElem?_cons_zero]; rfl)); (case q558 => exact fun _ _ _ h => h); (case y558 => exact Or.inr ⟨by rfl, rfl⟩))
      try simp only [Act.put, List.setIfInBounds_toArray, List.set_cons_zero, List.set_cons_succ]
      first | (refine wpAnyH_take (i := 11) (oi := ?o559) (v := ?v559) ?i559 (by kernel_rfl) (by kernel_rfl) (by kernel_rfl) ?q559 ?y559 (by assumption) ?r559; (case i559 => (simp only [List.getElem?_toArray, List.getElem?_cons_succ, List.getElem?_cons_zero]; rfl)); (case q559 => exact fun _ _ _ h => h); (case y559 => (refine Or.inl ⟨by rfl, ?_⟩; intro w hSw; (try dsimp only at hSw); go_simp; (try (with_reducible rfl))))) | (refine wpAnyH_take (i := 11) (oi := ?o560) (v := undef) ?i560 (by kernel_rfl) (by kernel_rfl) (by kernel_rfl) ?q560 ?y560 (by assumption) ?r560; (case i560 => (simp only [List.getElem?_toArray, List.getElem?_cons_succ, List.getElem?_cons_zero]; rfl)); (case q560 => exact fun _ _ _ h => h); (case y560 => exact Or.inr ⟨by rfl, rfl⟩))
      try simp only [Act.put, List.setIfInBounds_toArray, List.set_cons_zero, List.set_cons_succ]
      first | (refine wpAnyH_take (i := 12) (oi := ?o561) (v := ?v561) ?i561 (by kernel_rfl) (by kernel_rfl) (by kernel_rfl) ?q561 ?y561 (by assumption) ?r561; (case i561 => (simp only [List.getElem?_toArray, List.getElem?_cons_succ, List.getElem?_cons_zero]; rfl)); (case q561 => exact fun _ _ _ h => h); (case y561 => (refine Or.inl ⟨by rfl, ?_⟩; intro w hSw; (try dsimp only at hSw); go_simp; (try (with_reducible rfl))))) | (refine wpAnyH_take (i := 12) (oi := ?o562) (v := undef) ?i562 (by kernel_rfl) (by kernel_rfl) (by kernel_rfl) ?q562 ?y562 (by assumption) ?r562; (case i562 => (simp only [List.getElem?_toArray, List.getElem?_cons_succ, List.getElem?_cons_zero]; rfl)); (case q562 => exact fun _ _ _ h => h); (case y562 => exact Or.inr ⟨by rfl, rfl⟩))
      try simp only [Act.put, List.setIfInBounds_toArray, List.set_cons_zero, List.set_cons_succ]
      first | (refine wpAnyH_take (i := 13) (oi := ?o563) (v := ?v563) ?i563 (by kernel_rfl) (by kernel_rfl) (by kernel_rfl) ?q563 ?y563 (by assumption) ?r563; (case i563 => (simp only [List.getElem?_toArray, List.getElem?_cons_succ, List.getElem?_cons_zero]; rfl)); (case q563 => exact fun _ _ _ h => h); (case y563 => (refine Or.inl ⟨by rfl, ?_⟩; intro w hSw; (try dsimp only at hSw); go_simp; (try (with_reducible rfl))))) | (refine wpAnyH_take (i := 13) (oi := ?o564) (v := undef) ?i564 (by kernel_rfl) (by kernel_rfl) (by kernel_rfl) ?q564 ?y564 (by assumption) ?r564; (case i564 => (simp only [List.getElem?_toArray, List.getElem?_cons_succ, List.getElem?_cons_zero]; rfl)); (case q564 => exact fun _ _ _ h => h); (case y564 => exact Or.inr ⟨by rfl, rfl⟩))
      try simp only [Act.put, List.setIfInBounds_toArray, List.set_cons_zero, List.set_cons_succ]
      first | (refine wpAnyH_take (i := 14) (oi := ?o565) (v := ?v565) ?i565 (by kernel_rfl) (by kernel_rfl) (by kernel_rfl) ?q565 ?y565 (by assumption) ?r565; (case i565 => (simp only [List.getElem?_toArray, List.getElem?_cons_succ, List.getElem?_cons_zero]; rfl)); (case q565 => exact fun _ _ _ h => h); (case y565 => (refine Or.inl ⟨by rfl, ?_⟩; intro w hSw; (try dsimp only at hSw); go_simp; (try (with_reducible rfl))))) | (refine wpAnyH_take (i := 14) (oi := ?o566) (v := undef) ?i566 (by kernel_rfl) (by kernel_rfl) (by kernel_rfl) ?q566 ?y566 (by assumption) ?r566; (case i566 => (simp only [List.getElem?_toArray, List.getElem?_cons_succ, List.getElem?_cons_zero]; rfl)); (case q566 => exact fun _ _ _ h => h); (case y566 => exact Or.inr ⟨by rfl, rfl⟩))
      try simp only [Act.put, List.setIfInBounds_toArray, List.set_cons_zero, List.set_cons_succ]
      first | (refine wpAnyH_take (i := 15) (oi := ?o567) (v := ?v567) ?i567 (by kernel_rfl) (by kernel_rfl) (by kernel_rfl) ?q567 ?y567 (by assumption) ?r567; (case i567 => (simp only [List.getElem?_toArray, List.getElem?_cons_succ, List.getElem?_cons_zero]; rfl)); (case q567 => exact fun _ _ _ h => h); (case y567 => (refine Or.inl ⟨by rfl, ?_⟩; intro w hSw; (try dsimp only at hSw); go_simp; (try (with_reducible rfl))))) | (refine wpAnyH_take (i := 15) (oi := ?o568) (v := undef) ?i568 (by kernel_rfl) (by kernel_rfl) (by kernel_rfl) ?q568 ?y568 (by assumption) ?r568; (case i568 => (simp only [List.getElem?_toArray, List.getElem?_cons_succ, List.getElem?_cons_zero]; rfl)); (case q568 => exact fun _ _ _ h => h); (case y568 => exact Or.inr ⟨by rfl, rfl⟩))
      try simp only [Act.put, List.setIfInBounds_toArray, List.set_cons_zero, List.set_cons_succ]
      first | (refine wpAnyH_take (i := 16) (oi := ?o569) (v := ?v569) ?i569 (by kernel_rfl) (by kernel_rfl) (by kernel_rfl) ?q569 ?y569 (by assumption) ?r569; (case i569 => (simp only [List.getElem?_toArray, List.getElem?_cons_succ, List.getElem?_cons_zero]; rfl)); (case q569 => exact fun _ _ _ h => h); (case y569 => (refine Or.inl ⟨by rfl, ?_⟩; intro w hSw; (try dsimp only at hSw); go_simp; (try (with_reducible rfl))))) | (refine wpAnyH_take (i := 16) (oi := ?o570) (v := undef) ?i570 (by kernel_rfl) (by kernel_rfl) (by kernel_rfl) ?q570 ?y570 (by assumption) ?r570; (case i570 => (simp only [List.getElem?_toArray, List.getElem?_cons_succ, List.getElem?_cons_zero]; rfl)); (case q570 => exact fun _ _ _ h => h); (case y570 => exact Or.inr ⟨by rfl, rfl⟩))
      try simp only [Act.put, List.setIfInBounds_toArray, List.set_cons_zero, List.set_cons_succ]
      first | (refine wpAnyH_take (i := 17) (oi := ?o571) (v := ?v571) ?i571 (by kernel_rfl) (by kernel_rfl) (by kernel_rfl) ?q571 ?y571 (by assumption) ?r571; (case i571 => (simp only [List.getElem?_toArray, List.getElem?_cons_succ, List.getElem?_cons_zero]; rfl)); (case q571 => exact fun _ _ _ h => h); (case y571 => (refine Or.inl ⟨by rfl, ?_⟩; intro w hSw; (try dsimp only at hSw); go_simp; (try (with_reducible rfl))))) | (refine wpAnyH_take (i := 17) (oi := ?o572) (v := undef) ?i572 (by kernel_rfl) (by kernel_rfl) (by kernel_rfl) ?q572 ?y572 (by assumption) ?r572; (case i572 => (simp only [List.getElem?_toArray, List.getElem?_cons_succ, List.getElem?_cons_zero]; rfl)); (case q572 => exact fun _ _ _ h => h); (case y572 => exact Or.inr ⟨by rfl, rfl⟩))
      try simp only [Act.put, List.setIfInBounds_toArray, List.set_cons_zero, List.set_cons_succ]
      first | (refine wpAnyH_take (i := 18) (oi := ?o573) (v := ?v573) ?i573 (by kernel_rfl) (by kernel_rfl) (by kernel_rfl) ?q573 ?y573 (by assumption) ?r573; (case i573 => (simp only [List.getElem?_toArray, List.getElem?_cons_succ, List.getElem?_cons_zero]; rfl)); (case q573 => exact fun _ _ _ h => h); (case y573 => (refine Or.inl ⟨by rfl, ?_⟩; intro w hSw; (try dsimp only at hSw); go_simp; (try (with_reducible rfl))))) | (refine wpAnyH_take (i := 18) (oi := ?o574) (v := undef) ?i574 (by kernel_rfl) (by kernel_rfl) (by kernel_rfl) ?q574 ?y574 (by assumption) ?r574; (case i574 => (simp only [List.getElem?_toArray, List.getElem?_cons_succ, List.getElem?_cons_zero]; rfl)); (case q574 => exact fun _ _ _ h => h); (case y574 => exact Or.inr ⟨by rfl, rfl⟩))
      try simp only [Act.put, List.setIfInBounds_toArray, List.set_cons_zero, List.set_cons_succ]
      refine wpAnyH_ready (rs := [19]) (by kernel_rfl) (by simp) ?_
      refine AllReadyH.cons (by (simp only [List.getElem?_toArray, List.getElem?_cons_succ, List.getElem?_cons_zero]; rfl)) (fun K hK => ?_) AllReadyH.nil
      go_simp
      (go_at_call 36; (with_reducible refine HAPP.out.mono ?_); rintro e w10 ⟨rfl, hf10, hb10, hk10⟩; have hl10 : RLog r t x cap rest { st := g8.st.set m 1, op := (m : Int), pg := 1, nx := g.nx + 1 } w10 := LY.out.step (hk10 r (.inl (.inl hr))) (hk10 t (.inl (.inl ht))); have s0 := hl10.c0; have s2 := hl10.c2; have s3 := hl10.c3; have s4 := hl10.c4; have fr3 := hl10.fr 3; have x8 := (hk10 w.heap.size (.inl (.inr ⟨Nat.le_refl _, by omega⟩))).trans ((BY.out.block _ (blt X813.out)).trans X813.out); have x12 := (hk10 w13.heap.size (.inr ⟨Nat.le_refl _, by show _ < Y.heap.size; omega⟩)).trans QY.out; have m0 : w10.cell? ⟨w.heap.size, 0, none⟩ = some (.int .i64 0) := bcell x8 0; have m1 : w10.cell? ⟨w.heap.size, 1, none⟩ = some (.int .i64 0) := bcell x8 1; have mf : ∀ j, w10.frozen? ⟨w.heap.size, j, none⟩ = false := (fun j => bfrozen x8 j); have t0 : w10.cell? ⟨w13.heap.size, 0, none⟩ = some (.int .i64 (m : Int)) := bcell x12 0; have t1 : w10.cell? ⟨w13.heap.size, 1, none⟩ = some (.int .i64 1) := bcell x12 1; have HL10 := Aside0.mk hl10; have X810 := Lib.hid x8; have HG10 := Aside0.mk hf10; have HB10 := Aside0.mk (BX.out.trans ((show Below N0 w13 Y.drew from (BY.out.drew).mono (by have := BX.out.size; omega)).trans hb10)); have HKR := Lib.hid hk10; clear hl10 hf10 hb10 hk10 x8 x12)
      (try dsimp only)
      refine hK.out _ _ ?_ (fun hHeld => ?_)
      · first | exact ⟨zY0, zY2, zY3, zY4⟩ | exact ⟨s0, s2, s3, s4⟩
      clear hK K
      try simp only [Act.put, List.setIfInBounds_toArray, List.set_cons_zero, List.set_cons_succ]
      refine wpAnyH_done (by kernel_rfl) ?_ _
      go_wp2_with fail
      have HK10 := Lib.hid (show Kept (fun k => K k ∧ k ≠ r ∧ k ≠ t) w w10 from fun k hk => (HKR.out k (.inl (.inl hk.1))).trans ((BY.out.block k (by have := HLT.out k hk.1; have := BX.out.size; omega)).trans (KX.out k hk)))
      have hl11 := HL10.out.setPg (1 + (kk : Int))
      have hu11 := Upd.setCell w10 (p := ⟨r, 3, none⟩) (S := fun k => k = r) rfl (.int .i64 (1 + (kk : Int)))
      have hf11 := hSt _ _ w10 _ r _ _ _ HG10.out (.inl (.inl hr)) HL10.out.blk hl11.blk (by decide) hu11
      have s10' := hG.size HG10.out
      have hb11 := HB10.out.trans (hu11.below s10' (fun k hk => by rw [hk]; exact hNr))
      have x811 := (hu11.block w.heap.size (blt X810.out) (fun e => nq3 e)).trans X810.out
      have hk11 : Kept (fun k => K k ∧ k ≠ r ∧ k ≠ t) w (w10.setCell ⟨r, 3, none⟩ (.int .i64 (1 + (kk : Int)))) := fun k hk => (hu11.block k (hG.lt HG10.out k (.inl (.inl hk.1))) hk.2.1).trans (HK10.out k hk)
      obtain ⟨w9, hw9⟩ : ∃ w9, w9 = ((w10.setCell ⟨r, 3, none⟩ (.int .i64 (1 + (kk : Int)))).setCell ⟨w.heap.size, 0, none⟩ (.int .i64 (m : Int))).setCell ⟨w.heap.size, 1, none⟩ (.int .i64 1) := ⟨_, rfl⟩
      rw [← hw9]
      obtain ⟨r8, hf9, hl9, hb9, hk9⟩ := rput_end hG hSt hf11 hl11 hr ht HLT.out hsz (Nat.le_refl _) x811 (.inl (.inr ⟨Nat.le_refl _, by omega⟩)) (fun k hk => .inl (.inl hk)) hb11 hk11 hw9
      have r0 := bcell r8 0
      have r1 := bcell r8 1
      exact bodyPost_ret (v := .tuple #[.agg #[.int .i64 (m : Int), .int .i64 1], .int .i64 0]) (by simp [results, Try.results69, go_sem, r0, r1]) rfl ⟨rfl, hf9, by rw [← HKP.out, ← HG8E.out]; exact hl9, hb9, hk9⟩
end
end Go.Proofs.Ytmbiebdcnadhkaa.Fl

/- The driver's log: Append and Move, over put: walked. -/
namespace Go.Proofs.Ytmbiebdcnadhkaa.Fl
open Go.RowKit Go.Proofs.YtmbiebdcnadhkaaW.PrintWords Go.Proofs.YtmbiebdcnadhkaaW.PrintMore Go.Maps
set_option linter.unusedSimpArgs false
set_option linter.unusedVariables false
section
variable {N0 p q : Nat} {F : (Nat → Prop) → PD → World → Prop} {K : Nat → Prop} {D D2 : PD} {g g2 : LG} {w : World} {v : Value} {kind er : Int} {at_ : Adr}
set_option maxHeartbeats 1000000 in
set_option maxRecDepth 100000 in
theorem LAppend_F (hF : DevFrame N0 p F) (hSt : ∀ D, Stays (fun K w => F K D w)) (h : F K D w) (hl : LogIs q p g w) (hq : K q)
    (hput : ∀ (K2 : Nat → Prop) (X : World), (∀ k, K k → K2 k) → F K2 D X → LogIs q p g X → Below w.heap.size w X → Calls Try.prog 101 #[.pointer (some ⟨q, 0, none⟩), .int .u8 kind, v, .int .i64 2] X (PutPost N0 q p F K2 X at_ er D2 g2)) :
    Calls Try.prog 64 #[.pointer (some ⟨q, 0, none⟩), .int .u8 kind, v] w (PutPost N0 q p F K w at_ er D2 g2) := by
  have hsz := hF.size h
  have hlt := fun k hk => hF.lt h k hk
  obtain ⟨W, hW⟩ : ∃ W, W = w.alloc (.cells #[.int .i64 0, .int .i64 0] TA) := ⟨_, rfl⟩
  have q6 : W.heap[w.heap.size]? = some (.cells #[.int .i64 0, .int .i64 0] TA (0, 0)) := by rw [hW]; exact blk_new _ _
  have wb : Below w.heap.size w W := by rw [hW]; exact below_alloc (Below.refl _ _) _
  have wsz : W.heap.size = w.heap.size + 1 := by rw [hW, size_alloc]
  have hpu := hput _ W (fun k hk => .inl hk) (hF.keep h wb) (hl.below wb) wb
  have HPU := Lib.hid hpu
  have HW := Lib.hid hW
  have Q6 := Lib.hid q6
  have WB := Aside0.mk wb
  have HLT := Lib.hid hlt
  clear hput hpu hW q6 wb hlt h hl
  go_enter Try.func64, Try.ntmps64
  go_wp2_with (first
    | (rw [← HW.out])
    | (go_at_call 101; (with_reducible refine HPU.out.mono ?_); rintro e w1 ⟨rfl, hf, hl, hb, hk⟩; have x6 := (hk w.heap.size ⟨.inr ⟨Nat.le_refl _, by omega⟩, (by have := HLT.out q hq; omega)⟩).trans Q6.out; have z0 : w1.cell? ⟨w.heap.size, 0, none⟩ = some (.int .i64 0) := bcell x6 0; have z1 : w1.cell? ⟨w.heap.size, 1, none⟩ = some (.int .i64 0) := bcell x6 1; have zf : ∀ j, w1.frozen? ⟨w.heap.size, j, none⟩ = false := (fun j => bfrozen x6 j); have X6 := Lib.hid x6; have HF1 := Aside0.mk hf; have HL1 := Aside0.mk hl; have HB1 := Aside0.mk hb; have HK1 := Lib.hid hk; clear hf hl hb hk x6)
    | fail)
  obtain ⟨w9, hw9⟩ : ∃ w9, w9 = (w1.setCell ⟨w.heap.size, 0, none⟩ (.int .i64 at_.1)).setCell ⟨w.heap.size, 1, none⟩ (.int .i64 at_.2) := ⟨_, rfl⟩
  rw [← hw9]
  obtain ⟨r8, hf9, hl9, hb9, hk9⟩ := put_end hF hSt HF1.out HL1.out hq HLT.out hsz (Nat.le_refl _) X6.out (.inr ⟨Nat.le_refl _, by omega⟩) (fun k hk => .inl hk) ((WB.out.mono hsz).trans HB1.out) (fun k hk => (HK1.out k ⟨.inl hk.1, hk.2⟩).trans (WB.out.block k (HLT.out k hk.1))) hw9
  have r0 := bcell r8 0
  have r1 := bcell r8 1
  exact bodyPost_ret (v := .tuple #[.agg #[.int .i64 at_.1, .int .i64 at_.2], .int .i64 er]) (by simp [results, Try.results64, go_sem, r0, r1]) rfl ⟨rfl, hf9, hl9, hb9, hk9⟩
set_option maxHeartbeats 1000000 in
set_option maxRecDepth 100000 in
theorem LMove_F (hF : DevFrame N0 p F) (hSt : ∀ D, Stays (fun K w => F K D w)) (h : F K D w) (hl : LogIs q p g w) (hq : K q)
    (hput : ∀ (K2 : Nat → Prop) (X : World), (∀ k, K k → K2 k) → F K2 D X → LogIs q p g X → Below w.heap.size w X → Calls Try.prog 101 #[.pointer (some ⟨q, 0, none⟩), .int .u8 kind, v, .int .i64 1] X (PutPost N0 q p F K2 X at_ er D2 g2)) :
    Calls Try.prog 68 #[.pointer (some ⟨q, 0, none⟩), .int .u8 kind, v] w (PutPost N0 q p F K w at_ er D2 g2) := by
  have hsz := hF.size h
  have hlt := fun k hk => hF.lt h k hk
  obtain ⟨W, hW⟩ : ∃ W, W = w.alloc (.cells #[.int .i64 0, .int .i64 0] TA) := ⟨_, rfl⟩
  have q6 : W.heap[w.heap.size]? = some (.cells #[.int .i64 0, .int .i64 0] TA (0, 0)) := by rw [hW]; exact blk_new _ _
  have wb : Below w.heap.size w W := by rw [hW]; exact below_alloc (Below.refl _ _) _
  have wsz : W.heap.size = w.heap.size + 1 := by rw [hW, size_alloc]
  have hpu := hput _ W (fun k hk => .inl hk) (hF.keep h wb) (hl.below wb) wb
  have HPU := Lib.hid hpu
  have HW := Lib.hid hW
  have Q6 := Lib.hid q6
  have WB := Aside0.mk wb
  have HLT := Lib.hid hlt
  clear hput hpu hW q6 wb hlt h hl
  go_enter Try.func68, Try.ntmps68
  go_wp2_with (first
    | (rw [← HW.out])
    | (go_at_call 101; (with_reducible refine HPU.out.mono ?_); rintro e w1 ⟨rfl, hf, hl, hb, hk⟩; have x6 := (hk w.heap.size ⟨.inr ⟨Nat.le_refl _, by omega⟩, (by have := HLT.out q hq; omega)⟩).trans Q6.out; have z0 : w1.cell? ⟨w.heap.size, 0, none⟩ = some (.int .i64 0) := bcell x6 0; have z1 : w1.cell? ⟨w.heap.size, 1, none⟩ = some (.int .i64 0) := bcell x6 1; have zf : ∀ j, w1.frozen? ⟨w.heap.size, j, none⟩ = false := (fun j => bfrozen x6 j); have X6 := Lib.hid x6; have HF1 := Aside0.mk hf; have HL1 := Aside0.mk hl; have HB1 := Aside0.mk hb; have HK1 := Lib.hid hk; clear hf hl hb hk x6)
    | fail)
  obtain ⟨w9, hw9⟩ : ∃ w9, w9 = (w1.setCell ⟨w.heap.size, 0, none⟩ (.int .i64 at_.1)).setCell ⟨w.heap.size, 1, none⟩ (.int .i64 at_.2) := ⟨_, rfl⟩
  rw [← hw9]
  obtain ⟨r8, hf9, hl9, hb9, hk9⟩ := put_end hF hSt HF1.out HL1.out hq HLT.out hsz (Nat.le_refl _) X6.out (.inr ⟨Nat.le_refl _, by omega⟩) (fun k hk => .inl hk) ((WB.out.mono hsz).trans HB1.out) (fun k hk => (HK1.out k ⟨.inl hk.1, hk.2⟩).trans (WB.out.block k (HLT.out k hk.1))) hw9
  have r0 := bcell r8 0
  have r1 := bcell r8 1
  exact bodyPost_ret (v := .tuple #[.agg #[.int .i64 at_.1, .int .i64 at_.2], .int .i64 er]) (by simp [results, Try.results68, go_sem, r0, r1]) rfl ⟨rfl, hf9, hl9, hb9, hk9⟩
end
end Go.Proofs.Ytmbiebdcnadhkaa.Fl

/- A slice of a log's deeds, its cells; Few: walked. No condition. -/
namespace Go.Proofs.Ytmbiebdcnadhkaa.Fl
open Go.RowKit Go.Proofs.YtmbiebdcnadhkaaW.PrintWords Go.Proofs.YtmbiebdcnadhkaaW.PrintMore Go.Maps
set_option linter.unusedSimpArgs false
set_option linter.unusedVariables false
structure SDeed where
  kd : Int
  wh : Int
  l : List Int
  sg : Int
structure SDeedOk (r : SDeed) : Prop where
  kd : KindOk r.wh
  byt : Byt r.l
structure SCell (w : World) (ad : Addr) (i : Nat) (r : SDeed) (A : Option Addr) (c : Nat) : Prop where
  c0 : w.cell? (ad.add (i * 4)) = some (.int .i64 r.kd)
  c1 : w.cell? ⟨(ad.add (i * 4)).block, (ad.add (i * 4)).off + 1, none⟩ = some (.int .u8 r.wh)
  c2 : w.cell? ⟨(ad.add (i * 4)).block, (ad.add (i * 4)).off + 2, none⟩ = some (.slice A r.l.length c)
  c3 : w.cell? ⟨(ad.add (i * 4)).block, (ad.add (i * 4)).off + 3, none⟩ = some (.int .i64 r.sg)
  row : kB.C w A r.l.length r.l
  cap : r.l.length ≤ c
def LRow (w : World) (A : Option Addr) (rs : List SDeed) : Prop := ∀ (i : Nat) (r : SDeed), rs[i]? = some r → ∃ ad A1 c1, A = some ad ∧ SCell w ad i r A1 c1
theorem SCell.below {w w' : World} {ad : Addr} {i : Nat} {r : SDeed} {A : Option Addr} {c : Nat} (h : SCell w ad i r A c) (hb : Below w.heap.size w w') : SCell w' ad i r A c :=
  have f : ∀ {a : Addr} {v : Value}, w.cell? a = some v → w'.cell? a = some v := fun h => (hb.cell (blt_of_cell h)).trans h
  ⟨f h.c0, f h.c1, f h.c2, f h.c3, Kd.C_below h.row hb, h.cap⟩
theorem LRow.below {w w' : World} {A : Option Addr} {rs : List SDeed} (h : LRow w A rs) (hb : Below w.heap.size w w') : LRow w' A rs := fun i d hi => by
  obtain ⟨ad, A1, c1, h1, h2⟩ := h i d hi
  exact ⟨ad, A1, c1, h1, h2.below hb⟩
def fewS (rs : List SDeed) : Bool := rs.all (fun r => decide (r.l.length ≤ 400)) && decide (rs.length ≤ 60)
theorem fewS_ok {rs : List SDeed} (h : fewS rs = true) : rs.length ≤ 60 ∧ ∀ r ∈ rs, r.l.length ≤ 400 := by
  unfold fewS at h
  simp at h
  exact ⟨h.2, h.1⟩
theorem allS_take_succ {q : SDeed → Bool} {rs : List SDeed} {k : Nat} {r : SDeed} (h : rs[k]? = some r) : (rs.take (k + 1)).all q = ((rs.take k).all q && q r) := by
  rw [List.take_add_one, h, List.all_append]
  simp
set_option maxHeartbeats 2000000 in
set_option maxRecDepth 100000 in
theorem Few15_any {w : World} {A : Option Addr} {c : Nat} {rs : List SDeed} (hr : LRow w A rs) (h0 : rs.length ≤ 9223372036854775807) :
    Calls Try.prog 23 #[.slice A rs.length c] w fun e w' => e = .returned (.bool (fewS rs)) ∧ Below w.heap.size w w' := by
  obtain ⟨n, hn⟩ : ∃ n, n = rs.length := ⟨_, rfl⟩
  have HR := Lib.hid hr
  have HN := Lib.hid hn
  rw [← hn] at h0
  rw [← hn]
  clear hr hn
  go_enter Try.func23, Try.ntmps23
  go_wp2
  go_loopw [4, 7] (fun v4 v7 wr => ∃ k : Nat, k ≤ n ∧ v7 = .int .i64 (k : Int) ∧ Below w.heap.size w wr ∧ (rs.take k).all (fun r => decide (r.l.length ≤ 400)) = true) (fun _ v7 _ => n - (intOf v7).toNat)
  case atStart => exact ⟨0, Nat.zero_le _, rfl, Below.refl _ _, rfl⟩
  case round =>
    obtain ⟨k, hk, rfl, hb, ht⟩ := hrel
    have HB := Aside0.mk hb
    have HT := Lib.hid ht
    clear hb ht
    by_cases hlt : k < n
    · obtain ⟨r, hd⟩ : ∃ r, rs[k]? = some r := ⟨_, List.getElem?_eq_getElem (by have := HN.out; omega)⟩
      obtain ⟨ad, A1, c1, hA, hc⟩ := HR.out k r hd
      have hc := hc.below HB.out
      subst hA
      have d0 := hc.c0; have d1 := hc.c1; have d2 := hc.c2; have d3 := hc.c3
      have HD := Lib.hid hd
      have k0 : (0 : Int) ≤ (k : Int) := by omega
      have k2 : (k : Int) < (n : Int) := by omega
      clear hd hc
      obtain ⟨ra, rb, dl, rk⟩ := r
      simp only at d0 d1 d2 d3
      by_cases hg : dl.length ≤ 400
      · have e1 : decide (400 < (dl.length : Int)) = false := by simp; omega
        go_wp2
        refine ⟨⟨k + 1, by omega, by go_num, below_alloc HB.out _, ?_⟩, by simp [intOf]; omega⟩
        rw [allS_take_succ HD.out, HT.out]
        simpa using hg
      · have e1 : decide (400 < (dl.length : Int)) = true := by simp; omega
        go_wp2
        go_ret
        refine ⟨?_, below_alloc HB.out _⟩
        have : fewS rs = false := by
          unfold fewS
          rw [List.all_eq_false.2 ⟨_, List.mem_of_getElem? HD.out, by simpa using hg⟩]
          rfl
        rw [this]
        rfl
    · obtain rfl : k = n := by omega
      have ha : fewS rs = decide ((k : Int) ≤ 60) := by
        have h := HT.out
        rw [List.take_of_length_le (by have := HN.out; omega)] at h
        unfold fewS
        rw [h, ← HN.out]
        simp only [Bool.true_and, decide_eq_decide]
        omega
      have HA := Lib.hid ha
      clear ha
      go_wp2
      go_ret
      exact ⟨by rw [HA.out]; rfl, HB.out⟩
end Go.Proofs.Ytmbiebdcnadhkaa.Fl

/- How arguments of a law are opened to values: small facts for the rows. -/
namespace Go.Proofs.Ytmbiebdcnadhkaa.Opens
open Go.ChangeShapes Go.WideShapes Go.ChangeAt Go.RowKit Go.Joins Go.Deep Go.Proofs.YtmbiebdcnadhkaaW.PrintWords
section
variable {H : Type} {enc : TypeId × Value → H} {P : Program} {w : World} {base : Nat} {spare : Nat → Bool} {held : Bool}
/-- A slice of whole numbers, laid in one cell. -/
theorem cell_ints {t e : TypeId} {k : IntKind} {fuel : Nat} {u : Value} {x : DataW H × List MemPlace} (ht : P.underlying t = some (.slice e)) (he : P.underlying e = some (.int k)) (hC : P.cellsOf e = 1)
    (h : DataW.trod enc P w base spare held fuel t [u] = some x) :
    ∃ (A : Option Addr) (c : Nat) (l : List Int), [u] = [Value.slice A l.length c] ∧ Kd.C (Kd.int k) w A l.length l ∧ l.length ≤ c ∧ l.length ≤ maxLen ∧ (∀ n ∈ l, (Lit.int k n).wf = true) := by
  rcases open_ints ht he hC h with ⟨hcs, _⟩ | ⟨a, len, cap, zs, hcs, _, hl, hm, hz, _, hcell, hwz⟩
  · refine ⟨none, 0, [], hcs, ?_, Nat.le_refl _, Nat.zero_le _, fun n hn => by cases hn⟩
    exact Kd.C_of_reads (d := (0 : Int)) (h1 := fun _ => rfl) ⟨rfl, by simp, fun h => absurd h (by simp)⟩
  · have hlz : len ≤ zs.length := by
      rw [hz]
      split
      · exact hl
      · exact Nat.le_refl _
    have e : (zs.take len).length = len := by rw [List.length_take]; omega
    refine ⟨some a, cap, zs.take len, by rw [e]; exact hcs, ?_, by omega, by rw [e]; omega, fun n hn => hwz n (List.mem_of_mem_take hn)⟩
    refine Kd.C_of_reads (d := (0 : Int)) (h1 := fun _ => rfl) ⟨rfl, by rw [e]; unfold maxLen at hm; omega, fun _ => ⟨a, rfl, fun j hj => ?_⟩⟩
    rw [e] at hj
    rw [hcell j (by omega)]
    simp [List.getD_eq_getElem?_getD, hj]

end
end Go.Proofs.Ytmbiebdcnadhkaa.Opens

