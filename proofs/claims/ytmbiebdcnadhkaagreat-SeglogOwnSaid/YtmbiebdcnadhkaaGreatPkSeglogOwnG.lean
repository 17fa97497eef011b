/- The parts of this proof, one after the other (wip/tools/packall.py, shake.py). -/
import Derived.Test.YtmbiebdcnadhkaaGreatPkSeglogOwnF
import Derived.ProofKit
import Derived.Lib.SmallJoins
import Derived.Test.YtmbiebdcnadhkaaGreatPkSeglogOwnB
import Derived.Test.YtmbiebdcnadhkaaGreatPkSeglogOwnC
import Derived.Deep.Slices
set_option linter.unusedVariables false
set_option linter.unusedSimpArgs false
namespace Go.Proofs.YtmbiebdcnadhkaaGreat.Fl
open Go.RowKit Go.Proofs.YtmbiebdcnadhkaaGreatW.PrintWords Go.Proofs.YtmbiebdcnadhkaaGreatW.PrintMore Go.Maps
theorem size_alloc (w : World) (o : Obj) : (w.alloc o).heap.size = w.heap.size + 1 := by
 show (w.heap.push o).size = _
 rw [Array.size_push]
theorem pair_blk (w : World) (o o' : Obj) : ((w.alloc o).alloc o').heap[w.heap.size]? = some o ∧ ((w.alloc o).alloc o').heap[w.heap.size + 1]? = some o' := by
 have h1 := blk_new w o
 have h2 := blk_new (w.alloc o) o'
 have hs := size_alloc w o
 rw [hs] at h2
 exact ⟨((below_alloc (Below.refl _ _) _).block _ (by rw [hs]; omega)).trans h1, h2⟩
abbrev TBs : TypeId := 25
abbrev TSh : TypeId := 23
theorem putfits_clo : CloFn 83 := ⟨_, Tryz.func83, by kernel_rfl, rfl⟩
theorem closG {ops : Array Oper} {Q : Exit → Act → World → Prop} {rest : List Oper} {oi : Oper} {a : Act} {w : World} (N : Option Tmp) (hd : oi.dst = N) (hw : Region.wanted oi (yielded ops a.tmps) = true) (t : Tmp) {f : FuncId} {caps : Array Value} {as_ : Array Operand} {ts : Array TypeId} (hf : CloFn f) (args : Array Value)
  (hop : oi.op = .call { callee := .value (.tmp t), args := as_, argTypes := ts }) (ht : a.eval (.tmp t) = .func (.func f) #[] caps) (hargs : as_.map a.eval = args)
  (h : Calls Tryz.prog f (args ++ caps) w fun e w' => ∃ v, e = .returned v ∧ wpList Tryz.prog ops Q rest (a.put N v) w') : wpList Tryz.prog ops Q (oi :: rest) a w := by
 obtain ⟨fn, hf, hname, hb⟩ := hf
 refine wpList_step fun K hK => ?_
 simp only [hw, if_true]
 have he := Go.Proofs.YtmbiebdcnadhkaaGreatW.PrintLast.enters_ hf hname hb (args ++ caps) w
 have hrun : (execOp a.eval oi).run Tryz.prog w = .ok (.enter f (args ++ caps)) w := by
  unfold execOp
  simp [hop, resolve, Deferred.ofValue, invoke, ht, hargs, he]
 unfold Oper.wp
 rw [hrun, Oper.upon_enter]
 refine h.mono fun e w'' hh => ?_
 obtain ⟨v, rfl, hk⟩ := hh
 rw [hd]
 exact hK _ _ hk
def PutPost (N0 q p : Nat) (F : (Nat → Prop) → PD → World → Prop) (K : Nat → Prop) (w : World) (at_ : Adr) (er : Int) (D : PD) (g : LG) (e : Ending) (w' : World) : Prop :=
 e = .returned (.tuple #[.agg #[.int .i64 at_.1, .int .i64 at_.2], .int .i64 er]) ∧ F K D w' ∧ LogIs q p g w' ∧ Below N0 w w' ∧ Kept (fun k => K k ∧ k ≠ q) w w'
section
variable {N0 p q : Nat} {F : (Nat → Prop) → PD → World → Prop} {K : Nat → Prop} {D : PD} {g : LG} {w : World} {A : Option Addr} {c : Nat} {l : List Int} {kind need : Int}
theorem put_end {K2 : Nat → Prop} {X w9 : World} {b : Nat} {a0 a1 v0 v1 : Value} {D2 : PD} {g2 : LG} (hF : DevFrame N0 p F) (hSt : ∀ D, Stays (fun K w => F K D w)) (hf : F K2 D2 X) (hl : LogIs q p g2 X) (hq : K q) (hlt : ∀ k, K k → k < w.heap.size) (hN : N0 ≤ w.heap.size) (hwb : w.heap.size ≤ b) (hb : X.heap[b]? = some (.cells #[a0, a1] TA (0, 0))) (hKb : K2 b) (hKK : ∀ k, K k → K2 k) (hbl : Below N0 w X) (hkp : Kept (fun k => K k ∧ k ≠ q) w X) (he : w9 = (X.setCell ⟨b, 0, none⟩ v0).setCell ⟨b, 1, none⟩ v1) :
  w9.heap[b]? = some (.cells #[v0, v1] TA (0, 0)) ∧ F K D2 w9 ∧ LogIs q p g2 w9 ∧ Below N0 w w9 ∧ Kept (fun k => K k ∧ k ≠ q) w w9 := by
 subst he
 have hne : q ≠ b := by have := hlt q hq; omega
 have hu : Upd (fun k => k = b) X ((X.setCell ⟨b, 0, none⟩ v0).setCell ⟨b, 1, none⟩ v1) := (Upd.setCell X (p := ⟨b, 0, none⟩) (S := fun k => k = b) rfl _).trans (Upd.setCell _ (p := ⟨b, 1, none⟩) (S := fun k => k = b) rfl _) (fun k hk _ => hk)
 have hb9 : ((X.setCell ⟨b, 0, none⟩ v0).setCell ⟨b, 1, none⟩ v1).heap[b]? = some (.cells #[v0, v1] TA (0, 0)) := setCell_blk (setCell_blk hb 0 v0) 1 v1
 refine ⟨hb9, hF.less (hSt D2 K2 X _ b _ _ _ hf hKb hb hb9 (by decide) hu) hKK, ⟨hl.len, (hu.block q (blt hl.blk) hne).trans hl.blk⟩, hbl.trans (hu.below (by have := hbl.size; omega) (fun k hk => by rw [hk]; omega)), fun k hk => (hu.block k (hF.lt hf k (hKK k hk.1)) (fun e => by have := hlt k hk.1; omega)).trans (hkp k hk)⟩
set_option maxHeartbeats 4000000 in
set_option maxRecDepth 100000 in
theorem LPut_head (hF : DevFrame N0 p F) (hSt : ∀ D, Stays (fun K w => F K D w)) (h : F K D w) (hl : LogIs q p g w) (hq : K q) (hN : N0 ≤ q) (hC : kB.C w A l.length l) (hc : l.length ≤ c) (hm : l.length < 1000000) : Calls Tryz.prog 45 #[.pointer (some ⟨q, 0, none⟩), .int .u8 1, .slice A l.length c, .int .i64 need] w (PutPost N0 q p F K w (0, 0) 1 D g) := by
 obtain ⟨n, hn⟩ : ∃ n, n = l.length := ⟨_, rfl⟩
 have hsz := hF.size h
 have hlt := fun k hk => hF.lt h k hk
 obtain ⟨W, hW⟩ : ∃ W, W = (w.alloc (.cells #[.slice A n c] TBs)).alloc (.cells #[.int .i64 0, .int .i64 0] TA) := ⟨_, rfl⟩
 obtain ⟨q6, q8⟩ := pair_blk w (.cells #[.slice A n c] TBs) (.cells #[.int .i64 0, .int .i64 0] TA)
 rw [← hW] at q6 q8
 have wb : Below w.heap.size w W := by rw [hW]; exact below_alloc (below_alloc (Below.refl _ _) _) _
 have wsz : W.heap.size = w.heap.size + 2 := by rw [hW, size_alloc, size_alloc]
 have hf1 := hF.keep h wb
 have hl1 := hl.below wb
 obtain ⟨ok1, hD1⟩ := hF.dev hf1
 have hsh := hD1.sound.sh
 have HOK := Lib.hid (Lok_any hl1)
 have HSHP := Lib.hid (Shape_any hD1)
 have HF1 := Aside0.mk hf1
 have HL1 := Aside0.mk hl1
 have HW := Lib.hid hW
 have Q6 := Lib.hid q6
 have Q8 := Lib.hid q8
 have WB := Aside0.mk wb
 have HSH := Lib.hid hsh
 have HN := Lib.hid hn
 have HLT := Lib.hid hlt
 have k0 : W.cell? ⟨q, 0, none⟩ = some (.pointer (some ⟨p, 0, none⟩)) := hl1.c0
 rw [← hn] at hc hm
 rw [← hn]
 clear h hl hn hlt hf1 hl1 hD1 hsh hW q6 q8 wb
 go_enter Tryz.func45, Tryz.ntmps45
 go_wp2_with (first
  | (rw [← HW.out])
  | (rw [← HW3.out])
  | (go_at_call 46; (with_reducible refine HOK.out.mono ?_); rintro e w1 ⟨rfl, rfl⟩)
  | (go_at_call 58; (with_reducible refine HSHP.out.mono ?_); rintro e w2 ⟨rfl, hb2⟩; obtain ⟨W3, hW3⟩ : ∃ W3, W3 = w2.alloc (.cells #[.int .i64 D.s.1, .int .i64 D.s.2.1, .int .i64 D.s.2.2] TSh) := ⟨_, rfl⟩; have q10 : W3.heap[w2.heap.size]? = some (.cells #[.int .i64 D.s.1, .int .i64 D.s.2.1, .int .i64 D.s.2.2] TSh (0, 0)) := (by rw [hW3]; exact blk_new _ _); have b23 : Below w2.heap.size w2 W3 := (by rw [hW3]; exact below_alloc (Below.refl _ _) _); have hbb := hb2.trans (b23.mono hb2.size); have HF3 := Aside0.mk (hF.keep (hF.below HF1.out hb2) b23); have HL3 := Aside0.mk (HL1.out.below hbb); have p6 := (hbb.block _ (blt Q6.out)).trans Q6.out; have p8 := (hbb.block _ (blt Q8.out)).trans Q8.out; have P6 := Lib.hid p6; have P8 := Lib.hid p8; have Q10 := Lib.hid q10; have BB := Aside0.mk hbb; have HW3 := Lib.hid hW3; have z0 : W3.cell? ⟨w.heap.size + 1, 0, none⟩ = some (.int .i64 0) := bcell p8 0; have z1 : W3.cell? ⟨w.heap.size + 1, 1, none⟩ = some (.int .i64 0) := bcell p8 1; have zf : ∀ j, W3.frozen? ⟨w.heap.size + 1, j, none⟩ = false := (fun j => bfrozen p8 j); have y2 : W3.cell? ⟨w2.heap.size, 2, none⟩ = some (.int .i64 D.s.2.2) := bcell q10 2; clear hb2 hW3 q10 b23 hbb p6 p8))
 obtain ⟨w9, hw9⟩ : ∃ w9, w9 = (W3.setCell ⟨w.heap.size + 1, 0, none⟩ (.int .i64 0)).setCell ⟨w.heap.size + 1, 1, none⟩ (.int .i64 0) := ⟨_, rfl⟩
 rw [← hw9]
 obtain ⟨r8, hf9, hl9, hb9, hk9⟩ := put_end hF hSt HF3.out HL3.out hq HLT.out hsz (Nat.le_succ _) P8.out (.inl (.inr ⟨Nat.le_succ _, by omega⟩)) (fun k hk => .inl (.inl hk)) ((WB.out.trans ((BB.out).mono (by omega))).mono hsz) (fun k hk => (((BB.out).mono (by omega)).block k (HLT.out k hk.1)).trans (WB.out.block k (HLT.out k hk.1))) hw9
 have r0 := bcell r8 0
 have r1 := bcell r8 1
 exact bodyPost_ret (v := .tuple #[.agg #[.int .i64 0, .int .i64 0], .int .i64 1]) (by simp [results, Tryz.results45, go_sem, r0, r1]) rfl ⟨rfl, hf9, hl9, hb9, hk9⟩
set_option maxHeartbeats 4000000 in
set_option maxRecDepth 100000 in
theorem LPut_big (hF : DevFrame N0 p F) (hSt : ∀ D, Stays (fun K w => F K D w)) (h : F K D w) (hl : LogIs q p g w) (hq : K q) (hN : N0 ≤ q) (hC : kB.C w A l.length l) (hc : l.length ≤ c) (hm : l.length < 1000000) (hk : kind ≠ 1) (hv1 : fitsS D.s 1 l.length = false) : Calls Tryz.prog 45 #[.pointer (some ⟨q, 0, none⟩), .int .u8 kind, .slice A l.length c, .int .i64 need] w (PutPost N0 q p F K w (0, 0) 10 D g) := by
 have hpg : ∀ X : World, Calls Tryz.prog 85 #[.int .i64 0, .int .i64 D.s.2.2] X fun e w' => e = .returned (.int .i64 1) ∧ Below X.heap.size X w' := fun X => by
  have := Pages_ok 0 D.s (hF.shape h) (by omega) X
  rw [kpg_zero (hF.shape h)] at this
  exact this
 have HPG := Lib.hid hpg
 have HKI := Lib.hid (show (kind == 1) = false by simpa using hk)
 have e_k := HKI.out
 have HV1 := Lib.hid hv1
 obtain ⟨n, hn⟩ : ∃ n, n = l.length := ⟨_, rfl⟩
 have hsz := hF.size h
 have hlt := fun k hk => hF.lt h k hk
 obtain ⟨W, hW⟩ : ∃ W, W = (w.alloc (.cells #[.slice A n c] TBs)).alloc (.cells #[.int .i64 0, .int .i64 0] TA) := ⟨_, rfl⟩
 obtain ⟨q6, q8⟩ := pair_blk w (.cells #[.slice A n c] TBs) (.cells #[.int .i64 0, .int .i64 0] TA)
 rw [← hW] at q6 q8
 have wb : Below w.heap.size w W := by rw [hW]; exact below_alloc (below_alloc (Below.refl _ _) _) _
 have wsz : W.heap.size = w.heap.size + 2 := by rw [hW, size_alloc, size_alloc]
 have hf1 := hF.keep h wb
 have hl1 := hl.below wb
 obtain ⟨ok1, hD1⟩ := hF.dev hf1
 have hsh := hD1.sound.sh
 have HOK := Lib.hid (Lok_any hl1)
 have HSHP := Lib.hid (Shape_any hD1)
 have HF1 := Aside0.mk hf1
 have HL1 := Aside0.mk hl1
 have HW := Lib.hid hW
 have Q6 := Lib.hid q6
 have Q8 := Lib.hid q8
 have WB := Aside0.mk wb
 have HSH := Lib.hid hsh
 have HN := Lib.hid hn
 have HLT := Lib.hid hlt
 have k0 : W.cell? ⟨q, 0, none⟩ = some (.pointer (some ⟨p, 0, none⟩)) := hl1.c0
 rw [← hn] at hc hm
 rw [← hn]
 clear h hl hn hlt hf1 hl1 hD1 hsh hW q6 q8 wb hpg hv1 hk
 go_enter Tryz.func45, Tryz.ntmps45
 go_wp2_with (first
  | (rw [← HW.out])
  | (rw [← HW3.out])
  | (go_at_call 46; (with_reducible refine HOK.out.mono ?_); rintro e w1 ⟨rfl, rfl⟩)
  | (go_at_call 58; (with_reducible refine HSHP.out.mono ?_); rintro e w2 ⟨rfl, hb2⟩; obtain ⟨W3, hW3⟩ : ∃ W3, W3 = w2.alloc (.cells #[.int .i64 D.s.1, .int .i64 D.s.2.1, .int .i64 D.s.2.2] TSh) := ⟨_, rfl⟩; have q10 : W3.heap[w2.heap.size]? = some (.cells #[.int .i64 D.s.1, .int .i64 D.s.2.1, .int .i64 D.s.2.2] TSh (0, 0)) := (by rw [hW3]; exact blk_new _ _); have b23 : Below w2.heap.size w2 W3 := (by rw [hW3]; exact below_alloc (Below.refl _ _) _); have hbb := hb2.trans (b23.mono hb2.size); have HF3 := Aside0.mk (hF.keep (hF.below HF1.out hb2) b23); have HL3 := Aside0.mk (HL1.out.below hbb); have p6 := (hbb.block _ (blt Q6.out)).trans Q6.out; have p8 := (hbb.block _ (blt Q8.out)).trans Q8.out; have P6 := Lib.hid p6; have P8 := Lib.hid p8; have Q10 := Lib.hid q10; have BB := Aside0.mk hbb; have HW3 := Lib.hid hW3; have z0 : W3.cell? ⟨w.heap.size + 1, 0, none⟩ = some (.int .i64 0) := bcell p8 0; have z1 : W3.cell? ⟨w.heap.size + 1, 1, none⟩ = some (.int .i64 0) := bcell p8 1; have zf : ∀ j, W3.frozen? ⟨w.heap.size + 1, j, none⟩ = false := (fun j => bfrozen p8 j); have y2 : W3.cell? ⟨w2.heap.size, 2, none⟩ = some (.int .i64 D.s.2.2) := bcell q10 2; clear hb2 hW3 q10 b23 hbb p6 p8)
  | (go_at_call 85; (with_reducible refine (HPG.out _).mono ?_); rintro e w4 ⟨rfl, hb4⟩; have x6 := (hb4.block _ (blt P6.out)).trans P6.out; have x10 := (hb4.block _ (blt Q10.out)).trans Q10.out; have X6 := Lib.hid x6; have X10 := Lib.hid x10; have HB4 := Aside0.mk hb4; clear x6 x10 hb4)
  | ((with_reducible refine gate_dst (N := 34) rfl ?_); (refine closL (some 34) rfl rfl 30 putfits_clo #[.int .i64 1] rfl rfl (by simp only [List.map_toArray, List.map_cons, List.map_nil]; rfl) ?_; refine (PutFits_any (w := w4) HSH.out (bcell X10.out 0) (bcell X10.out 1) (bcell X10.out 2) (bcell X6.out 0) (show n ≤ 9223372036854775807 by omega) 1).mono ?_; (have hvv := HV1.out; rw [← HN.out] at hvv; rw [hvv]; clear hvv); rintro e w5 ⟨rfl, hb5⟩; refine ⟨_, rfl, ?_⟩; have HB5 := Aside0.mk (HB4.out.trans (hb5.mono HB4.out.size)); have hl5 := HL3.out.below HB5.out; have k05 := hl5.c0; have k17 := hl5.c17; have k18 := hl5.c18; have x6 := (HB5.out.block _ (blt P6.out)).trans P6.out; have x8 := (HB5.out.block _ (blt P8.out)).trans P8.out; have x10 := (HB5.out.block _ (blt Q10.out)).trans Q10.out; have X65 := Lib.hid x6; have X85 := Lib.hid x8; have X105 := Lib.hid x10; have z05 : w5.cell? ⟨w.heap.size + 1, 0, none⟩ = some (.int .i64 0) := bcell x8 0; have z15 : w5.cell? ⟨w.heap.size + 1, 1, none⟩ = some (.int .i64 0) := bcell x8 1; have zf5 : ∀ j, w5.frozen? ⟨w.heap.size + 1, j, none⟩ = false := (fun j => bfrozen x8 j); have HL5 := Aside0.mk hl5; have HF5 := Aside0.mk (hF.below HF3.out HB5.out); clear hb5 hl5 x6 x8 x10)))
 obtain ⟨w9, hw9⟩ : ∃ w9, w9 = (w5.setCell ⟨w.heap.size + 1, 0, none⟩ (.int .i64 0)).setCell ⟨w.heap.size + 1, 1, none⟩ (.int .i64 0) := ⟨_, rfl⟩
 rw [← hw9]
 obtain ⟨r8, hf9, hl9, hb9, hk9⟩ := put_end hF hSt HF5.out HL5.out hq HLT.out hsz (Nat.le_succ _) X85.out (.inl (.inr ⟨Nat.le_succ _, by omega⟩)) (fun k hk => .inl (.inl hk)) ((WB.out.trans ((BB.out.trans (HB5.out.mono BB.out.size)).mono (by omega))).mono hsz) (fun k hk => (((BB.out.trans (HB5.out.mono BB.out.size)).mono (by omega)).block k (HLT.out k hk.1)).trans (WB.out.block k (HLT.out k hk.1))) hw9
 have r0 := bcell r8 0
 have r1 := bcell r8 1
 exact bodyPost_ret (v := .tuple #[.agg #[.int .i64 0, .int .i64 0], .int .i64 10]) (by simp [results, Tryz.results45, go_sem, r0, r1]) rfl ⟨rfl, hf9, hl9, hb9, hk9⟩
set_option maxHeartbeats 4000000 in
set_option maxRecDepth 100000 in
theorem LPut_full0 (hF : DevFrame N0 p F) (hSt : ∀ D, Stays (fun K w => F K D w)) (h : F K D w) (hl : LogIs q p g w) (hq : K q) (hN : N0 ≤ q) (hC : kB.C w A l.length l) (hc : l.length ≤ c) (hm : l.length < 1000000) (hk : kind ≠ 1) (hv1 : fitsS D.s 1 l.length = true) (ho : g.op < 0) (hcn : (cnt 0 (g.st.take D.s.1.toNat) : Int) < need) : Calls Tryz.prog 45 #[.pointer (some ⟨q, 0, none⟩), .int .u8 kind, .slice A l.length c, .int .i64 need] w (PutPost N0 q p F K w (0, 0) 5 D g) := by
 have hpg : ∀ X : World, Calls Tryz.prog 85 #[.int .i64 0, .int .i64 D.s.2.2] X fun e w' => e = .returned (.int .i64 1) ∧ Below X.heap.size X w' := fun X => by
  have := Pages_ok 0 D.s (hF.shape h) (by omega) X
  rw [kpg_zero (hF.shape h)] at this
  exact this
 have HPG := Lib.hid hpg
 have HKI := Lib.hid (show (kind == 1) = false by simpa using hk)
 have e_k := HKI.out
 have HV1 := Lib.hid hv1
 obtain ⟨c0, hc0⟩ : ∃ c0, c0 = cnt 0 (g.st.take D.s.1.toNat) := ⟨_, rfl⟩
 rw [← hc0] at hcn
 have HC0 := Lib.hid hc0
 clear hc0
 obtain ⟨n, hn⟩ : ∃ n, n = l.length := ⟨_, rfl⟩
 have hsz := hF.size h
 have hlt := fun k hk => hF.lt h k hk
 obtain ⟨W, hW⟩ : ∃ W, W = (w.alloc (.cells #[.slice A n c] TBs)).alloc (.cells #[.int .i64 0, .int .i64 0] TA) := ⟨_, rfl⟩
 obtain ⟨q6, q8⟩ := pair_blk w (.cells #[.slice A n c] TBs) (.cells #[.int .i64 0, .int .i64 0] TA)
 rw [← hW] at q6 q8
 have wb : Below w.heap.size w W := by rw [hW]; exact below_alloc (below_alloc (Below.refl _ _) _) _
 have wsz : W.heap.size = w.heap.size + 2 := by rw [hW, size_alloc, size_alloc]
 have hf1 := hF.keep h wb
 have hl1 := hl.below wb
 obtain ⟨ok1, hD1⟩ := hF.dev hf1
 have hsh := hD1.sound.sh
 have HOK := Lib.hid (Lok_any hl1)
 have HSHP := Lib.hid (Shape_any hD1)
 have HF1 := Aside0.mk hf1
 have HL1 := Aside0.mk hl1
 have HW := Lib.hid hW
 have Q6 := Lib.hid q6
 have Q8 := Lib.hid q8
 have WB := Aside0.mk wb
 have HSH := Lib.hid hsh
 have HN := Lib.hid hn
 have HLT := Lib.hid hlt
 have k0 : W.cell? ⟨q, 0, none⟩ = some (.pointer (some ⟨p, 0, none⟩)) := hl1.c0
 rw [← hn] at hc hm
 rw [← hn]
 clear h hl hn hlt hf1 hl1 hD1 hsh hW q6 q8 wb hpg hv1 hk
 go_enter Tryz.func45, Tryz.ntmps45
 go_wp2_with (first
  | (rw [← HW.out])
  | (rw [← HW3.out])
  | (go_at_call 46; (with_reducible refine HOK.out.mono ?_); rintro e w1 ⟨rfl, rfl⟩)
  | (go_at_call 58; (with_reducible refine HSHP.out.mono ?_); rintro e w2 ⟨rfl, hb2⟩; obtain ⟨W3, hW3⟩ : ∃ W3, W3 = w2.alloc (.cells #[.int .i64 D.s.1, .int .i64 D.s.2.1, .int .i64 D.s.2.2] TSh) := ⟨_, rfl⟩; have q10 : W3.heap[w2.heap.size]? = some (.cells #[.int .i64 D.s.1, .int .i64 D.s.2.1, .int .i64 D.s.2.2] TSh (0, 0)) := (by rw [hW3]; exact blk_new _ _); have b23 : Below w2.heap.size w2 W3 := (by rw [hW3]; exact below_alloc (Below.refl _ _) _); have hbb := hb2.trans (b23.mono hb2.size); have HF3 := Aside0.mk (hF.keep (hF.below HF1.out hb2) b23); have HL3 := Aside0.mk (HL1.out.below hbb); have p6 := (hbb.block _ (blt Q6.out)).trans Q6.out; have p8 := (hbb.block _ (blt Q8.out)).trans Q8.out; have P6 := Lib.hid p6; have P8 := Lib.hid p8; have Q10 := Lib.hid q10; have BB := Aside0.mk hbb; have HW3 := Lib.hid hW3; have z0 : W3.cell? ⟨w.heap.size + 1, 0, none⟩ = some (.int .i64 0) := bcell p8 0; have z1 : W3.cell? ⟨w.heap.size + 1, 1, none⟩ = some (.int .i64 0) := bcell p8 1; have zf : ∀ j, W3.frozen? ⟨w.heap.size + 1, j, none⟩ = false := (fun j => bfrozen p8 j); have y2 : W3.cell? ⟨w2.heap.size, 2, none⟩ = some (.int .i64 D.s.2.2) := bcell q10 2; clear hb2 hW3 q10 b23 hbb p6 p8)
  | (go_at_call 85; (with_reducible refine (HPG.out _).mono ?_); rintro e w4 ⟨rfl, hb4⟩; have x6 := (hb4.block _ (blt P6.out)).trans P6.out; have x10 := (hb4.block _ (blt Q10.out)).trans Q10.out; have X6 := Lib.hid x6; have X10 := Lib.hid x10; have HB4 := Aside0.mk hb4; clear x6 x10 hb4)
  | ((with_reducible refine gate_dst (N := 34) rfl ?_); (refine closL (some 34) rfl rfl 30 putfits_clo #[.int .i64 1] rfl rfl (by simp only [List.map_toArray, List.map_cons, List.map_nil]; rfl) ?_; refine (PutFits_any (w := w4) HSH.out (bcell X10.out 0) (bcell X10.out 1) (bcell X10.out 2) (bcell X6.out 0) (show n ≤ 9223372036854775807 by omega) 1).mono ?_; (have hvv := HV1.out; rw [← HN.out] at hvv; rw [hvv]; clear hvv); rintro e w5 ⟨rfl, hb5⟩; refine ⟨_, rfl, ?_⟩; have HB5 := Aside0.mk (HB4.out.trans (hb5.mono HB4.out.size)); have hl5 := HL3.out.below HB5.out; have k05 := hl5.c0; have k17 := hl5.c17; have k18 := hl5.c18; have x6 := (HB5.out.block _ (blt P6.out)).trans P6.out; have x8 := (HB5.out.block _ (blt P8.out)).trans P8.out; have x10 := (HB5.out.block _ (blt Q10.out)).trans Q10.out; have X65 := Lib.hid x6; have X85 := Lib.hid x8; have X105 := Lib.hid x10; have z05 : w5.cell? ⟨w.heap.size + 1, 0, none⟩ = some (.int .i64 0) := bcell x8 0; have z15 : w5.cell? ⟨w.heap.size + 1, 1, none⟩ = some (.int .i64 0) := bcell x8 1; have zf5 : ∀ j, w5.frozen? ⟨w.heap.size + 1, j, none⟩ = false := (fun j => bfrozen x8 j); have HL5 := Aside0.mk hl5; have HF5 := Aside0.mk (hF.below HF3.out HB5.out); clear hb5 hl5 x6 x8 x10))
  | (go_at_call 15; (obtain ⟨okc, hDc⟩ := hF.dev (hF.below HF3.out HB5.out)); (have hcc := LCount_any (HL3.out.below HB5.out) hDc 0); (rw [← HC0.out] at hcc); (with_reducible refine hcc.mono ?_); clear hcc hDc; rintro e w7 ⟨rfl, hb7⟩; have HB7 := Aside0.mk (HB5.out.trans (hb7.mono HB5.out.size)); have x8 := (HB7.out.block _ (blt P8.out)).trans P8.out; have X87 := Lib.hid x8; have z07 : w7.cell? ⟨w.heap.size + 1, 0, none⟩ = some (.int .i64 0) := bcell x8 0; have z17 : w7.cell? ⟨w.heap.size + 1, 1, none⟩ = some (.int .i64 0) := bcell x8 1; have zf7 : ∀ j, w7.frozen? ⟨w.heap.size + 1, j, none⟩ = false := (fun j => bfrozen x8 j); clear hb7 x8))
 obtain ⟨w9, hw9⟩ : ∃ w9, w9 = (w7.setCell ⟨w.heap.size + 1, 0, none⟩ (.int .i64 0)).setCell ⟨w.heap.size + 1, 1, none⟩ (.int .i64 0) := ⟨_, rfl⟩
 rw [← hw9]
 obtain ⟨r8, hf9, hl9, hb9, hk9⟩ := put_end hF hSt (hF.below HF3.out HB7.out) (HL3.out.below HB7.out) hq HLT.out hsz (Nat.le_succ _) X87.out (.inl (.inr ⟨Nat.le_succ _, by omega⟩)) (fun k hk => .inl (.inl hk)) ((WB.out.trans ((BB.out.trans (HB7.out.mono BB.out.size)).mono (by omega))).mono hsz) (fun k hk => (((BB.out.trans (HB7.out.mono BB.out.size)).mono (by omega)).block k (HLT.out k hk.1)).trans (WB.out.block k (HLT.out k hk.1))) hw9
 have r0 := bcell r8 0
 have r1 := bcell r8 1
 exact bodyPost_ret (v := .tuple #[.agg #[.int .i64 0, .int .i64 0], .int .i64 5]) (by simp [results, Tryz.results45, go_sem, r0, r1]) rfl ⟨rfl, hf9, hl9, hb9, hk9⟩
set_option maxHeartbeats 4000000 in
set_option maxRecDepth 100000 in
theorem LPut_fullN (hF : DevFrame N0 p F) (hSt : ∀ D, Stays (fun K w => F K D w)) (h : F K D w) (hl : LogIs q p g w) (hq : K q) (hN : N0 ≤ q) (hC : kB.C w A l.length l) (hc : l.length ≤ c) (hm : l.length < 1000000) (hk : kind ≠ 1) (hv1 : fitsS D.s 1 l.length = true) (ho : 0 ≤ g.op) (hv2 : fitsS D.s g.pg l.length = false) (hcn : (cnt 0 (g.st.take D.s.1.toNat) : Int) < need) : Calls Tryz.prog 45 #[.pointer (some ⟨q, 0, none⟩), .int .u8 kind, .slice A l.length c, .int .i64 need] w (PutPost N0 q p F K w (0, 0) 5 D g) := by
 have hpg : ∀ X : World, Calls Tryz.prog 85 #[.int .i64 0, .int .i64 D.s.2.2] X fun e w' => e = .returned (.int .i64 1) ∧ Below X.heap.size X w' := fun X => by
  have := Pages_ok 0 D.s (hF.shape h) (by omega) X
  rw [kpg_zero (hF.shape h)] at this
  exact this
 have HPG := Lib.hid hpg
 have HKI := Lib.hid (show (kind == 1) = false by simpa using hk)
 have e_k := HKI.out
 have HV1 := Lib.hid hv1
 have HV2 := Lib.hid hv2
 clear hv2
 obtain ⟨c0, hc0⟩ : ∃ c0, c0 = cnt 0 (g.st.take D.s.1.toNat) := ⟨_, rfl⟩
 rw [← hc0] at hcn
 have HC0 := Lib.hid hc0
 clear hc0
 obtain ⟨n, hn⟩ : ∃ n, n = l.length := ⟨_, rfl⟩
 have hsz := hF.size h
 have hlt := fun k hk => hF.lt h k hk
 obtain ⟨W, hW⟩ : ∃ W, W = (w.alloc (.cells #[.slice A n c] TBs)).alloc (.cells #[.int .i64 0, .int .i64 0] TA) := ⟨_, rfl⟩
 obtain ⟨q6, q8⟩ := pair_blk w (.cells #[.slice A n c] TBs) (.cells #[.int .i64 0, .int .i64 0] TA)
 rw [← hW] at q6 q8
 have wb : Below w.heap.size w W := by rw [hW]; exact below_alloc (below_alloc (Below.refl _ _) _) _
 have wsz : W.heap.size = w.heap.size + 2 := by rw [hW, size_alloc, size_alloc]
 have hf1 := hF.keep h wb
 have hl1 := hl.below wb
 obtain ⟨ok1, hD1⟩ := hF.dev hf1
 have hsh := hD1.sound.sh
 have HOK := Lib.hid (Lok_any hl1)
 have HSHP := Lib.hid (Shape_any hD1)
 have HF1 := Aside0.mk hf1
 have HL1 := Aside0.mk hl1
 have HW := Lib.hid hW
 have Q6 := Lib.hid q6
 have Q8 := Lib.hid q8
 have WB := Aside0.mk wb
 have HSH := Lib.hid hsh
 have HN := Lib.hid hn
 have HLT := Lib.hid hlt
 have k0 : W.cell? ⟨q, 0, none⟩ = some (.pointer (some ⟨p, 0, none⟩)) := hl1.c0
 rw [← hn] at hc hm
 rw [← hn]
 clear h hl hn hlt hf1 hl1 hD1 hsh hW q6 q8 wb hpg hv1 hk
 go_enter Tryz.func45, Tryz.ntmps45
 have e_o : decide (g.op < 0) = false := decide_eq_false (by omega)
 go_wp2_with (first
  | (rw [← HW.out])
  | (rw [← HW3.out])
  | (go_at_call 46; (with_reducible refine HOK.out.mono ?_); rintro e w1 ⟨rfl, rfl⟩)
  | (go_at_call 58; (with_reducible refine HSHP.out.mono ?_); rintro e w2 ⟨rfl, hb2⟩; obtain ⟨W3, hW3⟩ : ∃ W3, W3 = w2.alloc (.cells #[.int .i64 D.s.1, .int .i64 D.s.2.1, .int .i64 D.s.2.2] TSh) := ⟨_, rfl⟩; have q10 : W3.heap[w2.heap.size]? = some (.cells #[.int .i64 D.s.1, .int .i64 D.s.2.1, .int .i64 D.s.2.2] TSh (0, 0)) := (by rw [hW3]; exact blk_new _ _); have b23 : Below w2.heap.size w2 W3 := (by rw [hW3]; exact below_alloc (Below.refl _ _) _); have hbb := hb2.trans (b23.mono hb2.size); have HF3 := Aside0.mk (hF.keep (hF.below HF1.out hb2) b23); have HL3 := Aside0.mk (HL1.out.below hbb); have p6 := (hbb.block _ (blt Q6.out)).trans Q6.out; have p8 := (hbb.block _ (blt Q8.out)).trans Q8.out; have P6 := Lib.hid p6; have P8 := Lib.hid p8; have Q10 := Lib.hid q10; have BB := Aside0.mk hbb; have HW3 := Lib.hid hW3; have z0 : W3.cell? ⟨w.heap.size + 1, 0, none⟩ = some (.int .i64 0) := bcell p8 0; have z1 : W3.cell? ⟨w.heap.size + 1, 1, none⟩ = some (.int .i64 0) := bcell p8 1; have zf : ∀ j, W3.frozen? ⟨w.heap.size + 1, j, none⟩ = false := (fun j => bfrozen p8 j); have y2 : W3.cell? ⟨w2.heap.size, 2, none⟩ = some (.int .i64 D.s.2.2) := bcell q10 2; clear hb2 hW3 q10 b23 hbb p6 p8)
  | (go_at_call 85; (with_reducible refine (HPG.out _).mono ?_); rintro e w4 ⟨rfl, hb4⟩; have x6 := (hb4.block _ (blt P6.out)).trans P6.out; have x10 := (hb4.block _ (blt Q10.out)).trans Q10.out; have X6 := Lib.hid x6; have X10 := Lib.hid x10; have HB4 := Aside0.mk hb4; clear x6 x10 hb4)
  | ((with_reducible refine gate_dst (N := 34) rfl ?_); (refine closL (some 34) rfl rfl 30 putfits_clo #[.int .i64 1] rfl rfl (by simp only [List.map_toArray, List.map_cons, List.map_nil]; rfl) ?_; refine (PutFits_any (w := w4) HSH.out (bcell X10.out 0) (bcell X10.out 1) (bcell X10.out 2) (bcell X6.out 0) (show n ≤ 9223372036854775807 by omega) 1).mono ?_; (have hvv := HV1.out; rw [← HN.out] at hvv; rw [hvv]; clear hvv); rintro e w5 ⟨rfl, hb5⟩; refine ⟨_, rfl, ?_⟩; have HB5 := Aside0.mk (HB4.out.trans (hb5.mono HB4.out.size)); have hl5 := HL3.out.below HB5.out; have k05 := hl5.c0; have k17 := hl5.c17; have k18 := hl5.c18; have x6 := (HB5.out.block _ (blt P6.out)).trans P6.out; have x8 := (HB5.out.block _ (blt P8.out)).trans P8.out; have x10 := (HB5.out.block _ (blt Q10.out)).trans Q10.out; have X65 := Lib.hid x6; have X85 := Lib.hid x8; have X105 := Lib.hid x10; have z05 : w5.cell? ⟨w.heap.size + 1, 0, none⟩ = some (.int .i64 0) := bcell x8 0; have z15 : w5.cell? ⟨w.heap.size + 1, 1, none⟩ = some (.int .i64 0) := bcell x8 1; have zf5 : ∀ j, w5.frozen? ⟨w.heap.size + 1, j, none⟩ = false := (fun j => bfrozen x8 j); have HL5 := Aside0.mk hl5; have HF5 := Aside0.mk (hF.below HF3.out HB5.out); clear hb5 hl5 x6 x8 x10))
  | ((with_reducible refine gate_dst (N := 48) rfl ?_); (refine closG (some 48) rfl (by kernel_rfl) 43 putfits_clo #[.int .i64 g.pg] rfl rfl (by simp only [List.map_toArray, List.map_cons, List.map_nil]; rfl) ?_; refine (PutFits_any (w := w5) HSH.out (bcell X105.out 0) (bcell X105.out 1) (bcell X105.out 2) (bcell X65.out 0) (show n ≤ 9223372036854775807 by omega) g.pg).mono ?_; (have hvv := HV2.out; rw [← HN.out] at hvv; rw [hvv]; clear hvv); rintro e w6 ⟨rfl, hb6⟩; refine ⟨_, rfl, ?_⟩; have HB6 := Aside0.mk (HB5.out.trans (hb6.mono HB5.out.size)); have x6 := (hb6.block _ (blt X65.out)).trans X65.out; have x8 := (hb6.block _ (blt X85.out)).trans X85.out; have X66 := Lib.hid x6; have X86 := Lib.hid x8; clear x6 x8 hb6))
  | (go_at_call 15; (obtain ⟨okc, hDc⟩ := hF.dev (hF.below HF3.out HB6.out)); (have hcc := LCount_any (HL3.out.below HB6.out) hDc 0); (rw [← HC0.out] at hcc); (with_reducible refine hcc.mono ?_); clear hcc hDc; rintro e w7 ⟨rfl, hb7⟩; have HB7 := Aside0.mk (HB6.out.trans (hb7.mono HB6.out.size)); have x8 := (HB7.out.block _ (blt P8.out)).trans P8.out; have X87 := Lib.hid x8; have z07 : w7.cell? ⟨w.heap.size + 1, 0, none⟩ = some (.int .i64 0) := bcell x8 0; have z17 : w7.cell? ⟨w.heap.size + 1, 1, none⟩ = some (.int .i64 0) := bcell x8 1; have zf7 : ∀ j, w7.frozen? ⟨w.heap.size + 1, j, none⟩ = false := (fun j => bfrozen x8 j); clear hb7 x8))
 obtain ⟨w9, hw9⟩ : ∃ w9, w9 = (w7.setCell ⟨w.heap.size + 1, 0, none⟩ (.int .i64 0)).setCell ⟨w.heap.size + 1, 1, none⟩ (.int .i64 0) := ⟨_, rfl⟩
 rw [← hw9]
 obtain ⟨r8, hf9, hl9, hb9, hk9⟩ := put_end hF hSt (hF.below HF3.out HB7.out) (HL3.out.below HB7.out) hq HLT.out hsz (Nat.le_succ _) X87.out (.inl (.inr ⟨Nat.le_succ _, by omega⟩)) (fun k hk => .inl (.inl hk)) ((WB.out.trans ((BB.out.trans (HB7.out.mono BB.out.size)).mono (by omega))).mono hsz) (fun k hk => (((BB.out.trans (HB7.out.mono BB.out.size)).mono (by omega)).block k (HLT.out k hk.1)).trans (WB.out.block k (HLT.out k hk.1))) hw9
 have r0 := bcell r8 0
 have r1 := bcell r8 1
 exact bodyPost_ret (v := .tuple #[.agg #[.int .i64 0, .int .i64 0], .int .i64 5]) (by simp [results, Tryz.results45, go_sem, r0, r1]) rfl ⟨rfl, hf9, hl9, hb9, hk9⟩
set_option maxHeartbeats 4000000 in
set_option maxRecDepth 100000 in
theorem LPut_app (hF : DevFrame N0 p F) (hSt : ∀ D, Stays (fun K w => F K D w)) (h : F K D w) (hl : LogIs q p g w) (hq : K q) (hN : N0 ≤ q) (hC : kB.C w A l.length l) (hc : l.length ≤ c) (hm : l.length < 1000000) (hk : kind ≠ 1) (hv1 : fitsS D.s 1 l.length = true) (ho : 0 ≤ g.op) (hv2 : fitsS D.s g.pg l.length = true) (hkk : KindOk kind) (hBl : Byt l) (hCx : ∀ X, Below N0 w X → Kept (fun k => K k ∧ k ≠ q) w X → kB.C X A l.length l) (hdd : D.dirty.length < 900000) (hsq : SeqOk (g.nx - 1)) (hn1 : 1 ≤ g.nx) (hn2 : g.nx < 1000000) (hp0 : 0 ≤ g.pg) {k : Nat} (hp1 : g.pg + (k : Int) < 1000) (hap : appE D g.op g.pg l.length = ((k : Int), 0)) : Calls Tryz.prog 45 #[.pointer (some ⟨q, 0, none⟩), .int .u8 kind, .slice A l.length c, .int .i64 need] w (PutPost N0 q p F K w (g.op, g.pg) 0 (appD D g.op g.pg l.length (rec kind (g.nx - 1) l)) { g with pg := g.pg + (k : Int) }) := by
 have hpg : ∀ X : World, Calls Tryz.prog 85 #[.int .i64 0, .int .i64 D.s.2.2] X fun e w' => e = .returned (.int .i64 1) ∧ Below X.heap.size X w' := fun X => by
  have := Pages_ok 0 D.s (hF.shape h) (by omega) X
  rw [kpg_zero (hF.shape h)] at this
  exact this
 have HPG := Lib.hid hpg
 have HKI := Lib.hid (show (kind == 1) = false by simpa using hk)
 have e_k := HKI.out
 have HV1 := Lib.hid hv1
 have HV2 := Lib.hid hv2
 have HAP := Lib.hid hap
 have HCX := Lib.hid hCx
 clear hv2 hap hCx
 obtain ⟨n, hn⟩ : ∃ n, n = l.length := ⟨_, rfl⟩
 have hsz := hF.size h
 have hlt := fun k hk => hF.lt h k hk
 obtain ⟨W, hW⟩ : ∃ W, W = (w.alloc (.cells #[.slice A n c] TBs)).alloc (.cells #[.int .i64 0, .int .i64 0] TA) := ⟨_, rfl⟩
 obtain ⟨q6, q8⟩ := pair_blk w (.cells #[.slice A n c] TBs) (.cells #[.int .i64 0, .int .i64 0] TA)
 rw [← hW] at q6 q8
 have wb : Below w.heap.size w W := by rw [hW]; exact below_alloc (below_alloc (Below.refl _ _) _) _
 have wsz : W.heap.size = w.heap.size + 2 := by rw [hW, size_alloc, size_alloc]
 have hf1 := hF.keep h wb
 have hl1 := hl.below wb
 obtain ⟨ok1, hD1⟩ := hF.dev hf1
 have hsh := hD1.sound.sh
 have HOK := Lib.hid (Lok_any hl1)
 have HSHP := Lib.hid (Shape_any hD1)
 have HF1 := Aside0.mk hf1
 have HL1 := Aside0.mk hl1
 have HW := Lib.hid hW
 have Q6 := Lib.hid q6
 have Q8 := Lib.hid q8
 have WB := Aside0.mk wb
 have HSH := Lib.hid hsh
 have HN := Lib.hid hn
 have HLT := Lib.hid hlt
 have k0 : W.cell? ⟨q, 0, none⟩ = some (.pointer (some ⟨p, 0, none⟩)) := hl1.c0
 rw [← hn] at hc hm
 rw [← hn]
 clear h hl hn hlt hf1 hl1 hD1 hsh hW q6 q8 wb hpg hv1 hk
 go_enter Tryz.func45, Tryz.ntmps45
 have e_o : decide (g.op < 0) = false := decide_eq_false (by omega)
 go_wp2_with (first
  | (rw [← HW.out])
  | (rw [← HW3.out])
  | (go_at_call 46; (with_reducible refine HOK.out.mono ?_); rintro e w1 ⟨rfl, rfl⟩)
  | (go_at_call 58; (with_reducible refine HSHP.out.mono ?_); rintro e w2 ⟨rfl, hb2⟩; obtain ⟨W3, hW3⟩ : ∃ W3, W3 = w2.alloc (.cells #[.int .i64 D.s.1, .int .i64 D.s.2.1, .int .i64 D.s.2.2] TSh) := ⟨_, rfl⟩; have q10 : W3.heap[w2.heap.size]? = some (.cells #[.int .i64 D.s.1, .int .i64 D.s.2.1, .int .i64 D.s.2.2] TSh (0, 0)) := (by rw [hW3]; exact blk_new _ _); have b23 : Below w2.heap.size w2 W3 := (by rw [hW3]; exact below_alloc (Below.refl _ _) _); have hbb := hb2.trans (b23.mono hb2.size); have HF3 := Aside0.mk (hF.keep (hF.below HF1.out hb2) b23); have HL3 := Aside0.mk (HL1.out.below hbb); have p6 := (hbb.block _ (blt Q6.out)).trans Q6.out; have p8 := (hbb.block _ (blt Q8.out)).trans Q8.out; have P6 := Lib.hid p6; have P8 := Lib.hid p8; have Q10 := Lib.hid q10; have BB := Aside0.mk hbb; have HW3 := Lib.hid hW3; have z0 : W3.cell? ⟨w.heap.size + 1, 0, none⟩ = some (.int .i64 0) := bcell p8 0; have z1 : W3.cell? ⟨w.heap.size + 1, 1, none⟩ = some (.int .i64 0) := bcell p8 1; have zf : ∀ j, W3.frozen? ⟨w.heap.size + 1, j, none⟩ = false := (fun j => bfrozen p8 j); have y2 : W3.cell? ⟨w2.heap.size, 2, none⟩ = some (.int .i64 D.s.2.2) := bcell q10 2; clear hb2 hW3 q10 b23 hbb p6 p8)
  | (go_at_call 85; (with_reducible refine (HPG.out _).mono ?_); rintro e w4 ⟨rfl, hb4⟩; have x6 := (hb4.block _ (blt P6.out)).trans P6.out; have x10 := (hb4.block _ (blt Q10.out)).trans Q10.out; have X6 := Lib.hid x6; have X10 := Lib.hid x10; have HB4 := Aside0.mk hb4; clear x6 x10 hb4)
  | ((with_reducible refine gate_dst (N := 34) rfl ?_); (refine closL (some 34) rfl rfl 30 putfits_clo #[.int .i64 1] rfl rfl (by simp only [List.map_toArray, List.map_cons, List.map_nil]; rfl) ?_; refine (PutFits_any (w := w4) HSH.out (bcell X10.out 0) (bcell X10.out 1) (bcell X10.out 2) (bcell X6.out 0) (show n ≤ 9223372036854775807 by omega) 1).mono ?_; (have hvv := HV1.out; rw [← HN.out] at hvv; rw [hvv]; clear hvv); rintro e w5 ⟨rfl, hb5⟩; refine ⟨_, rfl, ?_⟩; have HB5 := Aside0.mk (HB4.out.trans (hb5.mono HB4.out.size)); have hl5 := HL3.out.below HB5.out; have k05 := hl5.c0; have k17 := hl5.c17; have k18 := hl5.c18; have x6 := (HB5.out.block _ (blt P6.out)).trans P6.out; have x8 := (HB5.out.block _ (blt P8.out)).trans P8.out; have x10 := (HB5.out.block _ (blt Q10.out)).trans Q10.out; have X65 := Lib.hid x6; have X85 := Lib.hid x8; have X105 := Lib.hid x10; have z05 : w5.cell? ⟨w.heap.size + 1, 0, none⟩ = some (.int .i64 0) := bcell x8 0; have z15 : w5.cell? ⟨w.heap.size + 1, 1, none⟩ = some (.int .i64 0) := bcell x8 1; have zf5 : ∀ j, w5.frozen? ⟨w.heap.size + 1, j, none⟩ = false := (fun j => bfrozen x8 j); have HL5 := Aside0.mk hl5; have HF5 := Aside0.mk (hF.below HF3.out HB5.out); clear hb5 hl5 x6 x8 x10))
  | ((with_reducible refine gate_dst (N := 48) rfl ?_); (refine closG (some 48) rfl (by kernel_rfl) 43 putfits_clo #[.int .i64 g.pg] rfl rfl (by simp only [List.map_toArray, List.map_cons, List.map_nil]; rfl) ?_; refine (PutFits_any (w := w5) HSH.out (bcell X105.out 0) (bcell X105.out 1) (bcell X105.out 2) (bcell X65.out 0) (show n ≤ 9223372036854775807 by omega) g.pg).mono ?_; (have hvv := HV2.out; rw [← HN.out] at hvv; rw [hvv]; clear hvv); rintro e w6 ⟨rfl, hb6⟩; refine ⟨_, rfl, ?_⟩; have HB6 := Aside0.mk (HB5.out.trans (hb6.mono HB5.out.size)); have x6 := (hb6.block _ (blt X65.out)).trans X65.out; have x8 := (hb6.block _ (blt X85.out)).trans X85.out; have X66 := Lib.hid x6; have X86 := Lib.hid x8; clear x6 x8 hb6)))
 have y0 := (HL3.out.below HB6.out).c0
 have y17 := (HL3.out.below HB6.out).c17
 have y18 := (HL3.out.below HB6.out).c18
 refine wp_region_held_drew (S := (fun w' => w'.cell? ⟨q, 0, none⟩ = some (.pointer (some ⟨p, 0, none⟩)) ∧ w'.cell? ⟨q, 17, none⟩ = some (.int .i64 g.op) ∧ w'.cell? ⟨q, 18, none⟩ = some (.int .i64 g.pg))) (by kernel_rfl) ?_ (fun hHeld => ?_)
 ·first | go_keep | exact ⟨y0, y17, y18⟩
 first | refine tkY 0 ?_ | refine tkN 0 ?_
 try simp only [Act.put, tk1, tk2, tk3]
 first | refine tkY 1 ?_ | refine tkN 1 ?_
 try simp only [Act.put, tk1, tk2, tk3]
 first | refine tkY 2 ?_ | refine tkN 2 ?_
 try simp only [Act.put, tk1, tk2, tk3]
 first | refine tkY 3 ?_ | refine tkN 3 ?_
 try simp only [Act.put, tk1, tk2, tk3]
 first | refine tkY 4 ?_ | refine tkN 4 ?_
 try simp only [Act.put, tk1, tk2, tk3]
 first | refine tkY 5 ?_ | refine tkN 5 ?_
 try simp only [Act.put, tk1, tk2, tk3]
 first | refine tkY 6 ?_ | refine tkN 6 ?_
 try simp only [Act.put, tk1, tk2, tk3]
 first | refine tkY 7 ?_ | refine tkN 7 ?_
 try simp only [Act.put, tk1, tk2, tk3]
 first | refine tkY 8 ?_ | refine tkN 8 ?_
 try simp only [Act.put, tk1, tk2, tk3]
 refine wpAnyH_ready (rs := [9]) (by kernel_rfl) (by simp) ?_
 refine AllReadyH.cons (by (simp only [List.getElem?_toArray, List.getElem?_cons_succ, List.getElem?_cons_zero]; rfl)) (fun K hK => ?_) AllReadyH.nil
 go_simp
 (try dsimp only)
 refine hK.out _ _ ?_ (fun hHeld => ?_)
 ·first | go_keep | exact ⟨y0, y17, y18⟩
 clear hK K
 try simp only [Act.put, tk1, tk2, tk3]
 refine wpAnyH_ready (rs := [10]) (by kernel_rfl) (by simp) ?_
 refine AllReadyH.cons (by (simp only [List.getElem?_toArray, List.getElem?_cons_succ, List.getElem?_cons_zero]; rfl)) (fun K hK => ?_) AllReadyH.nil
 go_simp
 (try dsimp only)
 refine hK.out _ _ ?_ (fun hHeld => ?_)
 ·first | go_keep | exact ⟨y0, y17, y18⟩
 clear hK K
 try simp only [Act.put, tk1, tk2, tk3]
 refine wpAnyH_done (by kernel_rfl) ?_ _
 obtain ⟨Y, hY⟩ : ∃ Y, Y = (w6.alloc (.cells #[.int .i64 g.op, .int .i64 g.pg] TA)).drew := ⟨_, rfl⟩
 rw [← hY]
 have qY : Y.heap[w6.heap.size]? = some (.cells #[.int .i64 g.op, .int .i64 g.pg] TA (0, 0)) := by rw [hY]; exact blk_new _ _
 have bY : Below w6.heap.size w6 Y := by rw [hY]; exact (below_alloc (Below.refl _ _) _).drew
 have bYd : Below w6.heap.size w6 Y.drew := bY.drew
 have sY : Y.heap.size = w6.heap.size + 1 := by rw [hY]; exact size_alloc _ _
 have fY := hF.keep (hF.below HF3.out HB6.out) bYd
 have lY := (HL3.out.below HB6.out).below bY
 have zY0 := lY.c0
 have zY17 := lY.c17
 have zY18 := lY.c18
 have zY19 := lY.c19
 have zY6 : Y.cell? ⟨w.heap.size, 0, none⟩ = some (.slice A n c) := bcell ((bY.block _ (blt X66.out)).trans X66.out) 0
 have belX : Below N0 w w6 := ((WB.out.trans ((BB.out.trans (HB6.out.mono BB.out.size)).mono (by omega))).mono hsz)
 have kepX : Kept (fun k => K k ∧ k ≠ q) w w6 := (fun k hk => (((BB.out.trans (HB6.out.mono BB.out.size)).mono (by omega)).block k (HLT.out k hk.1)).trans (WB.out.block k (HLT.out k hk.1)))
 have bNY : Below N0 w Y.drew := belX.trans (bYd.mono (by have := belX.size; omega))
 have kNY : Kept (fun k => K k ∧ k ≠ q) w Y.drew := fun k hk => (bYd.block k (by have := HLT.out k hk.1; have := belX.size; omega)).trans (kepX k hk)
 have happ := Append_F (kind := kind) (seq := (g.nx - 1)) hF fY g.op g.pg hkk hsq hBl (HCX.out _ bNY kNY) (by rw [← HN.out]; exact hc) (by rw [← HN.out]; exact hm) hdd
 rw [HAP.out, ← HN.out] at happ
 have HAPP := Lib.hid happ
 have HFK := Aside0.mk fY
 have LY := Aside0.mk lY
 have QY := Lib.hid qY
 have BY := Aside0.mk bY
 have HY := Lib.hid hY
 have hwx : IntKind.u64.wrap (g.nx - 1) = g.nx - 1 := IntWalk.u64_in _ (by omega)
 have hwk : IntKind.i64.wrap (g.pg + (k : Int)) = g.pg + (k : Int) := IntWalk.i64_in _ (by omega)
 have BX := Aside0.mk belX
 have KX := Lib.hid kepX
 have nq1 : ¬ w6.heap.size = q := by have := blt (HL3.out.below HB6.out).blk; omega
 have nq2 : ¬ q = w6.heap.size := fun e => nq1 e.symm
 have nq3 : ¬ w.heap.size + 1 = q := by have := HLT.out q hq; omega
 have nq4 : ¬ q = w.heap.size + 1 := fun e => nq3 e.symm
 have nq5 : ¬ w6.heap.size = w.heap.size + 1 := by have := blt X86.out; omega
 have nq6 : ¬ w.heap.size + 1 = w6.heap.size := fun e => nq5 e.symm
 clear qY bY bYd fY lY belX kepX bNY kNY happ hY y0 y17 y18 hHeld
 go_wp2_with fail
 refine wp_region_held_drew (S := (fun w' => w'.cell? ⟨q, 0, none⟩ = some (.pointer (some ⟨p, 0, none⟩)) ∧ w'.cell? ⟨q, 17, none⟩ = some (.int .i64 g.op) ∧ w'.cell? ⟨q, 18, none⟩ = some (.int .i64 g.pg) ∧ w'.cell? ⟨q, 19, none⟩ = some (.int .u64 g.nx) ∧ w'.cell? ⟨w.heap.size, 0, none⟩ = some (.slice A n c))) (by kernel_rfl) ?_ (fun hHeld => ?_)
 ·first | exact ⟨zY0, zY17, zY18, zY19, zY6⟩ | exact ⟨s0, s17, s18, s19, s6⟩
 first | refine tkY 0 ?_ | refine tkN 0 ?_
 try simp only [Act.put, tk1, tk2, tk3]
 first | refine tkY 1 ?_ | refine tkN 1 ?_
 try simp only [Act.put, tk1, tk2, tk3]
 first | refine tkY 2 ?_ | refine tkN 2 ?_
 try simp only [Act.put, tk1, tk2, tk3]
 first | refine tkY 3 ?_ | refine tkN 3 ?_
 try simp only [Act.put, tk1, tk2, tk3]
 first | refine tkY 4 ?_ | refine tkN 4 ?_
 try simp only [Act.put, tk1, tk2, tk3]
 first | refine tkY 5 ?_ | refine tkN 5 ?_
 try simp only [Act.put, tk1, tk2, tk3]
 first | refine tkY 6 ?_ | refine tkN 6 ?_
 try simp only [Act.put, tk1, tk2, tk3]
 first | refine tkY 7 ?_ | refine tkN 7 ?_
 try simp only [Act.put, tk1, tk2, tk3]
 first | refine tkY 8 ?_ | refine tkN 8 ?_
 try simp only [Act.put, tk1, tk2, tk3]
 first | refine tkY 9 ?_ | refine tkN 9 ?_
 try simp only [Act.put, tk1, tk2, tk3]
 first | refine tkY 10 ?_ | refine tkN 10 ?_
 try simp only [Act.put, tk1, tk2, tk3]
 first | refine tkY 11 ?_ | refine tkN 11 ?_
 try simp only [Act.put, tk1, tk2, tk3]
 first | refine tkY 12 ?_ | refine tkN 12 ?_
 try simp only [Act.put, tk1, tk2, tk3]
 first | refine tkY 13 ?_ | refine tkN 13 ?_
 try simp only [Act.put, tk1, tk2, tk3]
 first | refine tkY 14 ?_ | refine tkN 14 ?_
 try simp only [Act.put, tk1, tk2, tk3]
 first | refine tkY 15 ?_ | refine tkN 15 ?_
 try simp only [Act.put, tk1, tk2, tk3]
 first | refine tkY 16 ?_ | refine tkN 16 ?_
 try simp only [Act.put, tk1, tk2, tk3]
 first | refine tkY 17 ?_ | refine tkN 17 ?_
 try simp only [Act.put, tk1, tk2, tk3]
 first | refine tkY 18 ?_ | refine tkN 18 ?_
 try simp only [Act.put, tk1, tk2, tk3]
 refine wpAnyH_ready (rs := [19]) (by kernel_rfl) (by simp) ?_
 refine AllReadyH.cons (by (simp only [List.getElem?_toArray, List.getElem?_cons_succ, List.getElem?_cons_zero]; rfl)) (fun K hK => ?_) AllReadyH.nil
 go_simp
 (go_at_call 87; (with_reducible refine HAPP.out.mono ?_); rintro e w10 ⟨rfl, hf10, hb10, hk10⟩; have hl10 : LogIs q p g w10 := ⟨LY.out.len, (hk10 q (.inl (.inl (.inl hq)))).trans LY.out.blk⟩; have s0 := hl10.c0; have s17 := hl10.c17; have s18 := hl10.c18; have s19 := hl10.c19; have fr18 := hl10.frozen 18; have x6 := (hk10 w.heap.size (.inl (.inl (.inr ⟨Nat.le_refl _, by omega⟩)))).trans ((BY.out.block _ (blt X66.out)).trans X66.out); have x8 := (hk10 (w.heap.size + 1) (.inl (.inl (.inr ⟨Nat.le_succ _, by omega⟩)))).trans ((BY.out.block _ (blt X86.out)).trans X86.out); have x12 := (hk10 w6.heap.size (.inr ⟨Nat.le_refl _, by show _ < Y.heap.size; omega⟩)).trans QY.out; have s6 : w10.cell? ⟨w.heap.size, 0, none⟩ = some (.slice A n c) := bcell x6 0; have m0 : w10.cell? ⟨w.heap.size + 1, 0, none⟩ = some (.int .i64 0) := bcell x8 0; have m1 : w10.cell? ⟨w.heap.size + 1, 1, none⟩ = some (.int .i64 0) := bcell x8 1; have mf : ∀ j, w10.frozen? ⟨w.heap.size + 1, j, none⟩ = false := (fun j => bfrozen x8 j); have t0 : w10.cell? ⟨w6.heap.size, 0, none⟩ = some (.int .i64 g.op) := bcell x12 0; have t1 : w10.cell? ⟨w6.heap.size, 1, none⟩ = some (.int .i64 g.pg) := bcell x12 1; have HL10 := Aside0.mk hl10; have X810 := Lib.hid x8; have HF10 := Aside0.mk hf10; have HB10 := Aside0.mk (BX.out.trans ((show Below N0 w6 Y.drew from (BY.out.drew).mono (by have := BX.out.size; omega)).trans hb10)); have HKR := Lib.hid hk10; clear hl10 hf10 hb10 hk10 x6 x8 x12)
 (try dsimp only)
 refine hK.out _ _ ?_ (fun hHeld => ?_)
 ·first | exact ⟨zY0, zY17, zY18, zY19, zY6⟩ | exact ⟨s0, s17, s18, s19, s6⟩
 clear hK K
 try simp only [Act.put, tk1, tk2, tk3]
 first | refine tkY 20 ?_ | refine tkN 20 ?_
 try simp only [Act.put, tk1, tk2, tk3]
 first | refine tkY 21 ?_ | refine tkN 21 ?_
 try simp only [Act.put, tk1, tk2, tk3]
 first | refine tkY 22 ?_ | refine tkN 22 ?_
 try simp only [Act.put, tk1, tk2, tk3]
 first | refine tkY 23 ?_ | refine tkN 23 ?_
 try simp only [Act.put, tk1, tk2, tk3]
 first | refine tkY 24 ?_ | refine tkN 24 ?_
 try simp only [Act.put, tk1, tk2, tk3]
 refine wpAnyH_done (by kernel_rfl) ?_ _
 go_wp2_with fail
 have HK10 := Lib.hid (show Kept (fun k => K k ∧ k ≠ q) w w10 from fun k hk => (HKR.out k (.inl (.inl (.inl hk.1)))).trans ((BY.out.block k (by have := HLT.out k hk.1; have := BX.out.size; omega)).trans (KX.out k hk)))
 have hl11 := HL10.out.setPg (g.pg + (k : Int))
 have hu11 := Upd.setCell w10 (p := ⟨q, 18, none⟩) (S := fun k => k = q) rfl (.int .i64 (g.pg + (k : Int)))
 have hf11 := hSt _ _ w10 _ q _ _ _ HF10.out (.inl (.inl (.inl hq))) HL10.out.blk hl11.blk (by decide) hu11
 have s10 := hF.size HF10.out
 have hb11 := HB10.out.trans (hu11.below s10 (fun k hk => by rw [hk]; exact hN))
 have x811 := (hu11.block (w.heap.size + 1) (blt X810.out) (fun e => nq3 e)).trans X810.out
 have hk11 : Kept (fun k => K k ∧ k ≠ q) w (w10.setCell ⟨q, 18, none⟩ (.int .i64 (g.pg + (k : Int)))) := fun k hk => (hu11.block k (hF.lt HF10.out k (.inl (.inl (.inl hk.1)))) hk.2).trans (HK10.out k hk)
 obtain ⟨w9, hw9⟩ : ∃ w9, w9 = ((w10.setCell ⟨q, 18, none⟩ (.int .i64 (g.pg + (k : Int)))).setCell ⟨w.heap.size + 1, 0, none⟩ (.int .i64 g.op)).setCell ⟨w.heap.size + 1, 1, none⟩ (.int .i64 g.pg) := ⟨_, rfl⟩
 rw [← hw9]
 obtain ⟨r8, hf9, hl9, hb9, hk9⟩ := put_end hF hSt hf11 hl11 hq HLT.out hsz (Nat.le_succ _) x811 (.inl (.inl (.inr ⟨Nat.le_succ _, by omega⟩))) (fun k hk => .inl (.inl (.inl hk))) hb11 hk11 hw9
 have r0 := bcell r8 0
 have r1 := bcell r8 1
 exact bodyPost_ret (v := .tuple #[.agg #[.int .i64 g.op, .int .i64 g.pg], .int .i64 0]) (by simp [results, Tryz.results45, go_sem, r0, r1]) rfl ⟨rfl, hf9, hl9, hb9, hk9⟩
set_option maxHeartbeats 4000000 in
set_option maxRecDepth 100000 in
theorem LPut_turn0 (hF : DevFrame N0 p F) (hSt : ∀ D, Stays (fun K w => F K D w)) (h : F K D w) (hl : LogIs q p g w) (hq : K q) (hN : N0 ≤ q) (hC : kB.C w A l.length l) (hc : l.length ≤ c) (hm : l.length < 1000000) (hk : kind ≠ 1) (hv1 : fitsS D.s 1 l.length = true) (ho : g.op < 0) (hkk : KindOk kind) (hBl : Byt l) (hCx : ∀ X, Below N0 w X → Kept (fun k => K k ∧ k ≠ q) w X → kB.C X A l.length l) (hd0 : D.dirty.length < 900000) {m : Nat} (hdd : (appD D (m : Int) 0 0 (rec 1 g.nx [])).dirty.length < 900000) (ho16 : g.op < 16) (hsq : SeqOk g.nx) (hn1 : 0 ≤ g.nx) (hn2 : g.nx < 1000000) (hm16 : m < 16) (hfi : ∀ r, FirstAt (sealG g).st 0 r → r = (m : Int)) {k : Nat} (hp1 : (k : Int) < 900) (hap : appE (appD D (m : Int) 0 0 (rec 1 g.nx [])) (m : Int) 1 l.length = ((k : Int), 0)) (hcn : ¬ (cnt 0 (g.st.take D.s.1.toNat) : Int) < need) : Calls Tryz.prog 45 #[.pointer (some ⟨q, 0, none⟩), .int .u8 kind, .slice A l.length c, .int .i64 need] w (PutPost N0 q p F K w ((m : Int), 1) 0 (appD (appD D (m : Int) 0 0 (rec 1 g.nx [])) (m : Int) 1 l.length (rec kind g.nx l)) { st := (sealG g).st.set m 1, op := (m : Int), pg := 1 + (k : Int), nx := g.nx + 1 }) := by
 have hpg : ∀ X : World, Calls Tryz.prog 85 #[.int .i64 0, .int .i64 D.s.2.2] X fun e w' => e = .returned (.int .i64 1) ∧ Below X.heap.size X w' := fun X => by
  have := Pages_ok 0 D.s (hF.shape h) (by omega) X
  rw [kpg_zero (hF.shape h)] at this
  exact this
 have HPG := Lib.hid hpg
 have HKI := Lib.hid (show (kind == 1) = false by simpa using hk)
 have e_k := HKI.out
 have HV1 := Lib.hid hv1
 obtain ⟨c0, hc0⟩ : ∃ c0, c0 = cnt 0 (g.st.take D.s.1.toNat) := ⟨_, rfl⟩
 rw [← hc0] at hcn
 have HC0 := Lib.hid hc0
 clear hc0
 have HAP := Lib.hid hap
 have HCX := Lib.hid hCx
 have HFI := Lib.hid hfi
 clear hap hCx hfi
 obtain ⟨n, hn⟩ : ∃ n, n = l.length := ⟨_, rfl⟩
 have hsz := hF.size h
 have hlt := fun k hk => hF.lt h k hk
 obtain ⟨W, hW⟩ : ∃ W, W = (w.alloc (.cells #[.slice A n c] TBs)).alloc (.cells #[.int .i64 0, .int .i64 0] TA) := ⟨_, rfl⟩
 obtain ⟨q6, q8⟩ := pair_blk w (.cells #[.slice A n c] TBs) (.cells #[.int .i64 0, .int .i64 0] TA)
 rw [← hW] at q6 q8
 have wb : Below w.heap.size w W := by rw [hW]; exact below_alloc (below_alloc (Below.refl _ _) _) _
 have wsz : W.heap.size = w.heap.size + 2 := by rw [hW, size_alloc, size_alloc]
 have hf1 := hF.keep h wb
 have hl1 := hl.below wb
 obtain ⟨ok1, hD1⟩ := hF.dev hf1
 have hsh := hD1.sound.sh
 have HOK := Lib.hid (Lok_any hl1)
 have HSHP := Lib.hid (Shape_any hD1)
 have HF1 := Aside0.mk hf1
 have HL1 := Aside0.mk hl1
 have HW := Lib.hid hW
 have Q6 := Lib.hid q6
 have Q8 := Lib.hid q8
 have WB := Aside0.mk wb
 have HSH := Lib.hid hsh
 have HN := Lib.hid hn
 have HLT := Lib.hid hlt
 have k0 : W.cell? ⟨q, 0, none⟩ = some (.pointer (some ⟨p, 0, none⟩)) := hl1.c0
 rw [← hn] at hc hm
 rw [← hn]
 clear h hl hn hlt hf1 hl1 hD1 hsh hW q6 q8 wb hpg hv1 hk
 go_enter Tryz.func45, Tryz.ntmps45
 have e_c : decide ((c0 : Int) < need) = false := decide_eq_false hcn
 go_wp2_with (first
  | (rw [← HW.out])
  | (rw [← HW3.out])
  | (go_at_call 46; (with_reducible refine HOK.out.mono ?_); rintro e w1 ⟨rfl, rfl⟩)
  | (go_at_call 58; (with_reducible refine HSHP.out.mono ?_); rintro e w2 ⟨rfl, hb2⟩; obtain ⟨W3, hW3⟩ : ∃ W3, W3 = w2.alloc (.cells #[.int .i64 D.s.1, .int .i64 D.s.2.1, .int .i64 D.s.2.2] TSh) := ⟨_, rfl⟩; have q10 : W3.heap[w2.heap.size]? = some (.cells #[.int .i64 D.s.1, .int .i64 D.s.2.1, .int .i64 D.s.2.2] TSh (0, 0)) := (by rw [hW3]; exact blk_new _ _); have b23 : Below w2.heap.size w2 W3 := (by rw [hW3]; exact below_alloc (Below.refl _ _) _); have hbb := hb2.trans (b23.mono hb2.size); have HF3 := Aside0.mk (hF.keep (hF.below HF1.out hb2) b23); have HL3 := Aside0.mk (HL1.out.below hbb); have p6 := (hbb.block _ (blt Q6.out)).trans Q6.out; have p8 := (hbb.block _ (blt Q8.out)).trans Q8.out; have P6 := Lib.hid p6; have P8 := Lib.hid p8; have Q10 := Lib.hid q10; have BB := Aside0.mk hbb; have HW3 := Lib.hid hW3; have z0 : W3.cell? ⟨w.heap.size + 1, 0, none⟩ = some (.int .i64 0) := bcell p8 0; have z1 : W3.cell? ⟨w.heap.size + 1, 1, none⟩ = some (.int .i64 0) := bcell p8 1; have zf : ∀ j, W3.frozen? ⟨w.heap.size + 1, j, none⟩ = false := (fun j => bfrozen p8 j); have y2 : W3.cell? ⟨w2.heap.size, 2, none⟩ = some (.int .i64 D.s.2.2) := bcell q10 2; clear hb2 hW3 q10 b23 hbb p6 p8)
  | (go_at_call 85; (with_reducible refine (HPG.out _).mono ?_); rintro e w4 ⟨rfl, hb4⟩; have x6 := (hb4.block _ (blt P6.out)).trans P6.out; have x10 := (hb4.block _ (blt Q10.out)).trans Q10.out; have X6 := Lib.hid x6; have X10 := Lib.hid x10; have HB4 := Aside0.mk hb4; clear x6 x10 hb4)
  | ((with_reducible refine gate_dst (N := 34) rfl ?_); (refine closL (some 34) rfl rfl 30 putfits_clo #[.int .i64 1] rfl rfl (by simp only [List.map_toArray, List.map_cons, List.map_nil]; rfl) ?_; refine (PutFits_any (w := w4) HSH.out (bcell X10.out 0) (bcell X10.out 1) (bcell X10.out 2) (bcell X6.out 0) (show n ≤ 9223372036854775807 by omega) 1).mono ?_; (have hvv := HV1.out; rw [← HN.out] at hvv; rw [hvv]; clear hvv); rintro e w5 ⟨rfl, hb5⟩; refine ⟨_, rfl, ?_⟩; have HB5 := Aside0.mk (HB4.out.trans (hb5.mono HB4.out.size)); have hl5 := HL3.out.below HB5.out; have k05 := hl5.c0; have k17 := hl5.c17; have k18 := hl5.c18; have x6 := (HB5.out.block _ (blt P6.out)).trans P6.out; have x8 := (HB5.out.block _ (blt P8.out)).trans P8.out; have x10 := (HB5.out.block _ (blt Q10.out)).trans Q10.out; have X65 := Lib.hid x6; have X85 := Lib.hid x8; have X105 := Lib.hid x10; have z05 : w5.cell? ⟨w.heap.size + 1, 0, none⟩ = some (.int .i64 0) := bcell x8 0; have z15 : w5.cell? ⟨w.heap.size + 1, 1, none⟩ = some (.int .i64 0) := bcell x8 1; have zf5 : ∀ j, w5.frozen? ⟨w.heap.size + 1, j, none⟩ = false := (fun j => bfrozen x8 j); have HL5 := Aside0.mk hl5; have HF5 := Aside0.mk (hF.below HF3.out HB5.out); clear hb5 hl5 x6 x8 x10))
  | (go_at_call 15; (obtain ⟨okc, hDc⟩ := hF.dev (hF.below HF3.out HB5.out)); (have hcc := LCount_any (HL3.out.below HB5.out) hDc 0); (rw [← HC0.out] at hcc); (with_reducible refine hcc.mono ?_); clear hcc hDc; rintro e w7 ⟨rfl, hb7⟩; have HB7 := Aside0.mk (HB5.out.trans (hb7.mono HB5.out.size)); have x8 := (HB7.out.block _ (blt P8.out)).trans P8.out; have X87 := Lib.hid x8; have z07 : w7.cell? ⟨w.heap.size + 1, 0, none⟩ = some (.int .i64 0) := bcell x8 0; have z17 : w7.cell? ⟨w.heap.size + 1, 1, none⟩ = some (.int .i64 0) := bcell x8 1; have zf7 : ∀ j, w7.frozen? ⟨w.heap.size + 1, j, none⟩ = false := (fun j => bfrozen x8 j); clear hb7 x8)
  | (go_at_call 86; (have htn := LTurn_F hF hSt (hF.below HF3.out HB7.out) (HL3.out.below HB7.out) (.inl (.inl hq)) hN ho16 hsq hn2 hn1 hd0 hm16 HFI.out); (with_reducible refine htn.mono ?_); clear htn; rintro e w8 ⟨rfl, hf8, hl8, hb8, hk8⟩; have bel8 : Below N0 w w8 := (((WB.out.trans ((BB.out.trans (HB7.out.mono BB.out.size)).mono (by omega))).mono hsz)).trans hb8; have kep8 : Kept (fun k => K k ∧ k ≠ q) w w8 := (fun k hk => (hk8 k ⟨.inl (.inl hk.1), hk.2⟩).trans ((show Kept (fun k => K k ∧ k ≠ q) w w7 from (fun k hk => (((BB.out.trans (HB7.out.mono BB.out.size)).mono (by omega)).block k (HLT.out k hk.1)).trans (WB.out.block k (HLT.out k hk.1)))) k hk)); have x6 := (hk8 w.heap.size ⟨.inl (.inr ⟨Nat.le_refl _, by omega⟩), (by have := HLT.out q hq; omega)⟩).trans ((HB7.out.block _ (blt P6.out)).trans P6.out); have x8 := (hk8 (w.heap.size + 1) ⟨.inl (.inr ⟨Nat.le_succ _, by omega⟩), (by have := HLT.out q hq; omega)⟩).trans X87.out; have X68 := Lib.hid x6; have X88 := Lib.hid x8; have HF8 := Aside0.mk hf8; have HL8 := Aside0.mk hl8; have BEL8 := Aside0.mk bel8; have KEP8 := Lib.hid kep8; clear hf8 hl8 hb8 hk8 bel8 kep8 x6 x8))
 have y0 := HL8.out.c0
 have y17 := HL8.out.c17
 have y18 := HL8.out.c18
 refine wp_region_held_drew (S := (fun w' => w'.cell? ⟨q, 0, none⟩ = some (.pointer (some ⟨p, 0, none⟩)) ∧ w'.cell? ⟨q, 17, none⟩ = some (.int .i64 (m : Int)) ∧ w'.cell? ⟨q, 18, none⟩ = some (.int .i64 1))) (by kernel_rfl) ?_ (fun hHeld => ?_)
 ·first | go_keep | exact ⟨y0, y17, y18⟩
 first | refine tkY 0 ?_ | refine tkN 0 ?_
 try simp only [Act.put, tk1, tk2, tk3]
 first | refine tkY 1 ?_ | refine tkN 1 ?_
 try simp only [Act.put, tk1, tk2, tk3]
 first | refine tkY 2 ?_ | refine tkN 2 ?_
 try simp only [Act.put, tk1, tk2, tk3]
 first | refine tkY 3 ?_ | refine tkN 3 ?_
 try simp only [Act.put, tk1, tk2, tk3]
 first | refine tkY 4 ?_ | refine tkN 4 ?_
 try simp only [Act.put, tk1, tk2, tk3]
 first | refine tkY 5 ?_ | refine tkN 5 ?_
 try simp only [Act.put, tk1, tk2, tk3]
 first | refine tkY 6 ?_ | refine tkN 6 ?_
 try simp only [Act.put, tk1, tk2, tk3]
 first | refine tkY 7 ?_ | refine tkN 7 ?_
 try simp only [Act.put, tk1, tk2, tk3]
 first | refine tkY 8 ?_ | refine tkN 8 ?_
 try simp only [Act.put, tk1, tk2, tk3]
 refine wpAnyH_ready (rs := [9]) (by kernel_rfl) (by simp) ?_
 refine AllReadyH.cons (by (simp only [List.getElem?_toArray, List.getElem?_cons_succ, List.getElem?_cons_zero]; rfl)) (fun K hK => ?_) AllReadyH.nil
 go_simp
 (try dsimp only)
 refine hK.out _ _ ?_ (fun hHeld => ?_)
 ·first | go_keep | exact ⟨y0, y17, y18⟩
 clear hK K
 try simp only [Act.put, tk1, tk2, tk3]
 refine wpAnyH_ready (rs := [10]) (by kernel_rfl) (by simp) ?_
 refine AllReadyH.cons (by (simp only [List.getElem?_toArray, List.getElem?_cons_succ, List.getElem?_cons_zero]; rfl)) (fun K hK => ?_) AllReadyH.nil
 go_simp
 (try dsimp only)
 refine hK.out _ _ ?_ (fun hHeld => ?_)
 ·first | go_keep | exact ⟨y0, y17, y18⟩
 clear hK K
 try simp only [Act.put, tk1, tk2, tk3]
 refine wpAnyH_done (by kernel_rfl) ?_ _
 obtain ⟨Y, hY⟩ : ∃ Y, Y = (w8.alloc (.cells #[.int .i64 (m : Int), .int .i64 1] TA)).drew := ⟨_, rfl⟩
 rw [← hY]
 have qY : Y.heap[w8.heap.size]? = some (.cells #[.int .i64 (m : Int), .int .i64 1] TA (0, 0)) := by rw [hY]; exact blk_new _ _
 have bY : Below w8.heap.size w8 Y := by rw [hY]; exact (below_alloc (Below.refl _ _) _).drew
 have bYd : Below w8.heap.size w8 Y.drew := bY.drew
 have sY : Y.heap.size = w8.heap.size + 1 := by rw [hY]; exact size_alloc _ _
 have fY := hF.keep HF8.out bYd
 have lY := HL8.out.below bY
 have zY0 := lY.c0
 have zY17 := lY.c17
 have zY18 := lY.c18
 have zY19 := lY.c19
 have zY6 : Y.cell? ⟨w.heap.size, 0, none⟩ = some (.slice A n c) := bcell ((bY.block _ (blt X68.out)).trans X68.out) 0
 have belX : Below N0 w w8 := BEL8.out
 have kepX : Kept (fun k => K k ∧ k ≠ q) w w8 := KEP8.out
 have bNY : Below N0 w Y.drew := belX.trans (bYd.mono (by have := belX.size; omega))
 have kNY : Kept (fun k => K k ∧ k ≠ q) w Y.drew := fun k hk => (bYd.block k (by have := HLT.out k hk.1; have := belX.size; omega)).trans (kepX k hk)
 have happ := Append_F (kind := kind) (seq := g.nx) hF fY (m : Int) 1 hkk hsq hBl (HCX.out _ bNY kNY) (by rw [← HN.out]; exact hc) (by rw [← HN.out]; exact hm) hdd
 rw [HAP.out, ← HN.out] at happ
 have HAPP := Lib.hid happ
 have HFK := Aside0.mk fY
 have LY := Aside0.mk lY
 have QY := Lib.hid qY
 have BY := Aside0.mk bY
 have HY := Lib.hid hY
 have hwx : IntKind.u64.wrap g.nx = g.nx := IntWalk.u64_in _ (by omega)
 have hwk : IntKind.i64.wrap (1 + (k : Int)) = 1 + (k : Int) := IntWalk.i64_in _ (by omega)
 have BX := Aside0.mk belX
 have KX := Lib.hid kepX
 have nq1 : ¬ w8.heap.size = q := by have := blt HL8.out.blk; omega
 have nq2 : ¬ q = w8.heap.size := fun e => nq1 e.symm
 have nq3 : ¬ w.heap.size + 1 = q := by have := HLT.out q hq; omega
 have nq4 : ¬ q = w.heap.size + 1 := fun e => nq3 e.symm
 have nq5 : ¬ w8.heap.size = w.heap.size + 1 := by have := blt X88.out; omega
 have nq6 : ¬ w.heap.size + 1 = w8.heap.size := fun e => nq5 e.symm
 clear qY bY bYd fY lY belX kepX bNY kNY happ hY y0 y17 y18 hHeld
 go_wp2_with fail
 refine wp_region_held_drew (S := (fun w' => w'.cell? ⟨q, 0, none⟩ = some (.pointer (some ⟨p, 0, none⟩)) ∧ w'.cell? ⟨q, 17, none⟩ = some (.int .i64 (m : Int)) ∧ w'.cell? ⟨q, 18, none⟩ = some (.int .i64 1) ∧ w'.cell? ⟨q, 19, none⟩ = some (.int .u64 (g.nx + 1)) ∧ w'.cell? ⟨w.heap.size, 0, none⟩ = some (.slice A n c))) (by kernel_rfl) ?_ (fun hHeld => ?_)
 ·first | exact ⟨zY0, zY17, zY18, zY19, zY6⟩ | exact ⟨s0, s17, s18, s19, s6⟩
 first | refine tkY 0 ?_ | refine tkN 0 ?_
 try simp only [Act.put, tk1, tk2, tk3]
 first | refine tkY 1 ?_ | refine tkN 1 ?_
 try simp only [Act.put, tk1, tk2, tk3]
 first | refine tkY 2 ?_ | refine tkN 2 ?_
 try simp only [Act.put, tk1, tk2, tk3]
 first | refine tkY 3 ?_ | refine tkN 3 ?_
 try simp only [Act.put, tk1, tk2, tk3]
 first | refine tkY 4 ?_ | refine tkN 4 ?_
 try simp only [Act.put, tk1, tk2, tk3]
 first | refine tkY 5 ?_ | refine tkN 5 ?_
 try simp only [Act.put, tk1, tk2, tk3]
 first | refine tkY 6 ?_ | refine tkN 6 ?_
 try simp only [Act.put, tk1, tk2, tk3]
 first | refine tkY 7 ?_ | refine tkN 7 ?_
 try simp only [Act.put, tk1, tk2, tk3]
 first | refine tkY 8 ?_ | refine tkN 8 ?_
 try simp only [Act.put, tk1, tk2, tk3]
 first | refine tkY 9 ?_ | refine tkN 9 ?_
 try simp only [Act.put, tk1, tk2, tk3]
 first | refine tkY 10 ?_ | refine tkN 10 ?_
 try simp only [Act.put, tk1, tk2, tk3]
 first | refine tkY 11 ?_ | refine tkN 11 ?_
 try simp only [Act.put, tk1, tk2, tk3]
 first | refine tkY 12 ?_ | refine tkN 12 ?_
 try simp only [Act.put, tk1, tk2, tk3]
 first | refine tkY 13 ?_ | refine tkN 13 ?_
 try simp only [Act.put, tk1, tk2, tk3]
 first | refine tkY 14 ?_ | refine tkN 14 ?_
 try simp only [Act.put, tk1, tk2, tk3]
 first | refine tkY 15 ?_ | refine tkN 15 ?_
 try simp only [Act.put, tk1, tk2, tk3]
 first | refine tkY 16 ?_ | refine tkN 16 ?_
 try simp only [Act.put, tk1, tk2, tk3]
 first | refine tkY 17 ?_ | refine tkN 17 ?_
 try simp only [Act.put, tk1, tk2, tk3]
 first | refine tkY 18 ?_ | refine tkN 18 ?_
 try simp only [Act.put, tk1, tk2, tk3]
 refine wpAnyH_ready (rs := [19]) (by kernel_rfl) (by simp) ?_
 refine AllReadyH.cons (by (simp only [List.getElem?_toArray, List.getElem?_cons_succ, List.getElem?_cons_zero]; rfl)) (fun K hK => ?_) AllReadyH.nil
 go_simp
 (go_at_call 87; (with_reducible refine HAPP.out.mono ?_); rintro e w10 ⟨rfl, hf10, hb10, hk10⟩; have hl10 : LogIs q p { st := (sealG g).st.set m 1, op := (m : Int), pg := 1, nx := g.nx + 1 } w10 := ⟨LY.out.len, (hk10 q (.inl (.inl (.inl hq)))).trans LY.out.blk⟩; have s0 := hl10.c0; have s17 := hl10.c17; have s18 := hl10.c18; have s19 := hl10.c19; have fr18 := hl10.frozen 18; have x6 := (hk10 w.heap.size (.inl (.inl (.inr ⟨Nat.le_refl _, by omega⟩)))).trans ((BY.out.block _ (blt X68.out)).trans X68.out); have x8 := (hk10 (w.heap.size + 1) (.inl (.inl (.inr ⟨Nat.le_succ _, by omega⟩)))).trans ((BY.out.block _ (blt X88.out)).trans X88.out); have x12 := (hk10 w8.heap.size (.inr ⟨Nat.le_refl _, by show _ < Y.heap.size; omega⟩)).trans QY.out; have s6 : w10.cell? ⟨w.heap.size, 0, none⟩ = some (.slice A n c) := bcell x6 0; have m0 : w10.cell? ⟨w.heap.size + 1, 0, none⟩ = some (.int .i64 0) := bcell x8 0; have m1 : w10.cell? ⟨w.heap.size + 1, 1, none⟩ = some (.int .i64 0) := bcell x8 1; have mf : ∀ j, w10.frozen? ⟨w.heap.size + 1, j, none⟩ = false := (fun j => bfrozen x8 j); have t0 : w10.cell? ⟨w8.heap.size, 0, none⟩ = some (.int .i64 (m : Int)) := bcell x12 0; have t1 : w10.cell? ⟨w8.heap.size, 1, none⟩ = some (.int .i64 1) := bcell x12 1; have HL10 := Aside0.mk hl10; have X810 := Lib.hid x8; have HF10 := Aside0.mk hf10; have HB10 := Aside0.mk (BX.out.trans ((show Below N0 w8 Y.drew from (BY.out.drew).mono (by have := BX.out.size; omega)).trans hb10)); have HKR := Lib.hid hk10; clear hl10 hf10 hb10 hk10 x6 x8 x12)
 (try dsimp only)
 refine hK.out _ _ ?_ (fun hHeld => ?_)
 ·first | exact ⟨zY0, zY17, zY18, zY19, zY6⟩ | exact ⟨s0, s17, s18, s19, s6⟩
 clear hK K
 try simp only [Act.put, tk1, tk2, tk3]
 first | refine tkY 20 ?_ | refine tkN 20 ?_
 try simp only [Act.put, tk1, tk2, tk3]
 first | refine tkY 21 ?_ | refine tkN 21 ?_
 try simp only [Act.put, tk1, tk2, tk3]
 first | refine tkY 22 ?_ | refine tkN 22 ?_
 try simp only [Act.put, tk1, tk2, tk3]
 first | refine tkY 23 ?_ | refine tkN 23 ?_
 try simp only [Act.put, tk1, tk2, tk3]
 first | refine tkY 24 ?_ | refine tkN 24 ?_
 try simp only [Act.put, tk1, tk2, tk3]
 refine wpAnyH_done (by kernel_rfl) ?_ _
 go_wp2_with fail
 have HK10 := Lib.hid (show Kept (fun k => K k ∧ k ≠ q) w w10 from fun k hk => (HKR.out k (.inl (.inl (.inl hk.1)))).trans ((BY.out.block k (by have := HLT.out k hk.1; have := BX.out.size; omega)).trans (KX.out k hk)))
 have hl11 := HL10.out.setPg (1 + (k : Int))
 have hu11 := Upd.setCell w10 (p := ⟨q, 18, none⟩) (S := fun k => k = q) rfl (.int .i64 (1 + (k : Int)))
 have hf11 := hSt _ _ w10 _ q _ _ _ HF10.out (.inl (.inl (.inl hq))) HL10.out.blk hl11.blk (by decide) hu11
 have s10 := hF.size HF10.out
 have hb11 := HB10.out.trans (hu11.below s10 (fun k hk => by rw [hk]; exact hN))
 have x811 := (hu11.block (w.heap.size + 1) (blt X810.out) (fun e => nq3 e)).trans X810.out
 have hk11 : Kept (fun k => K k ∧ k ≠ q) w (w10.setCell ⟨q, 18, none⟩ (.int .i64 (1 + (k : Int)))) := fun k hk => (hu11.block k (hF.lt HF10.out k (.inl (.inl (.inl hk.1)))) hk.2).trans (HK10.out k hk)
 obtain ⟨w9, hw9⟩ : ∃ w9, w9 = ((w10.setCell ⟨q, 18, none⟩ (.int .i64 (1 + (k : Int)))).setCell ⟨w.heap.size + 1, 0, none⟩ (.int .i64 (m : Int))).setCell ⟨w.heap.size + 1, 1, none⟩ (.int .i64 1) := ⟨_, rfl⟩
 rw [← hw9]
 obtain ⟨r8, hf9, hl9, hb9, hk9⟩ := put_end hF hSt hf11 hl11 hq HLT.out hsz (Nat.le_succ _) x811 (.inl (.inl (.inr ⟨Nat.le_succ _, by omega⟩))) (fun k hk => .inl (.inl (.inl hk))) hb11 hk11 hw9
 have r0 := bcell r8 0
 have r1 := bcell r8 1
 exact bodyPost_ret (v := .tuple #[.agg #[.int .i64 (m : Int), .int .i64 1], .int .i64 0]) (by simp [results, Tryz.results45, go_sem, r0, r1]) rfl ⟨rfl, hf9, hl9, hb9, hk9⟩
set_option maxHeartbeats 4000000 in
set_option maxRecDepth 100000 in
theorem LPut_turnN (hF : DevFrame N0 p F) (hSt : ∀ D, Stays (fun K w => F K D w)) (h : F K D w) (hl : LogIs q p g w) (hq : K q) (hN : N0 ≤ q) (hC : kB.C w A l.length l) (hc : l.length ≤ c) (hm : l.length < 1000000) (hk : kind ≠ 1) (hv1 : fitsS D.s 1 l.length = true) (ho : 0 ≤ g.op) (hv2 : fitsS D.s g.pg l.length = false) (hkk : KindOk kind) (hBl : Byt l) (hCx : ∀ X, Below N0 w X → Kept (fun k => K k ∧ k ≠ q) w X → kB.C X A l.length l) (hd0 : D.dirty.length < 900000) {m : Nat} (hdd : (appD D (m : Int) 0 0 (rec 1 g.nx [])).dirty.length < 900000) (ho16 : g.op < 16) (hsq : SeqOk g.nx) (hn1 : 0 ≤ g.nx) (hn2 : g.nx < 1000000) (hm16 : m < 16) (hfi : ∀ r, FirstAt (sealG g).st 0 r → r = (m : Int)) {k : Nat} (hp1 : (k : Int) < 900) (hap : appE (appD D (m : Int) 0 0 (rec 1 g.nx [])) (m : Int) 1 l.length = ((k : Int), 0)) (hcn : ¬ (cnt 0 (g.st.take D.s.1.toNat) : Int) < need) : Calls Tryz.prog 45 #[.pointer (some ⟨q, 0, none⟩), .int .u8 kind, .slice A l.length c, .int .i64 need] w (PutPost N0 q p F K w ((m : Int), 1) 0 (appD (appD D (m : Int) 0 0 (rec 1 g.nx [])) (m : Int) 1 l.length (rec kind g.nx l)) { st := (sealG g).st.set m 1, op := (m : Int), pg := 1 + (k : Int), nx := g.nx + 1 }) := by
 have hpg : ∀ X : World, Calls Tryz.prog 85 #[.int .i64 0, .int .i64 D.s.2.2] X fun e w' => e = .returned (.int .i64 1) ∧ Below X.heap.size X w' := fun X => by
  have := Pages_ok 0 D.s (hF.shape h) (by omega) X
  rw [kpg_zero (hF.shape h)] at this
  exact this
 have HPG := Lib.hid hpg
 have HKI := Lib.hid (show (kind == 1) = false by simpa using hk)
 have e_k := HKI.out
 have HV1 := Lib.hid hv1
 have HV2 := Lib.hid hv2
 clear hv2
 obtain ⟨c0, hc0⟩ : ∃ c0, c0 = cnt 0 (g.st.take D.s.1.toNat) := ⟨_, rfl⟩
 rw [← hc0] at hcn
 have HC0 := Lib.hid hc0
 clear hc0
 have HAP := Lib.hid hap
 have HCX := Lib.hid hCx
 have HFI := Lib.hid hfi
 clear hap hCx hfi
 obtain ⟨n, hn⟩ : ∃ n, n = l.length := ⟨_, rfl⟩
 have hsz := hF.size h
 have hlt := fun k hk => hF.lt h k hk
 obtain ⟨W, hW⟩ : ∃ W, W = (w.alloc (.cells #[.slice A n c] TBs)).alloc (.cells #[.int .i64 0, .int .i64 0] TA) := ⟨_, rfl⟩
 obtain ⟨q6, q8⟩ := pair_blk w (.cells #[.slice A n c] TBs) (.cells #[.int .i64 0, .int .i64 0] TA)
 rw [← hW] at q6 q8
 have wb : Below w.heap.size w W := by rw [hW]; exact below_alloc (below_alloc (Below.refl _ _) _) _
 have wsz : W.heap.size = w.heap.size + 2 := by rw [hW, size_alloc, size_alloc]
 have hf1 := hF.keep h wb
 have hl1 := hl.below wb
 obtain ⟨ok1, hD1⟩ := hF.dev hf1
 have hsh := hD1.sound.sh
 have HOK := Lib.hid (Lok_any hl1)
 have HSHP := Lib.hid (Shape_any hD1)
 have HF1 := Aside0.mk hf1
 have HL1 := Aside0.mk hl1
 have HW := Lib.hid hW
 have Q6 := Lib.hid q6
 have Q8 := Lib.hid q8
 have WB := Aside0.mk wb
 have HSH := Lib.hid hsh
 have HN := Lib.hid hn
 have HLT := Lib.hid hlt
 have k0 : W.cell? ⟨q, 0, none⟩ = some (.pointer (some ⟨p, 0, none⟩)) := hl1.c0
 rw [← hn] at hc hm
 rw [← hn]
 clear h hl hn hlt hf1 hl1 hD1 hsh hW q6 q8 wb hpg hv1 hk
 go_enter Tryz.func45, Tryz.ntmps45
 have e_c : decide ((c0 : Int) < need) = false := decide_eq_false hcn
 have e_o : decide (g.op < 0) = false := decide_eq_false (by omega)
 go_wp2_with (first
  | (rw [← HW.out])
  | (rw [← HW3.out])
  | (go_at_call 46; (with_reducible refine HOK.out.mono ?_); rintro e w1 ⟨rfl, rfl⟩)
  | (go_at_call 58; (with_reducible refine HSHP.out.mono ?_); rintro e w2 ⟨rfl, hb2⟩; obtain ⟨W3, hW3⟩ : ∃ W3, W3 = w2.alloc (.cells #[.int .i64 D.s.1, .int .i64 D.s.2.1, .int .i64 D.s.2.2] TSh) := ⟨_, rfl⟩; have q10 : W3.heap[w2.heap.size]? = some (.cells #[.int .i64 D.s.1, .int .i64 D.s.2.1, .int .i64 D.s.2.2] TSh (0, 0)) := (by rw [hW3]; exact blk_new _ _); have b23 : Below w2.heap.size w2 W3 := (by rw [hW3]; exact below_alloc (Below.refl _ _) _); have hbb := hb2.trans (b23.mono hb2.size); have HF3 := Aside0.mk (hF.keep (hF.below HF1.out hb2) b23); have HL3 := Aside0.mk (HL1.out.below hbb); have p6 := (hbb.block _ (blt Q6.out)).trans Q6.out; have p8 := (hbb.block _ (blt Q8.out)).trans Q8.out; have P6 := Lib.hid p6; have P8 := Lib.hid p8; have Q10 := Lib.hid q10; have BB := Aside0.mk hbb; have HW3 := Lib.hid hW3; have z0 : W3.cell? ⟨w.heap.size + 1, 0, none⟩ = some (.int .i64 0) := bcell p8 0; have z1 : W3.cell? ⟨w.heap.size + 1, 1, none⟩ = some (.int .i64 0) := bcell p8 1; have zf : ∀ j, W3.frozen? ⟨w.heap.size + 1, j, none⟩ = false := (fun j => bfrozen p8 j); have y2 : W3.cell? ⟨w2.heap.size, 2, none⟩ = some (.int .i64 D.s.2.2) := bcell q10 2; clear hb2 hW3 q10 b23 hbb p6 p8)
  | (go_at_call 85; (with_reducible refine (HPG.out _).mono ?_); rintro e w4 ⟨rfl, hb4⟩; have x6 := (hb4.block _ (blt P6.out)).trans P6.out; have x10 := (hb4.block _ (blt Q10.out)).trans Q10.out; have X6 := Lib.hid x6; have X10 := Lib.hid x10; have HB4 := Aside0.mk hb4; clear x6 x10 hb4)
  | ((with_reducible refine gate_dst (N := 34) rfl ?_); (refine closL (some 34) rfl rfl 30 putfits_clo #[.int .i64 1] rfl rfl (by simp only [List.map_toArray, List.map_cons, List.map_nil]; rfl) ?_; refine (PutFits_any (w := w4) HSH.out (bcell X10.out 0) (bcell X10.out 1) (bcell X10.out 2) (bcell X6.out 0) (show n ≤ 9223372036854775807 by omega) 1).mono ?_; (have hvv := HV1.out; rw [← HN.out] at hvv; rw [hvv]; clear hvv); rintro e w5 ⟨rfl, hb5⟩; refine ⟨_, rfl, ?_⟩; have HB5 := Aside0.mk (HB4.out.trans (hb5.mono HB4.out.size)); have hl5 := HL3.out.below HB5.out; have k05 := hl5.c0; have k17 := hl5.c17; have k18 := hl5.c18; have x6 := (HB5.out.block _ (blt P6.out)).trans P6.out; have x8 := (HB5.out.block _ (blt P8.out)).trans P8.out; have x10 := (HB5.out.block _ (blt Q10.out)).trans Q10.out; have X65 := Lib.hid x6; have X85 := Lib.hid x8; have X105 := Lib.hid x10; have z05 : w5.cell? ⟨w.heap.size + 1, 0, none⟩ = some (.int .i64 0) := bcell x8 0; have z15 : w5.cell? ⟨w.heap.size + 1, 1, none⟩ = some (.int .i64 0) := bcell x8 1; have zf5 : ∀ j, w5.frozen? ⟨w.heap.size + 1, j, none⟩ = false := (fun j => bfrozen x8 j); have HL5 := Aside0.mk hl5; have HF5 := Aside0.mk (hF.below HF3.out HB5.out); clear hb5 hl5 x6 x8 x10))
  | ((with_reducible refine gate_dst (N := 48) rfl ?_); (refine closG (some 48) rfl (by kernel_rfl) 43 putfits_clo #[.int .i64 g.pg] rfl rfl (by simp only [List.map_toArray, List.map_cons, List.map_nil]; rfl) ?_; refine (PutFits_any (w := w5) HSH.out (bcell X105.out 0) (bcell X105.out 1) (bcell X105.out 2) (bcell X65.out 0) (show n ≤ 9223372036854775807 by omega) g.pg).mono ?_; (have hvv := HV2.out; rw [← HN.out] at hvv; rw [hvv]; clear hvv); rintro e w6 ⟨rfl, hb6⟩; refine ⟨_, rfl, ?_⟩; have HB6 := Aside0.mk (HB5.out.trans (hb6.mono HB5.out.size)); have x6 := (hb6.block _ (blt X65.out)).trans X65.out; have x8 := (hb6.block _ (blt X85.out)).trans X85.out; have X66 := Lib.hid x6; have X86 := Lib.hid x8; clear x6 x8 hb6))
  | (go_at_call 15; (obtain ⟨okc, hDc⟩ := hF.dev (hF.below HF3.out HB6.out)); (have hcc := LCount_any (HL3.out.below HB6.out) hDc 0); (rw [← HC0.out] at hcc); (with_reducible refine hcc.mono ?_); clear hcc hDc; rintro e w7 ⟨rfl, hb7⟩; have HB7 := Aside0.mk (HB6.out.trans (hb7.mono HB6.out.size)); have x8 := (HB7.out.block _ (blt P8.out)).trans P8.out; have X87 := Lib.hid x8; have z07 : w7.cell? ⟨w.heap.size + 1, 0, none⟩ = some (.int .i64 0) := bcell x8 0; have z17 : w7.cell? ⟨w.heap.size + 1, 1, none⟩ = some (.int .i64 0) := bcell x8 1; have zf7 : ∀ j, w7.frozen? ⟨w.heap.size + 1, j, none⟩ = false := (fun j => bfrozen x8 j); clear hb7 x8)
  | (go_at_call 86; (have htn := LTurn_F hF hSt (hF.below HF3.out HB7.out) (HL3.out.below HB7.out) (.inl (.inl hq)) hN ho16 hsq hn2 hn1 hd0 hm16 HFI.out); (with_reducible refine htn.mono ?_); clear htn; rintro e w8 ⟨rfl, hf8, hl8, hb8, hk8⟩; have bel8 : Below N0 w w8 := (((WB.out.trans ((BB.out.trans (HB7.out.mono BB.out.size)).mono (by omega))).mono hsz)).trans hb8; have kep8 : Kept (fun k => K k ∧ k ≠ q) w w8 := (fun k hk => (hk8 k ⟨.inl (.inl hk.1), hk.2⟩).trans ((show Kept (fun k => K k ∧ k ≠ q) w w7 from (fun k hk => (((BB.out.trans (HB7.out.mono BB.out.size)).mono (by omega)).block k (HLT.out k hk.1)).trans (WB.out.block k (HLT.out k hk.1)))) k hk)); have x6 := (hk8 w.heap.size ⟨.inl (.inr ⟨Nat.le_refl _, by omega⟩), (by have := HLT.out q hq; omega)⟩).trans ((HB7.out.block _ (blt P6.out)).trans P6.out); have x8 := (hk8 (w.heap.size + 1) ⟨.inl (.inr ⟨Nat.le_succ _, by omega⟩), (by have := HLT.out q hq; omega)⟩).trans X87.out; have X68 := Lib.hid x6; have X88 := Lib.hid x8; have HF8 := Aside0.mk hf8; have HL8 := Aside0.mk hl8; have BEL8 := Aside0.mk bel8; have KEP8 := Lib.hid kep8; clear hf8 hl8 hb8 hk8 bel8 kep8 x6 x8))
 have y0 := HL8.out.c0
 have y17 := HL8.out.c17
 have y18 := HL8.out.c18
 refine wp_region_held_drew (S := (fun w' => w'.cell? ⟨q, 0, none⟩ = some (.pointer (some ⟨p, 0, none⟩)) ∧ w'.cell? ⟨q, 17, none⟩ = some (.int .i64 (m : Int)) ∧ w'.cell? ⟨q, 18, none⟩ = some (.int .i64 1))) (by kernel_rfl) ?_ (fun hHeld => ?_)
 ·first | go_keep | exact ⟨y0, y17, y18⟩
 first | refine tkY 0 ?_ | refine tkN 0 ?_
 try simp only [Act.put, tk1, tk2, tk3]
 first | refine tkY 1 ?_ | refine tkN 1 ?_
 try simp only [Act.put, tk1, tk2, tk3]
 first | refine tkY 2 ?_ | refine tkN 2 ?_
 try simp only [Act.put, tk1, tk2, tk3]
 first | refine tkY 3 ?_ | refine tkN 3 ?_
 try simp only [Act.put, tk1, tk2, tk3]
 first | refine tkY 4 ?_ | refine tkN 4 ?_
 try simp only [Act.put, tk1, tk2, tk3]
 first | refine tkY 5 ?_ | refine tkN 5 ?_
 try simp only [Act.put, tk1, tk2, tk3]
 first | refine tkY 6 ?_ | refine tkN 6 ?_
 try simp only [Act.put, tk1, tk2, tk3]
 first | refine tkY 7 ?_ | refine tkN 7 ?_
 try simp only [Act.put, tk1, tk2, tk3]
 first | refine tkY 8 ?_ | refine tkN 8 ?_
 try simp only [Act.put, tk1, tk2, tk3]
 refine wpAnyH_ready (rs := [9]) (by kernel_rfl) (by simp) ?_
 refine AllReadyH.cons (by (simp only [List.getElem?_toArray, List.getElem?_cons_succ, List.getElem?_cons_zero]; rfl)) (fun K hK => ?_) AllReadyH.nil
 go_simp
 (try dsimp only)
 refine hK.out _ _ ?_ (fun hHeld => ?_)
 ·first | go_keep | exact ⟨y0, y17, y18⟩
 clear hK K
 try simp only [Act.put, tk1, tk2, tk3]
 refine wpAnyH_ready (rs := [10]) (by kernel_rfl) (by simp) ?_
 refine AllReadyH.cons (by (simp only [List.getElem?_toArray, List.getElem?_cons_succ, List.getElem?_cons_zero]; rfl)) (fun K hK => ?_) AllReadyH.nil
 go_simp
 (try dsimp only)
 refine hK.out _ _ ?_ (fun hHeld => ?_)
 ·first | go_keep | exact ⟨y0, y17, y18⟩
 clear hK K
 try simp only [Act.put, tk1, tk2, tk3]
 refine wpAnyH_done (by kernel_rfl) ?_ _
 obtain ⟨Y, hY⟩ : ∃ Y, Y = (w8.alloc (.cells #[.int .i64 (m : Int), .int .i64 1] TA)).drew := ⟨_, rfl⟩
 rw [← hY]
 have qY : Y.heap[w8.heap.size]? = some (.cells #[.int .i64 (m : Int), .int .i64 1] TA (0, 0)) := by rw [hY]; exact blk_new _ _
 have bY : Below w8.heap.size w8 Y := by rw [hY]; exact (below_alloc (Below.refl _ _) _).drew
 have bYd : Below w8.heap.size w8 Y.drew := bY.drew
 have sY : Y.heap.size = w8.heap.size + 1 := by rw [hY]; exact size_alloc _ _
 have fY := hF.keep HF8.out bYd
 have lY := HL8.out.below bY
 have zY0 := lY.c0
 have zY17 := lY.c17
 have zY18 := lY.c18
 have zY19 := lY.c19
 have zY6 : Y.cell? ⟨w.heap.size, 0, none⟩ = some (.slice A n c) := bcell ((bY.block _ (blt X68.out)).trans X68.out) 0
 have belX : Below N0 w w8 := BEL8.out
 have kepX : Kept (fun k => K k ∧ k ≠ q) w w8 := KEP8.out
 have bNY : Below N0 w Y.drew := belX.trans (bYd.mono (by have := belX.size; omega))
 have kNY : Kept (fun k => K k ∧ k ≠ q) w Y.drew := fun k hk => (bYd.block k (by have := HLT.out k hk.1; have := belX.size; omega)).trans (kepX k hk)
 have happ := Append_F (kind := kind) (seq := g.nx) hF fY (m : Int) 1 hkk hsq hBl (HCX.out _ bNY kNY) (by rw [← HN.out]; exact hc) (by rw [← HN.out]; exact hm) hdd
 rw [HAP.out, ← HN.out] at happ
 have HAPP := Lib.hid happ
 have HFK := Aside0.mk fY
 have LY := Aside0.mk lY
 have QY := Lib.hid qY
 have BY := Aside0.mk bY
 have HY := Lib.hid hY
 have hwx : IntKind.u64.wrap g.nx = g.nx := IntWalk.u64_in _ (by omega)
 have hwk : IntKind.i64.wrap (1 + (k : Int)) = 1 + (k : Int) := IntWalk.i64_in _ (by omega)
 have BX := Aside0.mk belX
 have KX := Lib.hid kepX
 have nq1 : ¬ w8.heap.size = q := by have := blt HL8.out.blk; omega
 have nq2 : ¬ q = w8.heap.size := fun e => nq1 e.symm
 have nq3 : ¬ w.heap.size + 1 = q := by have := HLT.out q hq; omega
 have nq4 : ¬ q = w.heap.size + 1 := fun e => nq3 e.symm
 have nq5 : ¬ w8.heap.size = w.heap.size + 1 := by have := blt X88.out; omega
 have nq6 : ¬ w.heap.size + 1 = w8.heap.size := fun e => nq5 e.symm
 clear qY bY bYd fY lY belX kepX bNY kNY happ hY y0 y17 y18 hHeld
 go_wp2_with fail
 refine wp_region_held_drew (S := (fun w' => w'.cell? ⟨q, 0, none⟩ = some (.pointer (some ⟨p, 0, none⟩)) ∧ w'.cell? ⟨q, 17, none⟩ = some (.int .i64 (m : Int)) ∧ w'.cell? ⟨q, 18, none⟩ = some (.int .i64 1) ∧ w'.cell? ⟨q, 19, none⟩ = some (.int .u64 (g.nx + 1)) ∧ w'.cell? ⟨w.heap.size, 0, none⟩ = some (.slice A n c))) (by kernel_rfl) ?_ (fun hHeld => ?_)
 ·first | exact ⟨zY0, zY17, zY18, zY19, zY6⟩ | exact ⟨s0, s17, s18, s19, s6⟩
 first | refine tkY 0 ?_ | refine tkN 0 ?_
 try simp only [Act.put, tk1, tk2, tk3]
 first | refine tkY 1 ?_ | refine tkN 1 ?_
 try simp only [Act.put, tk1, tk2, tk3]
 first | refine tkY 2 ?_ | refine tkN 2 ?_
 try simp only [Act.put, tk1, tk2, tk3]
 first | refine tkY 3 ?_ | refine tkN 3 ?_
 try simp only [Act.put, tk1, tk2, tk3]
 first | refine tkY 4 ?_ | refine tkN 4 ?_
 try simp only [Act.put, tk1, tk2, tk3]
 first | refine tkY 5 ?_ | refine tkN 5 ?_
 try simp only [Act.put, tk1, tk2, tk3]
 first | refine tkY 6 ?_ | refine tkN 6 ?_
 try simp only [Act.put, tk1, tk2, tk3]
 first | refine tkY 7 ?_ | refine tkN 7 ?_
 try simp only [Act.put, tk1, tk2, tk3]
 first | refine tkY 8 ?_ | refine tkN 8 ?_
 try simp only [Act.put, tk1, tk2, tk3]
 first | refine tkY 9 ?_ | refine tkN 9 ?_
 try simp only [Act.put, tk1, tk2, tk3]
 first | refine tkY 10 ?_ | refine tkN 10 ?_
 try simp only [Act.put, tk1, tk2, tk3]
 first | refine tkY 11 ?_ | refine tkN 11 ?_
 try simp only [Act.put, tk1, tk2, tk3]
 first | refine tkY 12 ?_ | refine tkN 12 ?_
 try simp only [Act.put, tk1, tk2, tk3]
 first | refine tkY 13 ?_ | refine tkN 13 ?_
 try simp only [Act.put, tk1, tk2, tk3]
 first | refine tkY 14 ?_ | refine tkN 14 ?_
 try simp only [Act.put, tk1, tk2, tk3]
 first | refine tkY 15 ?_ | refine tkN 15 ?_
 try simp only [Act.put, tk1, tk2, tk3]
 first | refine tkY 16 ?_ | refine tkN 16 ?_
 try simp only [Act.put, tk1, tk2, tk3]
 first | refine tkY 17 ?_ | refine tkN 17 ?_
 try simp only [Act.put, tk1, tk2, tk3]
 first | refine tkY 18 ?_ | refine tkN 18 ?_
 try simp only [Act.put, tk1, tk2, tk3]
 refine wpAnyH_ready (rs := [19]) (by kernel_rfl) (by simp) ?_
 refine AllReadyH.cons (by (simp only [List.getElem?_toArray, List.getElem?_cons_succ, List.getElem?_cons_zero]; rfl)) (fun K hK => ?_) AllReadyH.nil
 go_simp
 (go_at_call 87; (with_reducible refine HAPP.out.mono ?_); rintro e w10 ⟨rfl, hf10, hb10, hk10⟩; have hl10 : LogIs q p { st := (sealG g).st.set m 1, op := (m : Int), pg := 1, nx := g.nx + 1 } w10 := ⟨LY.out.len, (hk10 q (.inl (.inl (.inl hq)))).trans LY.out.blk⟩; have s0 := hl10.c0; have s17 := hl10.c17; have s18 := hl10.c18; have s19 := hl10.c19; have fr18 := hl10.frozen 18; have x6 := (hk10 w.heap.size (.inl (.inl (.inr ⟨Nat.le_refl _, by omega⟩)))).trans ((BY.out.block _ (blt X68.out)).trans X68.out); have x8 := (hk10 (w.heap.size + 1) (.inl (.inl (.inr ⟨Nat.le_succ _, by omega⟩)))).trans ((BY.out.block _ (blt X88.out)).trans X88.out); have x12 := (hk10 w8.heap.size (.inr ⟨Nat.le_refl _, by show _ < Y.heap.size; omega⟩)).trans QY.out; have s6 : w10.cell? ⟨w.heap.size, 0, none⟩ = some (.slice A n c) := bcell x6 0; have m0 : w10.cell? ⟨w.heap.size + 1, 0, none⟩ = some (.int .i64 0) := bcell x8 0; have m1 : w10.cell? ⟨w.heap.size + 1, 1, none⟩ = some (.int .i64 0) := bcell x8 1; have mf : ∀ j, w10.frozen? ⟨w.heap.size + 1, j, none⟩ = false := (fun j => bfrozen x8 j); have t0 : w10.cell? ⟨w8.heap.size, 0, none⟩ = some (.int .i64 (m : Int)) := bcell x12 0; have t1 : w10.cell? ⟨w8.heap.size, 1, none⟩ = some (.int .i64 1) := bcell x12 1; have HL10 := Aside0.mk hl10; have X810 := Lib.hid x8; have HF10 := Aside0.mk hf10; have HB10 := Aside0.mk (BX.out.trans ((show Below N0 w8 Y.drew from (BY.out.drew).mono (by have := BX.out.size; omega)).trans hb10)); have HKR := Lib.hid hk10; clear hl10 hf10 hb10 hk10 x6 x8 x12)
 (try dsimp only)
 refine hK.out _ _ ?_ (fun hHeld => ?_)
 ·first | exact ⟨zY0, zY17, zY18, zY19, zY6⟩ | exact ⟨s0, s17, s18, s19, s6⟩
 clear hK K
 try simp only [Act.put, tk1, tk2, tk3]
 first | refine tkY 20 ?_ | refine tkN 20 ?_
 try simp only [Act.put, tk1, tk2, tk3]
 first | refine tkY 21 ?_ | refine tkN 21 ?_
 try simp only [Act.put, tk1, tk2, tk3]
 first | refine tkY 22 ?_ | refine tkN 22 ?_
 try simp only [Act.put, tk1, tk2, tk3]
 first | refine tkY 23 ?_ | refine tkN 23 ?_
 try simp only [Act.put, tk1, tk2, tk3]
 first | refine tkY 24 ?_ | refine tkN 24 ?_
 try simp only [Act.put, tk1, tk2, tk3]
 refine wpAnyH_done (by kernel_rfl) ?_ _
 go_wp2_with fail
 have HK10 := Lib.hid (show Kept (fun k => K k ∧ k ≠ q) w w10 from fun k hk => (HKR.out k (.inl (.inl (.inl hk.1)))).trans ((BY.out.block k (by have := HLT.out k hk.1; have := BX.out.size; omega)).trans (KX.out k hk)))
 have hl11 := HL10.out.setPg (1 + (k : Int))
 have hu11 := Upd.setCell w10 (p := ⟨q, 18, none⟩) (S := fun k => k = q) rfl (.int .i64 (1 + (k : Int)))
 have hf11 := hSt _ _ w10 _ q _ _ _ HF10.out (.inl (.inl (.inl hq))) HL10.out.blk hl11.blk (by decide) hu11
 have s10 := hF.size HF10.out
 have hb11 := HB10.out.trans (hu11.below s10 (fun k hk => by rw [hk]; exact hN))
 have x811 := (hu11.block (w.heap.size + 1) (blt X810.out) (fun e => nq3 e)).trans X810.out
 have hk11 : Kept (fun k => K k ∧ k ≠ q) w (w10.setCell ⟨q, 18, none⟩ (.int .i64 (1 + (k : Int)))) := fun k hk => (hu11.block k (hF.lt HF10.out k (.inl (.inl (.inl hk.1)))) hk.2).trans (HK10.out k hk)
 obtain ⟨w9, hw9⟩ : ∃ w9, w9 = ((w10.setCell ⟨q, 18, none⟩ (.int .i64 (1 + (k : Int)))).setCell ⟨w.heap.size + 1, 0, none⟩ (.int .i64 (m : Int))).setCell ⟨w.heap.size + 1, 1, none⟩ (.int .i64 1) := ⟨_, rfl⟩
 rw [← hw9]
 obtain ⟨r8, hf9, hl9, hb9, hk9⟩ := put_end hF hSt hf11 hl11 hq HLT.out hsz (Nat.le_succ _) x811 (.inl (.inl (.inr ⟨Nat.le_succ _, by omega⟩))) (fun k hk => .inl (.inl (.inl hk))) hb11 hk11 hw9
 have r0 := bcell r8 0
 have r1 := bcell r8 1
 exact bodyPost_ret (v := .tuple #[.agg #[.int .i64 (m : Int), .int .i64 1], .int .i64 0]) (by simp [results, Tryz.results45, go_sem, r0, r1]) rfl ⟨rfl, hf9, hl9, hb9, hk9⟩
end
end Go.Proofs.YtmbiebdcnadhkaaGreat.Fl
namespace Go.Proofs.YtmbiebdcnadhkaaGreat.Fl
open Go.RowKit Go.Proofs.YtmbiebdcnadhkaaGreatW.PrintWords Go.Proofs.YtmbiebdcnadhkaaGreatW.PrintMore Go.Maps
abbrev TRL : TypeId := 57
abbrev TNi : TypeId := 3
def rlogC (x t cap : Nat) (g : LG) : Array Value := #[.pointer (some ⟨x, 0, none⟩), .slice (some ⟨t, 0, none⟩) g.st.length cap, .int .i64 g.op, .int .i64 g.pg, .int .u64 g.nx]
structure RLog (r t x cap : Nat) (rest : List Value) (g : LG) (w : World) : Prop where
 blk : w.heap[r]? = some (.cells (rlogC x t cap g) TRL (0, 0))
 row : w.heap[t]? = some (.cells (g.st.map (fun x => Value.int .i64 x) ++ rest).toArray TNi (0, 0))
section
variable {r t x cap : Nat} {rest : List Value} {g : LG} {w w' : World}
theorem RLog.ne (h : RLog r t x cap rest g w) : r ≠ t := fun e => by
 have h1 := h.blk
 rw [e, h.row] at h1
 injection h1 with h1
 injection h1 with _ h1 _
 exact absurd h1 (by decide)
theorem RLog.step (h : RLog r t x cap rest g w) (hr : w'.heap[r]? = w.heap[r]?) (ht : w'.heap[t]? = w.heap[t]?) : RLog r t x cap rest g w' := ⟨hr.trans h.blk, ht.trans h.row⟩
theorem RLog.below (h : RLog r t x cap rest g w) (hb : Below w.heap.size w w') : RLog r t x cap rest g w' := h.step (hb.block _ (blt h.blk)) (hb.block _ (blt h.row))
theorem RLog.c0 (h : RLog r t x cap rest g w) : w.cell? ⟨r, 0, none⟩ = some (.pointer (some ⟨x, 0, none⟩)) := bcell h.blk 0
theorem RLog.c1 (h : RLog r t x cap rest g w) : w.cell? ⟨r, 1, none⟩ = some (.slice (some ⟨t, 0, none⟩) g.st.length cap) := bcell h.blk 1
theorem RLog.c2 (h : RLog r t x cap rest g w) : w.cell? ⟨r, 2, none⟩ = some (.int .i64 g.op) := bcell h.blk 2
theorem RLog.c3 (h : RLog r t x cap rest g w) : w.cell? ⟨r, 3, none⟩ = some (.int .i64 g.pg) := bcell h.blk 3
theorem RLog.c4 (h : RLog r t x cap rest g w) : w.cell? ⟨r, 4, none⟩ = some (.int .u64 g.nx) := bcell h.blk 4
theorem RLog.fr (h : RLog r t x cap rest g w) (j : Nat) : w.frozen? ⟨r, j, none⟩ = false := bfrozen h.blk _
theorem RLog.ft (h : RLog r t x cap rest g w) (j : Nat) : w.frozen? ⟨t, j, none⟩ = false := bfrozen h.row _
theorem RLog.cst (h : RLog r t x cap rest g w) {i : Nat} {y : Int} (hy : g.st[i]? = some y) : w.cell? ⟨t, i, none⟩ = some (.int .i64 y) := by
 have hl := (List.getElem?_eq_some_iff.1 hy).1
 rw [bcell h.row]
 simp only [List.getElem?_toArray]
 rw [List.getElem?_append_left (by simpa using hl), List.getElem?_map, hy]
 rfl
theorem RLog.setSt (h : RLog r t x cap rest g w) {i : Nat} (hi : i < g.st.length) (y : Int) : RLog r t x cap rest { g with st := g.st.set i y } (w.setCell ⟨t, i, none⟩ (.int .i64 y)) := by
 refine ⟨(Below.heap_setCell _ ⟨t, i, none⟩ _ r h.ne).trans (h.blk.trans ?_), (setCell_blk h.row _ _).trans ?_⟩
 ·simp [rlogC]
 ·congr 2
  simp only [List.setIfInBounds_toArray]
  congr 1
  rw [List.set_append_left _ _ (by simpa using hi), ← List.map_set]
theorem RLog.setOp (h : RLog r t x cap rest g w) (y : Int) : RLog r t x cap rest { g with op := y } (w.setCell ⟨r, 2, none⟩ (.int .i64 y)) :=
 ⟨(setCell_blk h.blk _ _).trans rfl, (Below.heap_setCell _ ⟨r, 2, none⟩ _ t (fun e => h.ne e.symm)).trans h.row⟩
theorem RLog.setPg (h : RLog r t x cap rest g w) (y : Int) : RLog r t x cap rest { g with pg := y } (w.setCell ⟨r, 3, none⟩ (.int .i64 y)) :=
 ⟨(setCell_blk h.blk _ _).trans rfl, (Below.heap_setCell _ ⟨r, 3, none⟩ _ t (fun e => h.ne e.symm)).trans h.row⟩
theorem RLog.setNx (h : RLog r t x cap rest g w) (y : Int) : RLog r t x cap rest { g with nx := y } (w.setCell ⟨r, 4, none⟩ (.int .u64 y)) :=
 ⟨(setCell_blk h.blk _ _).trans rfl, (Below.heap_setCell _ ⟨r, 4, none⟩ _ t (fun e => h.ne e.symm)).trans h.row⟩
def rsealG (g : LG) : LG := { st := if g.op < 0 then g.st else g.st.set g.op.toNat 2, op := -1, pg := 0, nx := g.nx }
set_option maxHeartbeats 1000000 in
set_option maxRecDepth 100000 in
theorem RSeal_any (h : RLog r t x cap rest g w) (ho : g.op < g.st.length) : Calls Tryz.prog 56 #[.pointer (some ⟨r, 0, none⟩)] w fun e w' => e = .returned (.tuple #[]) ∧ RLog r t x cap rest (rsealG g) w' ∧ ∃ w1 g1, RLog r t x cap rest g1 w1 ∧ Upd (fun k => k = t) w w1 ∧ Upd (fun k => k = r) w1 w' := by
 have k1 := h.c1
 have k2 := h.c2
 have k3 := h.c3
 have f2 := h.fr 2
 have f3 := h.fr 3
 by_cases h0 : g.op < 0
 ·have e_o : decide (g.op ≥ 0) = false := decide_eq_false (by omega)
  have hs : rsealG g = { st := g.st, op := -1, pg := 0, nx := g.nx } := by unfold rsealG; rw [if_pos h0]
  rw [hs]
  have HL := Aside0.mk h
  clear h hs
  go_enter Tryz.func56, Tryz.ntmps56
  go_wp2_with fail
  go_end0
  exact ⟨rfl, (HL.out.setOp (-1)).setPg 0, w, g, HL.out, Upd.ofBelow (Below.refl _ _) _, (Upd.setCell w (p := ⟨r, 2, none⟩) (S := fun k => k = r) rfl _).trans (Upd.setCell _ (p := ⟨r, 3, none⟩) (S := fun k => k = r) rfl _) (fun k hk _ => hk)⟩
 ·obtain ⟨n, hn⟩ := Int.eq_ofNat_of_zero_le (show 0 ≤ g.op by omega)
  have hs : rsealG g = { st := g.st.set n 2, op := -1, pg := 0, nx := g.nx } := by unfold rsealG; rw [if_neg h0, hn, Int.toNat_natCast]
  rw [hs]
  obtain ⟨m, hm⟩ : ∃ m, m = g.st.length := ⟨_, rfl⟩
  obtain ⟨y, hy⟩ : ∃ y, g.st[n]? = some y := ⟨_, List.getElem?_eq_getElem (by omega)⟩
  have c5 := h.cst hy
  have f5 := h.ft n
  have hni : n < g.st.length := by omega
  have n1 := h.ne
  have n2 : ¬ t = r := fun e => n1 e.symm
  rw [hn] at k2
  rw [← hm] at k1
  have q1 : (n : Int) < (m : Int) := by omega
  have q0 : (0 : Int) ≤ (n : Int) := by omega
  have e_o : decide ((n : Int) ≥ 0) = true := decide_eq_true (by omega)
  have HL := Aside0.mk h
  have HN := Lib.hid hni
  clear h hs hy hm hni hn h0 ho
  go_enter Tryz.func56, Tryz.ntmps56
  go_wp2_with fail
  go_region_held3 (fun w' => w'.cell? ⟨r, 1, none⟩ = some (.slice (some ⟨t, 0, none⟩) m cap) ∧ w'.cell? ⟨r, 2, none⟩ = some (.int .i64 (n : Int))) (go_keep) (fail)
  go_wp2_with fail
  go_end0
  have hu := (Upd.setCell (w.setCell ⟨t, n, none⟩ (.int .i64 2)) (p := ⟨r, 2, none⟩) (S := fun k => k = r) rfl (.int .i64 (-1))).trans (Upd.setCell _ (p := ⟨r, 3, none⟩) (S := fun k => k = r) rfl (.int .i64 0)) (fun k hk _ => hk)
  have hz := ((HL.out.setSt HN.out 2).setOp (-1)).setPg 0
  exact ⟨rfl, ⟨hz.blk, hz.row⟩, _, _, HL.out.setSt HN.out 2, Upd.setCell w (p := ⟨t, n, none⟩) (S := fun k => k = t) rfl (.int .i64 2), ⟨hu.os, hu.tape, hu.output, hu.size, hu.block⟩⟩
set_option maxHeartbeats 1000000 in
set_option maxRecDepth 100000 in
theorem RCount_any (h : RLog r t x cap rest g w) (hlen : g.st.length < 1000) (a : Int) : Calls Tryz.prog 38 #[.pointer (some ⟨r, 0, none⟩), .int .i64 a] w fun e w' => e = .returned (.int .i64 (cnt a g.st : Int)) ∧ Below w.heap.size w w' := by
 obtain ⟨n, hn⟩ : ∃ n, n = g.st.length := ⟨_, rfl⟩
 have k1 := h.c1
 have hc := fun (X : World) (hb : Below w.heap.size w X) (i : Nat) (x : Int) (hx : g.st[i]? = some x) => (h.below hb).cst hx
 have htk : g.st.take n = g.st := List.take_of_length_le (by omega)
 have HC := Lib.hid hc
 have HTK := Lib.hid htk
 have HN := Lib.hid hn
 have hm : n < 1000 := by omega
 rw [← hn] at k1
 clear hc h hn hlen htk
 go_enter Tryz.func38, Tryz.ntmps38
 go_wp2
 go_loopw [5, 13] (fun v5 v13 wr => ∃ k : Nat, k ≤ n ∧ v13 = .int .i64 (k : Int) ∧ v5 = .int .i64 (cnt a (g.st.take k) : Int) ∧ Below w.heap.size w wr) (fun _ v13 _ => n - (intOf v13).toNat)
 case atStart => exact ⟨0, Nat.zero_le _, rfl, rfl, Below.refl _ _⟩
 case round =>
  obtain ⟨k, hk, rfl, rfl, hb⟩ := hrel
  have HB := Aside0.mk hb
  clear hb
  have hcl := cnt_le a (g.st.take k)
  rw [List.length_take] at hcl
  by_cases hlt : k < n
  ·obtain ⟨x, hx⟩ : ∃ x, g.st[k]? = some x := ⟨_, List.getElem?_eq_getElem (by have := HN.out; omega)⟩
   have hct := cnt_take (a := a) hx
   have c5 := HC.out _ HB.out k x hx
   have HCT := Lib.hid hct
   have k0 : (0 : Int) ≤ (k : Int) := by omega
   have k1 : (k : Int) < (n : Int) := by omega
   obtain ⟨cv, hcv⟩ : ∃ cv, cv = cnt a (g.st.take k) := ⟨_, rfl⟩
   rw [← hcv] at hcl ⊢
   have HCV := Lib.hid hcv
   clear hx hct hcv
   by_cases hxa : x = a
   ·have e1 : (x == a) = true := by simpa using hxa
    have hxa2 := Lib.hid hxa
    clear hxa
    go_wp2
    exact ⟨⟨k + 1, by omega, by go_num, by rw [HCT.out, if_pos hxa2.out, ← HCV.out]; go_num, HB.out⟩, by simp [intOf]; omega⟩
   ·have e1 : (x == a) = false := by simpa using hxa
    have hxa2 := Lib.hid hxa
    clear hxa
    go_wp2
    exact ⟨⟨k + 1, by omega, by go_num, by rw [HCT.out, if_neg hxa2.out, ← HCV.out]; rfl, HB.out⟩, by simp [intOf]; omega⟩
  ·obtain rfl : k = n := by omega
   go_wp2
   go_ret
   exact ⟨by rw [HTK.out]; rfl, HB.out⟩
end
end Go.Proofs.YtmbiebdcnadhkaaGreat.Fl
namespace Go.Proofs.YtmbiebdcnadhkaaGreat.Fl
open Go.RowKit Go.Proofs.YtmbiebdcnadhkaaGreatW.PrintWords Go.Proofs.YtmbiebdcnadhkaaGreatW.PrintMore Go.Maps
def rEraseE (g : LG) (a : Int) : Int := if a < 0 ∨ (g.st.length : Int) ≤ a then 6 else if g.st.getD a.toNat 0 = 1 then 1 else 0
def rEraseG (g : LG) (a : Int) : LG := if rEraseE g a = 0 then { g with st := g.st.set a.toNat 0 } else g
def rEraseP (ps : List Pg) (g : LG) (a : Int) : List Pg := if rEraseE g a = 0 then eraseP a ps else ps
section
variable {N0 x r t cap : Nat} {rest : List Value} {s : Int × Int × Int} {G : (Nat → Prop) → List Pg → World → Prop} {K : Nat → Prop} {ps : List Pg} {g : LG} {w : World}
set_option maxHeartbeats 1000000 in
set_option maxRecDepth 100000 in
theorem RLErase_G (hG : RefFrame N0 x s G) (hSt : ∀ ps, Stays (fun K w => G K ps w)) (h : G K ps w) (hl : RLog r t x cap rest g w) (hr : K r) (ht : K t) (hN : N0 ≤ t) (hlen : g.st.length < 1000) (hpl : ps.length < 1000000) (a : Int) : Calls Tryz.prog 55 #[.pointer (some ⟨r, 0, none⟩), .int .i64 a] w fun e w' => e = .returned (.int .i64 (rEraseE g a)) ∧ G K (rEraseP ps g a) w' ∧ RLog r t x cap rest (rEraseG g a) w' ∧ Below N0 w w' ∧ Kept (fun k => K k ∧ k ≠ r ∧ k ≠ t) w w' := by
 have k0 := hl.c0
 have k1 := hl.c1
 have hsz := hG.size h
 obtain ⟨m, hm⟩ : ∃ m, m = g.st.length := ⟨_, rfl⟩
 have HL := Aside0.mk hl
 have HFR := Aside0.mk h
 have HM := Lib.hid hm
 by_cases hout : a < 0 ∨ (g.st.length : Int) ≤ a
 ·have he : rEraseE g a = 6 := by unfold rEraseE; rw [if_pos hout]
  have h1 : rEraseP ps g a = ps := by unfold rEraseP; rw [he]; rfl
  have h2 : rEraseG g a = g := by unfold rEraseG; rw [he]; rfl
  rw [he, h1, h2]
  rw [← hm] at hout k1 hlen
  by_cases h0 : a < 0
  ·have e_o : decide (a < 0) = true := decide_eq_true h0
   clear h hl hm he h1 h2 hout
   go_enter Tryz.func55, Tryz.ntmps55
   go_wp2_with fail
   go_ret
   exact ⟨rfl, HFR.out, HL.out, Below.refl _ _, fun k _ => rfl⟩
  ·have e_o : decide (a < 0) = false := decide_eq_false h0
   have e_1 : decide (a ≥ (m : Int)) = true := decide_eq_true (by omega)
   clear h hl hm he h1 h2 hout
   go_enter Tryz.func55, Tryz.ntmps55
   go_wp2_with fail
   go_ret
   exact ⟨rfl, HFR.out, HL.out, Below.refl _ _, fun k _ => rfl⟩
 ·have ha0 : ¬ a < 0 := fun h => hout (.inl h)
  have ha1 : ¬ (m : Int) ≤ a := fun h => hout (.inr (by rw [← hm]; exact h))
  obtain ⟨n, rfl⟩ := Int.eq_ofNat_of_zero_le (show 0 ≤ a by omega)
  obtain ⟨y, hy⟩ : ∃ y, g.st[n]? = some y := ⟨_, List.getElem?_eq_getElem (by omega)⟩
  have hyv : g.st.getD (n : Int).toNat 0 = y := by rw [Int.toNat_natCast, List.getD_eq_getElem?_getD, hy]; rfl
  have hev : rEraseE g (n : Int) = if y = 1 then 1 else 0 := by unfold rEraseE; rw [if_neg hout, hyv]
  have c5 := hl.cst hy
  have e_o : decide ((n : Int) < 0) = false := decide_eq_false (by omega)
  have e_1 : decide ((n : Int) ≥ (m : Int)) = false := decide_eq_false (by omega)
  have q0 : (0 : Int) ≤ (n : Int) := by omega
  have q1 : (n : Int) < (m : Int) := by omega
  have hni : n < g.st.length := by omega
  have HNI := Lib.hid hni
  rw [← hm] at k1 hlen
  by_cases hy1 : y = 1
  ·have he : rEraseE g (n : Int) = 1 := by rw [hev, if_pos hy1]
   have h1 : rEraseP ps g (n : Int) = ps := by unfold rEraseP; rw [he]; rfl
   have h2 : rEraseG g (n : Int) = g := by unfold rEraseG; rw [he]; rfl
   have e1 : (y == 1) = true := by simpa using hy1
   rw [he, h1, h2]
   clear h hl hm he h1 h2 hout hev hy hyv hy1 ha0 ha1 hni
   go_enter Tryz.func55, Tryz.ntmps55
   go_wp2_with fail
   go_ret
   exact ⟨rfl, HFR.out, HL.out, Below.refl _ _, fun k _ => rfl⟩
  ·have he : rEraseE g (n : Int) = 0 := by rw [hev, if_neg hy1]
   have h1 : rEraseP ps g (n : Int) = eraseP (n : Int) ps := by unfold rEraseP; rw [he]; rfl
   have h2 : rEraseG g (n : Int) = { g with st := g.st.set n 0 } := by unfold rEraseG; rw [he]; rfl
   have e1 : (y == 1) = false := by simpa using hy1
   rw [he, h1, h2]
   have her := hG.upd h (fun ok hX => RErase_any hX hpl (n : Int))
   have HER := Lib.hid her
   have HY := Lib.hid hy
   clear h hl hm he h1 h2 hout hev hy hyv hy1 ha0 ha1 hni her
   go_enter Tryz.func55, Tryz.ntmps55
   go_wp2_with (go_at_call 97; (with_reducible refine HER.out.mono ?_); rintro e w3 ⟨rfl, hf3, hb, hk⟩; have hl3 : RLog r t x cap rest g w3 := HL.out.step (hk r hr) (hk t ht); have z1 := hl3.c1; (rw [← HM.out] at z1); have z5 := hl3.cst HY.out; have z3 := hl3.ft n; have HL3 := Aside0.mk hl3; have HF3 := Aside0.mk hf3; have HB3 := Aside0.mk hb; have HK3 := Lib.hid hk; clear hl3 hf3 hb hk k0 k1 c5)
   go_ret
   have hz := HL3.out.setSt HNI.out 0
   have hu := Upd.setCell w3 (p := ⟨t, n, none⟩) (S := fun k => k = t) rfl (.int .i64 0)
   exact ⟨rfl, hSt _ K _ _ t _ _ _ HF3.out ht HL3.out.row hz.row (by decide) hu, hz, HB3.out.trans (hu.below (hG.size HF3.out) (fun k hk => by rw [hk]; exact hN)), fun k hk => (hu.block k (hG.lt HF3.out k hk.1) hk.2.2).trans (HK3.out k hk.1)⟩
end
end Go.Proofs.YtmbiebdcnadhkaaGreat.Fl
namespace Go.Proofs.YtmbiebdcnadhkaaGreat.Fl
open Go.RowKit Go.Proofs.YtmbiebdcnadhkaaGreatW.PrintWords Go.Proofs.YtmbiebdcnadhkaaGreatW.PrintMore Go.Maps
def RPutPost (N0 r t x cap : Nat) (rest : List Value) (G : (Nat → Prop) → List Pg → World → Prop) (K : Nat → Prop) (w : World) (at_ : Adr) (er : Int) (ps : List Pg) (g : LG) (e : Ending) (w' : World) : Prop :=
 e = .returned (.tuple #[.agg #[.int .i64 at_.1, .int .i64 at_.2], .int .i64 er]) ∧ G K ps w' ∧ RLog r t x cap rest g w' ∧ Below N0 w w' ∧ Kept (fun k => K k ∧ k ≠ r ∧ k ≠ t) w w'
section
variable {N0 x r t cap : Nat} {rest : List Value} {s : Int × Int × Int} {G : (Nat → Prop) → List Pg → World → Prop} {K : Nat → Prop} {ps : List Pg} {g : LG} {w : World} {A : Option Addr} {c : Nat} {l : List Int} {kind need : Int}
theorem rput_end {K2 : Nat → Prop} {X w9 : World} {b : Nat} {a0 a1 v0 v1 : Value} {ps2 : List Pg} {g2 : LG} (hG : RefFrame N0 x s G) (hSt : ∀ ps, Stays (fun K w => G K ps w)) (hf : G K2 ps2 X) (hl : RLog r t x cap rest g2 X) (hr : K r) (ht : K t) (hlt : ∀ k, K k → k < w.heap.size) (hN : N0 ≤ w.heap.size) (hwb : w.heap.size ≤ b) (hb : X.heap[b]? = some (.cells #[a0, a1] TA (0, 0))) (hKb : K2 b) (hKK : ∀ k, K k → K2 k) (hbl : Below N0 w X) (hkp : Kept (fun k => K k ∧ k ≠ r ∧ k ≠ t) w X) (he : w9 = (X.setCell ⟨b, 0, none⟩ v0).setCell ⟨b, 1, none⟩ v1) :
  w9.heap[b]? = some (.cells #[v0, v1] TA (0, 0)) ∧ G K ps2 w9 ∧ RLog r t x cap rest g2 w9 ∧ Below N0 w w9 ∧ Kept (fun k => K k ∧ k ≠ r ∧ k ≠ t) w w9 := by
 subst he
 have hne : r ≠ b := by have := hlt r hr; omega
 have hnt : t ≠ b := by have := hlt t ht; omega
 have hu : Upd (fun k => k = b) X ((X.setCell ⟨b, 0, none⟩ v0).setCell ⟨b, 1, none⟩ v1) := (Upd.setCell X (p := ⟨b, 0, none⟩) (S := fun k => k = b) rfl _).trans (Upd.setCell _ (p := ⟨b, 1, none⟩) (S := fun k => k = b) rfl _) (fun k hk _ => hk)
 have hb9 : ((X.setCell ⟨b, 0, none⟩ v0).setCell ⟨b, 1, none⟩ v1).heap[b]? = some (.cells #[v0, v1] TA (0, 0)) := setCell_blk (setCell_blk hb 0 v0) 1 v1
 exact ⟨hb9, hG.less (hSt ps2 K2 X _ b _ _ _ hf hKb hb hb9 (by decide) hu) hKK, hl.step (hu.block r (blt hl.blk) hne) (hu.block t (blt hl.row) hnt), hbl.trans (hu.below (by have := hbl.size; omega) (fun k hk => by rw [hk]; omega)), fun k hk => (hu.block k (hG.lt hf k (hKK k hk.1)) (fun e => by have := hlt k hk.1; omega)).trans (hkp k hk)⟩
set_option maxHeartbeats 4000000 in
set_option maxRecDepth 100000 in
theorem RPut_head (hG : RefFrame N0 x s G) (hSt : ∀ ps, Stays (fun K w => G K ps w)) (h : G K ps w) (hl : RLog r t x cap rest g w) (hr : K r) (ht : K t) (hNr : N0 ≤ r) (hNt : N0 ≤ t) (hsh : ShapeOk s) (hc : l.length ≤ c) (hm : l.length ≤ 4096) : Calls Tryz.prog 54 #[.pointer (some ⟨r, 0, none⟩), .int .u8 1, .slice A l.length c, .int .i64 need] w (RPutPost N0 r t x cap rest G K w (0, 0) 1 ps g) := by
 obtain ⟨n, hn⟩ : ∃ n, n = l.length := ⟨_, rfl⟩
 have hsz := hG.size h
 have hlt := fun k hk => hG.lt h k hk
 obtain ⟨okx, hX⟩ := hG.ref h
 obtain ⟨vx, hxb, _⟩ := hX.blk
 obtain ⟨W0, hW0⟩ : ∃ W0, W0 = w.alloc (.cells #[.int .i64 0, .int .i64 0] TA) := ⟨_, rfl⟩
 have wb0 : Below w.heap.size w W0 := by rw [hW0]; exact below_alloc (Below.refl _ _) _
 have wz0 : W0.heap.size = w.heap.size + 1 := by rw [hW0]; exact size_alloc _ _
 have hxb0 := (wb0.block _ (blt hxb)).trans hxb
 have u0 : W0.cell? ⟨x, 0, none⟩ = some (.int .i64 s.1) := bcell hxb0 0
 have u1 : W0.cell? ⟨x, 1, none⟩ = some (.int .i64 s.2.1) := bcell hxb0 1
 have u2 : W0.cell? ⟨x, 2, none⟩ = some (.int .i64 s.2.2) := bcell hxb0 2
 have k0 := (hl.below wb0).c0
 obtain ⟨W, hW⟩ : ∃ W, W = W0.alloc (.cells #[.int .i64 s.1, .int .i64 s.2.1, .int .i64 s.2.2] TSh) := ⟨_, rfl⟩
 obtain ⟨q8, q10⟩ := pair_blk w (.cells #[.int .i64 0, .int .i64 0] TA) (.cells #[.int .i64 s.1, .int .i64 s.2.1, .int .i64 s.2.2] TSh)
 rw [← hW0, ← hW] at q8 q10
 have y2 : W.cell? ⟨w.heap.size + 1, 2, none⟩ = some (.int .i64 s.2.2) := bcell q10 2
 have wb : Below w.heap.size w W := by rw [hW]; exact below_alloc wb0 _
 have wsz : W.heap.size = w.heap.size + 2 := by rw [hW, size_alloc, wz0]
 have hf1 := hG.keep h wb
 have hl1 := hl.below wb
 rw [← hn] at hc hm
 obtain ⟨kk, hkp⟩ : ∃ kk, kk = kpg s n := ⟨_, rfl⟩
 have hkb : kk ≤ 257 := by rw [hkp]; exact (kpg_bd hsh hm).2
 have hpg : ∀ X : World, Calls Tryz.prog 95 #[.int .i64 (n : Int), .int .i64 s.2.2] X fun e w' => e = .returned (.int .i64 (kk : Int)) ∧ Below X.heap.size X w' := fun X => by
  rw [hkp]
  exact RPages_ok n s hsh hm X
 have s10 := hsh.b0
 have s11 := hsh.b1
 have HPG := Lib.hid hpg
 have HG1 := Aside0.mk hf1
 have HL1 := Aside0.mk hl1
 have HW := Lib.hid hW
 have HW0 := Lib.hid hW0
 have Q8 := Lib.hid q8
 have Q10 := Lib.hid q10
 have WB := Aside0.mk wb
 have HN := Lib.hid hn
 have HKP := Lib.hid hkp
 have HLT := Lib.hid hlt
 have e_n : decide ((n : Int) > 4096) = false := decide_eq_false (by omega)
 have kw1 : IntKind.i64.wrap ((kk : Int) + 1) = (kk : Int) + 1 := IntWalk.i64_in _ (by omega)
 rw [← hn]
 clear h hl hn hlt hf1 hl1 hX hxb hxb0 wb0 hW hW0 q8 q10 wb hkp hpg
 go_enter Tryz.func54, Tryz.ntmps54
 go_wp2_with (first
  | (rw [← HW0.out])
  | (rw [← HW.out])
  | (go_at_call 95; (with_reducible refine (HPG.out _).mono ?_); rintro e w4 ⟨rfl, hb4⟩; have HB4 := Aside0.mk hb4; have x8 := (hb4.block _ (blt Q8.out)).trans Q8.out; have x10 := (hb4.block _ (blt Q10.out)).trans Q10.out; have hl4 := HL1.out.below hb4; have k04 := hl4.c0; have k14 := hl4.c1; have k24 := hl4.c2; have k34 := hl4.c3; have m0 : w4.cell? ⟨w.heap.size, 0, none⟩ = some (.int .i64 0) := bcell x8 0; have m1 : w4.cell? ⟨w.heap.size, 1, none⟩ = some (.int .i64 0) := bcell x8 1; have mf : ∀ j, w4.frozen? ⟨w.heap.size, j, none⟩ = false := (fun j => bfrozen x8 j); have y1 : w4.cell? ⟨w.heap.size + 1, 1, none⟩ = some (.int .i64 s.2.1) := bcell x10 1; have X84 := Lib.hid x8; have X104 := Lib.hid x10; have HL4 := Aside0.mk hl4; have HG4 := Aside0.mk (hG.below HG1.out hb4); clear hb4 x8 x10 hl4)
  | fail)
 obtain ⟨w9, hw9⟩ : ∃ w9, w9 = (w4.setCell ⟨w.heap.size, 0, none⟩ (.int .i64 0)).setCell ⟨w.heap.size, 1, none⟩ (.int .i64 0) := ⟨_, rfl⟩
 rw [← hw9]
 obtain ⟨r8, hf9, hl9, hb9, hk9⟩ := rput_end hG hSt HG4.out HL4.out hr ht HLT.out hsz (Nat.le_refl _) X84.out (.inr ⟨Nat.le_refl _, by omega⟩) (fun k hk => .inl hk) ((WB.out.trans ((HB4.out).mono (by omega))).mono hsz) (fun k hk => (((HB4.out).mono (by omega)).block k (HLT.out k hk.1)).trans (WB.out.block k (HLT.out k hk.1))) hw9
 have r0 := bcell r8 0
 have r1 := bcell r8 1
 exact bodyPost_ret (v := .tuple #[.agg #[.int .i64 0, .int .i64 0], .int .i64 1]) (by simp [results, Tryz.results54, go_sem, r0, r1]) rfl ⟨rfl, hf9, hl9, hb9, hk9⟩
set_option maxHeartbeats 4000000 in
set_option maxRecDepth 100000 in
theorem RPut_big (hG : RefFrame N0 x s G) (hSt : ∀ ps, Stays (fun K w => G K ps w)) (h : G K ps w) (hl : RLog r t x cap rest g w) (hr : K r) (ht : K t) (hNr : N0 ≤ r) (hNt : N0 ≤ t) (hsh : ShapeOk s) (hc : l.length ≤ c) (hm : l.length ≤ 4096) (hk : kind ≠ 1) (hb1 : s.2.1 < (kpg s l.length : Int) + 1) : Calls Tryz.prog 54 #[.pointer (some ⟨r, 0, none⟩), .int .u8 kind, .slice A l.length c, .int .i64 need] w (RPutPost N0 r t x cap rest G K w (0, 0) 10 ps g) := by
 obtain ⟨n, hn⟩ : ∃ n, n = l.length := ⟨_, rfl⟩
 have hsz := hG.size h
 have hlt := fun k hk => hG.lt h k hk
 obtain ⟨okx, hX⟩ := hG.ref h
 obtain ⟨vx, hxb, _⟩ := hX.blk
 obtain ⟨W0, hW0⟩ : ∃ W0, W0 = w.alloc (.cells #[.int .i64 0, .int .i64 0] TA) := ⟨_, rfl⟩
 have wb0 : Below w.heap.size w W0 := by rw [hW0]; exact below_alloc (Below.refl _ _) _
 have wz0 : W0.heap.size = w.heap.size + 1 := by rw [hW0]; exact size_alloc _ _
 have hxb0 := (wb0.block _ (blt hxb)).trans hxb
 have u0 : W0.cell? ⟨x, 0, none⟩ = some (.int .i64 s.1) := bcell hxb0 0
 have u1 : W0.cell? ⟨x, 1, none⟩ = some (.int .i64 s.2.1) := bcell hxb0 1
 have u2 : W0.cell? ⟨x, 2, none⟩ = some (.int .i64 s.2.2) := bcell hxb0 2
 have k0 := (hl.below wb0).c0
 obtain ⟨W, hW⟩ : ∃ W, W = W0.alloc (.cells #[.int .i64 s.1, .int .i64 s.2.1, .int .i64 s.2.2] TSh) := ⟨_, rfl⟩
 obtain ⟨q8, q10⟩ := pair_blk w (.cells #[.int .i64 0, .int .i64 0] TA) (.cells #[.int .i64 s.1, .int .i64 s.2.1, .int .i64 s.2.2] TSh)
 rw [← hW0, ← hW] at q8 q10
 have y2 : W.cell? ⟨w.heap.size + 1, 2, none⟩ = some (.int .i64 s.2.2) := bcell q10 2
 have wb : Below w.heap.size w W := by rw [hW]; exact below_alloc wb0 _
 have wsz : W.heap.size = w.heap.size + 2 := by rw [hW, size_alloc, wz0]
 have hf1 := hG.keep h wb
 have hl1 := hl.below wb
 rw [← hn] at hc hm
 obtain ⟨kk, hkp⟩ : ∃ kk, kk = kpg s n := ⟨_, rfl⟩
 have hkb : kk ≤ 257 := by rw [hkp]; exact (kpg_bd hsh hm).2
 have hpg : ∀ X : World, Calls Tryz.prog 95 #[.int .i64 (n : Int), .int .i64 s.2.2] X fun e w' => e = .returned (.int .i64 (kk : Int)) ∧ Below X.heap.size X w' := fun X => by
  rw [hkp]
  exact RPages_ok n s hsh hm X
 have s10 := hsh.b0
 have s11 := hsh.b1
 have HPG := Lib.hid hpg
 have HG1 := Aside0.mk hf1
 have HL1 := Aside0.mk hl1
 have HW := Lib.hid hW
 have HW0 := Lib.hid hW0
 have Q8 := Lib.hid q8
 have Q10 := Lib.hid q10
 have WB := Aside0.mk wb
 have HN := Lib.hid hn
 have HKP := Lib.hid hkp
 have HLT := Lib.hid hlt
 have e_n : decide ((n : Int) > 4096) = false := decide_eq_false (by omega)
 have kw1 : IntKind.i64.wrap ((kk : Int) + 1) = (kk : Int) + 1 := IntWalk.i64_in _ (by omega)
 rw [← hn]
 clear h hl hn hlt hf1 hl1 hX hxb hxb0 wb0 hW hW0 q8 q10 wb hkp hpg
 rw [← HN.out, ← HKP.out] at hb1
 have e_b : decide ((kk : Int) + 1 > s.2.1) = true := decide_eq_true hb1
 have e_k : (kind == 1) = false := by simpa using hk
 clear hk
 go_enter Tryz.func54, Tryz.ntmps54
 go_wp2_with (first
  | (rw [← HW0.out])
  | (rw [← HW.out])
  | (go_at_call 95; (with_reducible refine (HPG.out _).mono ?_); rintro e w4 ⟨rfl, hb4⟩; have HB4 := Aside0.mk hb4; have x8 := (hb4.block _ (blt Q8.out)).trans Q8.out; have x10 := (hb4.block _ (blt Q10.out)).trans Q10.out; have hl4 := HL1.out.below hb4; have k04 := hl4.c0; have k14 := hl4.c1; have k24 := hl4.c2; have k34 := hl4.c3; have m0 : w4.cell? ⟨w.heap.size, 0, none⟩ = some (.int .i64 0) := bcell x8 0; have m1 : w4.cell? ⟨w.heap.size, 1, none⟩ = some (.int .i64 0) := bcell x8 1; have mf : ∀ j, w4.frozen? ⟨w.heap.size, j, none⟩ = false := (fun j => bfrozen x8 j); have y1 : w4.cell? ⟨w.heap.size + 1, 1, none⟩ = some (.int .i64 s.2.1) := bcell x10 1; have X84 := Lib.hid x8; have X104 := Lib.hid x10; have HL4 := Aside0.mk hl4; have HG4 := Aside0.mk (hG.below HG1.out hb4); clear hb4 x8 x10 hl4)
  | fail)
 obtain ⟨w9, hw9⟩ : ∃ w9, w9 = (w4.setCell ⟨w.heap.size, 0, none⟩ (.int .i64 0)).setCell ⟨w.heap.size, 1, none⟩ (.int .i64 0) := ⟨_, rfl⟩
 rw [← hw9]
 obtain ⟨r8, hf9, hl9, hb9, hk9⟩ := rput_end hG hSt HG4.out HL4.out hr ht HLT.out hsz (Nat.le_refl _) X84.out (.inr ⟨Nat.le_refl _, by omega⟩) (fun k hk => .inl hk) ((WB.out.trans ((HB4.out).mono (by omega))).mono hsz) (fun k hk => (((HB4.out).mono (by omega)).block k (HLT.out k hk.1)).trans (WB.out.block k (HLT.out k hk.1))) hw9
 have r0 := bcell r8 0
 have r1 := bcell r8 1
 exact bodyPost_ret (v := .tuple #[.agg #[.int .i64 0, .int .i64 0], .int .i64 10]) (by simp [results, Tryz.results54, go_sem, r0, r1]) rfl ⟨rfl, hf9, hl9, hb9, hk9⟩
set_option maxHeartbeats 4000000 in
set_option maxRecDepth 100000 in
theorem RPut_full0 (hG : RefFrame N0 x s G) (hSt : ∀ ps, Stays (fun K w => G K ps w)) (h : G K ps w) (hl : RLog r t x cap rest g w) (hr : K r) (ht : K t) (hNr : N0 ≤ r) (hNt : N0 ≤ t) (hsh : ShapeOk s) (hc : l.length ≤ c) (hm : l.length ≤ 4096) (hk : kind ≠ 1) (hb1 : (kpg s l.length : Int) + 1 ≤ s.2.1) (ho : g.op < 0) (hsl : g.st.length < 1000) (hcn : (cnt 0 g.st : Int) < need) : Calls Tryz.prog 54 #[.pointer (some ⟨r, 0, none⟩), .int .u8 kind, .slice A l.length c, .int .i64 need] w (RPutPost N0 r t x cap rest G K w (0, 0) 5 ps g) := by
 obtain ⟨n, hn⟩ : ∃ n, n = l.length := ⟨_, rfl⟩
 have hsz := hG.size h
 have hlt := fun k hk => hG.lt h k hk
 obtain ⟨okx, hX⟩ := hG.ref h
 obtain ⟨vx, hxb, _⟩ := hX.blk
 obtain ⟨W0, hW0⟩ : ∃ W0, W0 = w.alloc (.cells #[.int .i64 0, .int .i64 0] TA) := ⟨_, rfl⟩
 have wb0 : Below w.heap.size w W0 := by rw [hW0]; exact below_alloc (Below.refl _ _) _
 have wz0 : W0.heap.size = w.heap.size + 1 := by rw [hW0]; exact size_alloc _ _
 have hxb0 := (wb0.block _ (blt hxb)).trans hxb
 have u0 : W0.cell? ⟨x, 0, none⟩ = some (.int .i64 s.1) := bcell hxb0 0
 have u1 : W0.cell? ⟨x, 1, none⟩ = some (.int .i64 s.2.1) := bcell hxb0 1
 have u2 : W0.cell? ⟨x, 2, none⟩ = some (.int .i64 s.2.2) := bcell hxb0 2
 have k0 := (hl.below wb0).c0
 obtain ⟨W, hW⟩ : ∃ W, W = W0.alloc (.cells #[.int .i64 s.1, .int .i64 s.2.1, .int .i64 s.2.2] TSh) := ⟨_, rfl⟩
 obtain ⟨q8, q10⟩ := pair_blk w (.cells #[.int .i64 0, .int .i64 0] TA) (.cells #[.int .i64 s.1, .int .i64 s.2.1, .int .i64 s.2.2] TSh)
 rw [← hW0, ← hW] at q8 q10
 have y2 : W.cell? ⟨w.heap.size + 1, 2, none⟩ = some (.int .i64 s.2.2) := bcell q10 2
 have wb : Below w.heap.size w W := by rw [hW]; exact below_alloc wb0 _
 have wsz : W.heap.size = w.heap.size + 2 := by rw [hW, size_alloc, wz0]
 have hf1 := hG.keep h wb
 have hl1 := hl.below wb
 rw [← hn] at hc hm
 obtain ⟨kk, hkp⟩ : ∃ kk, kk = kpg s n := ⟨_, rfl⟩
 have hkb : kk ≤ 257 := by rw [hkp]; exact (kpg_bd hsh hm).2
 have hpg : ∀ X : World, Calls Tryz.prog 95 #[.int .i64 (n : Int), .int .i64 s.2.2] X fun e w' => e = .returned (.int .i64 (kk : Int)) ∧ Below X.heap.size X w' := fun X => by
  rw [hkp]
  exact RPages_ok n s hsh hm X
 have s10 := hsh.b0
 have s11 := hsh.b1
 have HPG := Lib.hid hpg
 have HG1 := Aside0.mk hf1
 have HL1 := Aside0.mk hl1
 have HW := Lib.hid hW
 have HW0 := Lib.hid hW0
 have Q8 := Lib.hid q8
 have Q10 := Lib.hid q10
 have WB := Aside0.mk wb
 have HN := Lib.hid hn
 have HKP := Lib.hid hkp
 have HLT := Lib.hid hlt
 have e_n : decide ((n : Int) > 4096) = false := decide_eq_false (by omega)
 have kw1 : IntKind.i64.wrap ((kk : Int) + 1) = (kk : Int) + 1 := IntWalk.i64_in _ (by omega)
 rw [← hn]
 clear h hl hn hlt hf1 hl1 hX hxb hxb0 wb0 hW hW0 q8 q10 wb hkp hpg
 rw [← HN.out, ← HKP.out] at hb1
 have e_b : decide ((kk : Int) + 1 > s.2.1) = false := decide_eq_false (by omega)
 have e_k : (kind == 1) = false := by simpa using hk
 clear hk
 have e_o : decide (g.op < 0) = true := decide_eq_true ho
 obtain ⟨c0, hc0⟩ : ∃ c0, c0 = cnt 0 g.st := ⟨_, rfl⟩
 rw [← hc0] at hcn
 have HC0 := Lib.hid hc0
 have HSL := Lib.hid hsl
 clear hc0 hsl
 have e_c : decide ((c0 : Int) < need) = true := decide_eq_true hcn
 go_enter Tryz.func54, Tryz.ntmps54
 go_wp2_with (first
  | (rw [← HW0.out])
  | (rw [← HW.out])
  | (go_at_call 95; (with_reducible refine (HPG.out _).mono ?_); rintro e w4 ⟨rfl, hb4⟩; have HB4 := Aside0.mk hb4; have x8 := (hb4.block _ (blt Q8.out)).trans Q8.out; have x10 := (hb4.block _ (blt Q10.out)).trans Q10.out; have hl4 := HL1.out.below hb4; have k04 := hl4.c0; have k14 := hl4.c1; have k24 := hl4.c2; have k34 := hl4.c3; have m0 : w4.cell? ⟨w.heap.size, 0, none⟩ = some (.int .i64 0) := bcell x8 0; have m1 : w4.cell? ⟨w.heap.size, 1, none⟩ = some (.int .i64 0) := bcell x8 1; have mf : ∀ j, w4.frozen? ⟨w.heap.size, j, none⟩ = false := (fun j => bfrozen x8 j); have y1 : w4.cell? ⟨w.heap.size + 1, 1, none⟩ = some (.int .i64 s.2.1) := bcell x10 1; have X84 := Lib.hid x8; have X104 := Lib.hid x10; have HL4 := Aside0.mk hl4; have HG4 := Aside0.mk (hG.below HG1.out hb4); clear hb4 x8 x10 hl4)
  | fail)
 have e_u : decide ((n : Int) > 4096) = false := e_n
 refine wp_region_held_drew (S := (fun w' => w'.cell? ⟨r, 2, none⟩ = some (.int .i64 g.op) ∧ w'.cell? ⟨r, 3, none⟩ = some (.int .i64 g.pg) ∧ w'.cell? ⟨w.heap.size + 1, 1, none⟩ = some (.int .i64 s.2.1))) (by kernel_rfl) ?_ (fun hHeld => ?_)
 ·first | go_keep | exact ⟨k24, k34, y1⟩
 first | refine tkY 0 ?_ | refine tkN 0 ?_
 try simp only [Act.put, tk1, tk2, tk3]
 first | refine tkY 1 ?_ | refine tkN 1 ?_
 try simp only [Act.put, tk1, tk2, tk3]
 first | refine tkY 2 ?_ | refine tkN 2 ?_
 try simp only [Act.put, tk1, tk2, tk3]
 first | refine tkY 3 ?_ | refine tkN 3 ?_
 try simp only [Act.put, tk1, tk2, tk3]
 first | refine tkY 4 ?_ | refine tkN 4 ?_
 try simp only [Act.put, tk1, tk2, tk3]
 first | refine tkY 5 ?_ | refine tkN 5 ?_
 try simp only [Act.put, tk1, tk2, tk3]
 first | refine tkY 6 ?_ | refine tkN 6 ?_
 try simp only [Act.put, tk1, tk2, tk3]
 first | refine tkY 7 ?_ | refine tkN 7 ?_
 try simp only [Act.put, tk1, tk2, tk3]
 first | refine tkY 8 ?_ | refine tkN 8 ?_
 try simp only [Act.put, tk1, tk2, tk3]
 first | refine tkY 9 ?_ | refine tkN 9 ?_
 try simp only [Act.put, tk1, tk2, tk3]
 first | refine tkY 10 ?_ | refine tkN 10 ?_
 try simp only [Act.put, tk1, tk2, tk3]
 first | refine tkY 11 ?_ | refine tkN 11 ?_
 try simp only [Act.put, tk1, tk2, tk3]
 first | refine tkY 12 ?_ | refine tkN 12 ?_
 try simp only [Act.put, tk1, tk2, tk3]
 first | refine tkY 13 ?_ | refine tkN 13 ?_
 try simp only [Act.put, tk1, tk2, tk3]
 first | refine tkY 14 ?_ | refine tkN 14 ?_
 try simp only [Act.put, tk1, tk2, tk3]
 first | refine tkY 15 ?_ | refine tkN 15 ?_
 try simp only [Act.put, tk1, tk2, tk3]
 refine wpAnyH_done (by kernel_rfl) ?_ _
 obtain ⟨w5, hw5⟩ : ∃ w5, w5 = w4.drew := ⟨_, rfl⟩
 rw [← hw5]
 have b5 : Below w4.heap.size w4 w5 := by rw [hw5]; exact (Below.refl _ _).drew
 have HB5 := Aside0.mk (HB4.out.trans (b5.mono HB4.out.size))
 have hl5 := HL4.out.below b5
 have k05 := hl5.c0
 have k15 := hl5.c1
 have k25 := hl5.c2
 have k35 := hl5.c3
 have k45 := hl5.c4
 have x85 := (b5.block _ (blt X84.out)).trans X84.out
 have HG5 := Aside0.mk (hG.below HG4.out b5)
 have HL5 := Aside0.mk hl5
 have X85 := Lib.hid x85
 clear hw5 b5 hl5 x85
 go_wp2_with (first
  | (rw [← HW0.out])
  | (rw [← HW.out])
  | (go_at_call 38; (have hcc := RCount_any HL5.out HSL.out 0); (rw [← HC0.out] at hcc); (with_reducible refine hcc.mono ?_); clear hcc; rintro e w7 ⟨rfl, hb7⟩; have HB7 := Aside0.mk (HB5.out.trans (hb7.mono HB5.out.size)); have x8 := (hb7.block _ (blt X85.out)).trans X85.out; have X87 := Lib.hid x8; have n0 : w7.cell? ⟨w.heap.size, 0, none⟩ = some (.int .i64 0) := bcell x8 0; have n1 : w7.cell? ⟨w.heap.size, 1, none⟩ = some (.int .i64 0) := bcell x8 1; have nf : ∀ j, w7.frozen? ⟨w.heap.size, j, none⟩ = false := (fun j => bfrozen x8 j); have HL7 := Aside0.mk (HL5.out.below hb7); have HG7 := Aside0.mk (hG.below HG5.out hb7); clear hb7 x8)
  | fail)
 obtain ⟨w9, hw9⟩ : ∃ w9, w9 = (w7.setCell ⟨w.heap.size, 0, none⟩ (.int .i64 0)).setCell ⟨w.heap.size, 1, none⟩ (.int .i64 0) := ⟨_, rfl⟩
 rw [← hw9]
 obtain ⟨r8, hf9, hl9, hb9, hk9⟩ := rput_end hG hSt HG7.out HL7.out hr ht HLT.out hsz (Nat.le_refl _) X87.out (.inr ⟨Nat.le_refl _, by omega⟩) (fun k hk => .inl hk) ((WB.out.trans ((HB7.out).mono (by omega))).mono hsz) (fun k hk => (((HB7.out).mono (by omega)).block k (HLT.out k hk.1)).trans (WB.out.block k (HLT.out k hk.1))) hw9
 have r0 := bcell r8 0
 have r1 := bcell r8 1
 exact bodyPost_ret (v := .tuple #[.agg #[.int .i64 0, .int .i64 0], .int .i64 5]) (by simp [results, Tryz.results54, go_sem, r0, r1]) rfl ⟨rfl, hf9, hl9, hb9, hk9⟩
set_option maxHeartbeats 4000000 in
set_option maxRecDepth 100000 in
theorem RPut_fullN (hG : RefFrame N0 x s G) (hSt : ∀ ps, Stays (fun K w => G K ps w)) (h : G K ps w) (hl : RLog r t x cap rest g w) (hr : K r) (ht : K t) (hNr : N0 ≤ r) (hNt : N0 ≤ t) (hsh : ShapeOk s) (hc : l.length ≤ c) (hm : l.length ≤ 4096) (hk : kind ≠ 1) (hb1 : (kpg s l.length : Int) + 1 ≤ s.2.1) (ho : 0 ≤ g.op) (hp0 : 0 ≤ g.pg) (hp1 : g.pg ≤ 100000) (hb2 : s.2.1 < g.pg + (kpg s l.length : Int)) (hsl : g.st.length < 1000) (hcn : (cnt 0 g.st : Int) < need) : Calls Tryz.prog 54 #[.pointer (some ⟨r, 0, none⟩), .int .u8 kind, .slice A l.length c, .int .i64 need] w (RPutPost N0 r t x cap rest G K w (0, 0) 5 ps g) := by
 obtain ⟨n, hn⟩ : ∃ n, n = l.length := ⟨_, rfl⟩
 have hsz := hG.size h
 have hlt := fun k hk => hG.lt h k hk
 obtain ⟨okx, hX⟩ := hG.ref h
 obtain ⟨vx, hxb, _⟩ := hX.blk
 obtain ⟨W0, hW0⟩ : ∃ W0, W0 = w.alloc (.cells #[.int .i64 0, .int .i64 0] TA) := ⟨_, rfl⟩
 have wb0 : Below w.heap.size w W0 := by rw [hW0]; exact below_alloc (Below.refl _ _) _
 have wz0 : W0.heap.size = w.heap.size + 1 := by rw [hW0]; exact size_alloc _ _
 have hxb0 := (wb0.block _ (blt hxb)).trans hxb
 have u0 : W0.cell? ⟨x, 0, none⟩ = some (.int .i64 s.1) := bcell hxb0 0
 have u1 : W0.cell? ⟨x, 1, none⟩ = some (.int .i64 s.2.1) := bcell hxb0 1
 have u2 : W0.cell? ⟨x, 2, none⟩ = some (.int .i64 s.2.2) := bcell hxb0 2
 have k0 := (hl.below wb0).c0
 obtain ⟨W, hW⟩ : ∃ W, W = W0.alloc (.cells #[.int .i64 s.1, .int .i64 s.2.1, .int .i64 s.2.2] TSh) := ⟨_, rfl⟩
 obtain ⟨q8, q10⟩ := pair_blk w (.cells #[.int .i64 0, .int .i64 0] TA) (.cells #[.int .i64 s.1, .int .i64 s.2.1, .int .i64 s.2.2] TSh)
 rw [← hW0, ← hW] at q8 q10
 have y2 : W.cell? ⟨w.heap.size + 1, 2, none⟩ = some (.int .i64 s.2.2) := bcell q10 2
 have wb : Below w.heap.size w W := by rw [hW]; exact below_alloc wb0 _
 have wsz : W.heap.size = w.heap.size + 2 := by rw [hW, size_alloc, wz0]
 have hf1 := hG.keep h wb
 have hl1 := hl.below wb
 rw [← hn] at hc hm
 obtain ⟨kk, hkp⟩ : ∃ kk, kk = kpg s n := ⟨_, rfl⟩
 have hkb : kk ≤ 257 := by rw [hkp]; exact (kpg_bd hsh hm).2
 have hpg : ∀ X : World, Calls Tryz.prog 95 #[.int .i64 (n : Int), .int .i64 s.2.2] X fun e w' => e = .returned (.int .i64 (kk : Int)) ∧ Below X.heap.size X w' := fun X => by
  rw [hkp]
  exact RPages_ok n s hsh hm X
 have s10 := hsh.b0
 have s11 := hsh.b1
 have HPG := Lib.hid hpg
 have HG1 := Aside0.mk hf1
 have HL1 := Aside0.mk hl1
 have HW := Lib.hid hW
 have HW0 := Lib.hid hW0
 have Q8 := Lib.hid q8
 have Q10 := Lib.hid q10
 have WB := Aside0.mk wb
 have HN := Lib.hid hn
 have HKP := Lib.hid hkp
 have HLT := Lib.hid hlt
 have e_n : decide ((n : Int) > 4096) = false := decide_eq_false (by omega)
 have kw1 : IntKind.i64.wrap ((kk : Int) + 1) = (kk : Int) + 1 := IntWalk.i64_in _ (by omega)
 rw [← hn]
 clear h hl hn hlt hf1 hl1 hX hxb hxb0 wb0 hW hW0 q8 q10 wb hkp hpg
 rw [← HN.out, ← HKP.out] at hb1
 have e_b : decide ((kk : Int) + 1 > s.2.1) = false := decide_eq_false (by omega)
 have e_k : (kind == 1) = false := by simpa using hk
 clear hk
 rw [← HN.out, ← HKP.out] at hb2
 have e_o : decide (g.op < 0) = false := decide_eq_false (by omega)
 have kw2 : IntKind.i64.wrap (g.pg + (kk : Int)) = g.pg + (kk : Int) := IntWalk.i64_in _ (by omega)
 have e_p : decide (g.pg + (kk : Int) > s.2.1) = true := decide_eq_true (by omega)
 obtain ⟨c0, hc0⟩ : ∃ c0, c0 = cnt 0 g.st := ⟨_, rfl⟩
 rw [← hc0] at hcn
 have HC0 := Lib.hid hc0
 have HSL := Lib.hid hsl
 clear hc0 hsl
 have e_c : decide ((c0 : Int) < need) = true := decide_eq_true hcn
 go_enter Tryz.func54, Tryz.ntmps54
 go_wp2_with (first
  | (rw [← HW0.out])
  | (rw [← HW.out])
  | (go_at_call 95; (with_reducible refine (HPG.out _).mono ?_); rintro e w4 ⟨rfl, hb4⟩; have HB4 := Aside0.mk hb4; have x8 := (hb4.block _ (blt Q8.out)).trans Q8.out; have x10 := (hb4.block _ (blt Q10.out)).trans Q10.out; have hl4 := HL1.out.below hb4; have k04 := hl4.c0; have k14 := hl4.c1; have k24 := hl4.c2; have k34 := hl4.c3; have m0 : w4.cell? ⟨w.heap.size, 0, none⟩ = some (.int .i64 0) := bcell x8 0; have m1 : w4.cell? ⟨w.heap.size, 1, none⟩ = some (.int .i64 0) := bcell x8 1; have mf : ∀ j, w4.frozen? ⟨w.heap.size, j, none⟩ = false := (fun j => bfrozen x8 j); have y1 : w4.cell? ⟨w.heap.size + 1, 1, none⟩ = some (.int .i64 s.2.1) := bcell x10 1; have X84 := Lib.hid x8; have X104 := Lib.hid x10; have HL4 := Aside0.mk hl4; have HG4 := Aside0.mk (hG.below HG1.out hb4); clear hb4 x8 x10 hl4)
  | fail)
 have e_u : decide ((n : Int) > 4096) = false := e_n
 refine wp_region_held_drew (S := (fun w' => w'.cell? ⟨r, 2, none⟩ = some (.int .i64 g.op) ∧ w'.cell? ⟨r, 3, none⟩ = some (.int .i64 g.pg) ∧ w'.cell? ⟨w.heap.size + 1, 1, none⟩ = some (.int .i64 s.2.1))) (by kernel_rfl) ?_ (fun hHeld => ?_)
 ·first | go_keep | exact ⟨k24, k34, y1⟩
 first | refine tkY 0 ?_ | refine tkN 0 ?_
 try simp only [Act.put, tk1, tk2, tk3]
 first | refine tkY 1 ?_ | refine tkN 1 ?_
 try simp only [Act.put, tk1, tk2, tk3]
 first | refine tkY 2 ?_ | refine tkN 2 ?_
 try simp only [Act.put, tk1, tk2, tk3]
 first | refine tkY 3 ?_ | refine tkN 3 ?_
 try simp only [Act.put, tk1, tk2, tk3]
 first | refine tkY 4 ?_ | refine tkN 4 ?_
 try simp only [Act.put, tk1, tk2, tk3]
 first | refine tkY 5 ?_ | refine tkN 5 ?_
 try simp only [Act.put, tk1, tk2, tk3]
 first | refine tkY 6 ?_ | refine tkN 6 ?_
 try simp only [Act.put, tk1, tk2, tk3]
 first | refine tkY 7 ?_ | refine tkN 7 ?_
 try simp only [Act.put, tk1, tk2, tk3]
 first | refine tkY 8 ?_ | refine tkN 8 ?_
 try simp only [Act.put, tk1, tk2, tk3]
 first | refine tkY 9 ?_ | refine tkN 9 ?_
 try simp only [Act.put, tk1, tk2, tk3]
 first | refine tkY 10 ?_ | refine tkN 10 ?_
 try simp only [Act.put, tk1, tk2, tk3]
 first | refine tkY 11 ?_ | refine tkN 11 ?_
 try simp only [Act.put, tk1, tk2, tk3]
 first | refine tkY 12 ?_ | refine tkN 12 ?_
 try simp only [Act.put, tk1, tk2, tk3]
 first | refine tkY 13 ?_ | refine tkN 13 ?_
 try simp only [Act.put, tk1, tk2, tk3]
 first | refine tkY 14 ?_ | refine tkN 14 ?_
 try simp only [Act.put, tk1, tk2, tk3]
 first | refine tkY 15 ?_ | refine tkN 15 ?_
 try simp only [Act.put, tk1, tk2, tk3]
 refine wpAnyH_done (by kernel_rfl) ?_ _
 obtain ⟨w5, hw5⟩ : ∃ w5, w5 = w4.drew := ⟨_, rfl⟩
 rw [← hw5]
 have b5 : Below w4.heap.size w4 w5 := by rw [hw5]; exact (Below.refl _ _).drew
 have HB5 := Aside0.mk (HB4.out.trans (b5.mono HB4.out.size))
 have hl5 := HL4.out.below b5
 have k05 := hl5.c0
 have k15 := hl5.c1
 have k25 := hl5.c2
 have k35 := hl5.c3
 have k45 := hl5.c4
 have x85 := (b5.block _ (blt X84.out)).trans X84.out
 have HG5 := Aside0.mk (hG.below HG4.out b5)
 have HL5 := Aside0.mk hl5
 have X85 := Lib.hid x85
 clear hw5 b5 hl5 x85
 go_wp2_with (first
  | (rw [← HW0.out])
  | (rw [← HW.out])
  | (go_at_call 38; (have hcc := RCount_any HL5.out HSL.out 0); (rw [← HC0.out] at hcc); (with_reducible refine hcc.mono ?_); clear hcc; rintro e w7 ⟨rfl, hb7⟩; have HB7 := Aside0.mk (HB5.out.trans (hb7.mono HB5.out.size)); have x8 := (hb7.block _ (blt X85.out)).trans X85.out; have X87 := Lib.hid x8; have n0 : w7.cell? ⟨w.heap.size, 0, none⟩ = some (.int .i64 0) := bcell x8 0; have n1 : w7.cell? ⟨w.heap.size, 1, none⟩ = some (.int .i64 0) := bcell x8 1; have nf : ∀ j, w7.frozen? ⟨w.heap.size, j, none⟩ = false := (fun j => bfrozen x8 j); have HL7 := Aside0.mk (HL5.out.below hb7); have HG7 := Aside0.mk (hG.below HG5.out hb7); clear hb7 x8)
  | fail)
 obtain ⟨w9, hw9⟩ : ∃ w9, w9 = (w7.setCell ⟨w.heap.size, 0, none⟩ (.int .i64 0)).setCell ⟨w.heap.size, 1, none⟩ (.int .i64 0) := ⟨_, rfl⟩
 rw [← hw9]
 obtain ⟨r8, hf9, hl9, hb9, hk9⟩ := rput_end hG hSt HG7.out HL7.out hr ht HLT.out hsz (Nat.le_refl _) X87.out (.inr ⟨Nat.le_refl _, by omega⟩) (fun k hk => .inl hk) ((WB.out.trans ((HB7.out).mono (by omega))).mono hsz) (fun k hk => (((HB7.out).mono (by omega)).block k (HLT.out k hk.1)).trans (WB.out.block k (HLT.out k hk.1))) hw9
 have r0 := bcell r8 0
 have r1 := bcell r8 1
 exact bodyPost_ret (v := .tuple #[.agg #[.int .i64 0, .int .i64 0], .int .i64 5]) (by simp [results, Tryz.results54, go_sem, r0, r1]) rfl ⟨rfl, hf9, hl9, hb9, hk9⟩
set_option maxHeartbeats 4000000 in
set_option maxRecDepth 100000 in
theorem RPut_app (hG : RefFrame N0 x s G) (hSt : ∀ ps, Stays (fun K w => G K ps w)) (h : G K ps w) (hl : RLog r t x cap rest g w) (hr : K r) (ht : K t) (hNr : N0 ≤ r) (hNt : N0 ≤ t) (hsh : ShapeOk s) (hc : l.length ≤ c) (hm : l.length ≤ 4096) (hk : kind ≠ 1) (hb1 : (kpg s l.length : Int) + 1 ≤ s.2.1) (ho : 0 ≤ g.op) (hp0 : 0 ≤ g.pg) (hp1 : g.pg ≤ 100000) (hb2 : g.pg + (kpg s l.length : Int) ≤ s.2.1) (hkk : KindOk kind) (hBl : Byt l) (hCx : ∀ X, Below N0 w X → kB.C X A l.length l) (hdd : ps.length < 900000) (hsq : SeqOk (g.nx - 1)) (hn1 : 1 ≤ g.nx) (hn2 : g.nx < 1000000) : Calls Tryz.prog 54 #[.pointer (some ⟨r, 0, none⟩), .int .u8 kind, .slice A l.length c, .int .i64 need] w (RPutPost N0 r t x cap rest G K w (g.op, g.pg) 0 (appP s ps g.op g.pg l.length (rec kind (g.nx - 1) l)) { g with pg := g.pg + (kpg s l.length : Int) }) := by
 obtain ⟨n, hn⟩ : ∃ n, n = l.length := ⟨_, rfl⟩
 have hsz := hG.size h
 have hlt := fun k hk => hG.lt h k hk
 obtain ⟨okx, hX⟩ := hG.ref h
 obtain ⟨vx, hxb, _⟩ := hX.blk
 obtain ⟨W0, hW0⟩ : ∃ W0, W0 = w.alloc (.cells #[.int .i64 0, .int .i64 0] TA) := ⟨_, rfl⟩
 have wb0 : Below w.heap.size w W0 := by rw [hW0]; exact below_alloc (Below.refl _ _) _
 have wz0 : W0.heap.size = w.heap.size + 1 := by rw [hW0]; exact size_alloc _ _
 have hxb0 := (wb0.block _ (blt hxb)).trans hxb
 have u0 : W0.cell? ⟨x, 0, none⟩ = some (.int .i64 s.1) := bcell hxb0 0
 have u1 : W0.cell? ⟨x, 1, none⟩ = some (.int .i64 s.2.1) := bcell hxb0 1
 have u2 : W0.cell? ⟨x, 2, none⟩ = some (.int .i64 s.2.2) := bcell hxb0 2
 have k0 := (hl.below wb0).c0
 obtain ⟨W, hW⟩ : ∃ W, W = W0.alloc (.cells #[.int .i64 s.1, .int .i64 s.2.1, .int .i64 s.2.2] TSh) := ⟨_, rfl⟩
 obtain ⟨q8, q10⟩ := pair_blk w (.cells #[.int .i64 0, .int .i64 0] TA) (.cells #[.int .i64 s.1, .int .i64 s.2.1, .int .i64 s.2.2] TSh)
 rw [← hW0, ← hW] at q8 q10
 have y2 : W.cell? ⟨w.heap.size + 1, 2, none⟩ = some (.int .i64 s.2.2) := bcell q10 2
 have wb : Below w.heap.size w W := by rw [hW]; exact below_alloc wb0 _
 have wsz : W.heap.size = w.heap.size + 2 := by rw [hW, size_alloc, wz0]
 have hf1 := hG.keep h wb
 have hl1 := hl.below wb
 rw [← hn] at hc hm
 obtain ⟨kk, hkp⟩ : ∃ kk, kk = kpg s n := ⟨_, rfl⟩
 have hkb : kk ≤ 257 := by rw [hkp]; exact (kpg_bd hsh hm).2
 have hpg : ∀ X : World, Calls Tryz.prog 95 #[.int .i64 (n : Int), .int .i64 s.2.2] X fun e w' => e = .returned (.int .i64 (kk : Int)) ∧ Below X.heap.size X w' := fun X => by
  rw [hkp]
  exact RPages_ok n s hsh hm X
 have s10 := hsh.b0
 have s11 := hsh.b1
 have HPG := Lib.hid hpg
 have HG1 := Aside0.mk hf1
 have HL1 := Aside0.mk hl1
 have HW := Lib.hid hW
 have HW0 := Lib.hid hW0
 have Q8 := Lib.hid q8
 have Q10 := Lib.hid q10
 have WB := Aside0.mk wb
 have HN := Lib.hid hn
 have HKP := Lib.hid hkp
 have HLT := Lib.hid hlt
 have e_n : decide ((n : Int) > 4096) = false := decide_eq_false (by omega)
 have kw1 : IntKind.i64.wrap ((kk : Int) + 1) = (kk : Int) + 1 := IntWalk.i64_in _ (by omega)
 rw [← hn]
 clear h hl hn hlt hf1 hl1 hX hxb hxb0 wb0 hW hW0 q8 q10 wb hkp hpg
 rw [← HN.out, ← HKP.out] at hb1
 have e_b : decide ((kk : Int) + 1 > s.2.1) = false := decide_eq_false (by omega)
 have e_k : (kind == 1) = false := by simpa using hk
 clear hk
 rw [← HN.out, ← HKP.out] at hb2
 have e_o : decide (g.op < 0) = false := decide_eq_false (by omega)
 have kw2 : IntKind.i64.wrap (g.pg + (kk : Int)) = g.pg + (kk : Int) := IntWalk.i64_in _ (by omega)
 have e_p : decide (g.pg + (kk : Int) > s.2.1) = false := decide_eq_false (by omega)
 have HCX := Lib.hid hCx
 have HSH := Lib.hid hsh
 clear hCx
 go_enter Tryz.func54, Tryz.ntmps54
 go_wp2_with (first
  | (rw [← HW0.out])
  | (rw [← HW.out])
  | (go_at_call 95; (with_reducible refine (HPG.out _).mono ?_); rintro e w4 ⟨rfl, hb4⟩; have HB4 := Aside0.mk hb4; have x8 := (hb4.block _ (blt Q8.out)).trans Q8.out; have x10 := (hb4.block _ (blt Q10.out)).trans Q10.out; have hl4 := HL1.out.below hb4; have k04 := hl4.c0; have k14 := hl4.c1; have k24 := hl4.c2; have k34 := hl4.c3; have m0 : w4.cell? ⟨w.heap.size, 0, none⟩ = some (.int .i64 0) := bcell x8 0; have m1 : w4.cell? ⟨w.heap.size, 1, none⟩ = some (.int .i64 0) := bcell x8 1; have mf : ∀ j, w4.frozen? ⟨w.heap.size, j, none⟩ = false := (fun j => bfrozen x8 j); have y1 : w4.cell? ⟨w.heap.size + 1, 1, none⟩ = some (.int .i64 s.2.1) := bcell x10 1; have X84 := Lib.hid x8; have X104 := Lib.hid x10; have HL4 := Aside0.mk hl4; have HG4 := Aside0.mk (hG.below HG1.out hb4); clear hb4 x8 x10 hl4)
  | fail)
 have e_u : decide ((n : Int) > 4096) = false := e_n
 refine wp_region_held_drew (S := (fun w' => w'.cell? ⟨r, 2, none⟩ = some (.int .i64 g.op) ∧ w'.cell? ⟨r, 3, none⟩ = some (.int .i64 g.pg) ∧ w'.cell? ⟨w.heap.size + 1, 1, none⟩ = some (.int .i64 s.2.1))) (by kernel_rfl) ?_ (fun hHeld => ?_)
 ·first | go_keep | exact ⟨k24, k34, y1⟩
 first | refine tkY 0 ?_ | refine tkN 0 ?_
 try simp only [Act.put, tk1, tk2, tk3]
 first | refine tkY 1 ?_ | refine tkN 1 ?_
 try simp only [Act.put, tk1, tk2, tk3]
 first | refine tkY 2 ?_ | refine tkN 2 ?_
 try simp only [Act.put, tk1, tk2, tk3]
 first | refine tkY 3 ?_ | refine tkN 3 ?_
 try simp only [Act.put, tk1, tk2, tk3]
 first | refine tkY 4 ?_ | refine tkN 4 ?_
 try simp only [Act.put, tk1, tk2, tk3]
 first | refine tkY 5 ?_ | refine tkN 5 ?_
 try simp only [Act.put, tk1, tk2, tk3]
 first | refine tkY 6 ?_ | refine tkN 6 ?_
 try simp only [Act.put, tk1, tk2, tk3]
 first | refine tkY 7 ?_ | refine tkN 7 ?_
 try simp only [Act.put, tk1, tk2, tk3]
 first | refine tkY 8 ?_ | refine tkN 8 ?_
 try simp only [Act.put, tk1, tk2, tk3]
 first | refine tkY 9 ?_ | refine tkN 9 ?_
 try simp only [Act.put, tk1, tk2, tk3]
 first | refine tkY 10 ?_ | refine tkN 10 ?_
 try simp only [Act.put, tk1, tk2, tk3]
 first | refine tkY 11 ?_ | refine tkN 11 ?_
 try simp only [Act.put, tk1, tk2, tk3]
 first | refine tkY 12 ?_ | refine tkN 12 ?_
 try simp only [Act.put, tk1, tk2, tk3]
 first | refine tkY 13 ?_ | refine tkN 13 ?_
 try simp only [Act.put, tk1, tk2, tk3]
 first | refine tkY 14 ?_ | refine tkN 14 ?_
 try simp only [Act.put, tk1, tk2, tk3]
 first | refine tkY 15 ?_ | refine tkN 15 ?_
 try simp only [Act.put, tk1, tk2, tk3]
 refine wpAnyH_done (by kernel_rfl) ?_ _
 obtain ⟨w5, hw5⟩ : ∃ w5, w5 = w4.drew := ⟨_, rfl⟩
 rw [← hw5]
 have b5 : Below w4.heap.size w4 w5 := by rw [hw5]; exact (Below.refl _ _).drew
 have HB5 := Aside0.mk (HB4.out.trans (b5.mono HB4.out.size))
 have hl5 := HL4.out.below b5
 have k05 := hl5.c0
 have k15 := hl5.c1
 have k25 := hl5.c2
 have k35 := hl5.c3
 have k45 := hl5.c4
 have x85 := (b5.block _ (blt X84.out)).trans X84.out
 have HG5 := Aside0.mk (hG.below HG4.out b5)
 have HL5 := Aside0.mk hl5
 have X85 := Lib.hid x85
 clear hw5 b5 hl5 x85
 go_wp2_with fail
 have y2_ := HL5.out.c2
 have y3_ := HL5.out.c3
 refine wp_region_held_drew (S := (fun w' => w'.cell? ⟨r, 2, none⟩ = some (.int .i64 g.op) ∧ w'.cell? ⟨r, 3, none⟩ = some (.int .i64 g.pg))) (by kernel_rfl) ?_ (fun hHeld => ?_)
 ·first | go_keep | exact ⟨y2_, y3_⟩
 first | refine tkY 0 ?_ | refine tkN 0 ?_
 try simp only [Act.put, tk1, tk2, tk3]
 first | refine tkY 1 ?_ | refine tkN 1 ?_
 try simp only [Act.put, tk1, tk2, tk3]
 first | refine tkY 2 ?_ | refine tkN 2 ?_
 try simp only [Act.put, tk1, tk2, tk3]
 first | refine tkY 3 ?_ | refine tkN 3 ?_
 try simp only [Act.put, tk1, tk2, tk3]
 first | refine tkY 4 ?_ | refine tkN 4 ?_
 try simp only [Act.put, tk1, tk2, tk3]
 first | refine tkY 5 ?_ | refine tkN 5 ?_
 try simp only [Act.put, tk1, tk2, tk3]
 first | refine tkY 6 ?_ | refine tkN 6 ?_
 try simp only [Act.put, tk1, tk2, tk3]
 first | refine tkY 7 ?_ | refine tkN 7 ?_
 try simp only [Act.put, tk1, tk2, tk3]
 first | refine tkY 8 ?_ | refine tkN 8 ?_
 try simp only [Act.put, tk1, tk2, tk3]
 refine wpAnyH_ready (rs := [9]) (by kernel_rfl) (by simp) ?_
 refine AllReadyH.cons (by (simp only [List.getElem?_toArray, List.getElem?_cons_succ, List.getElem?_cons_zero]; rfl)) (fun K hK => ?_) AllReadyH.nil
 go_simp
 (try dsimp only)
 refine hK.out _ _ ?_ (fun hHeld => ?_)
 ·first | go_keep | exact ⟨y2_, y3_⟩
 clear hK K
 try simp only [Act.put, tk1, tk2, tk3]
 refine wpAnyH_ready (rs := [10]) (by kernel_rfl) (by simp) ?_
 refine AllReadyH.cons (by (simp only [List.getElem?_toArray, List.getElem?_cons_succ, List.getElem?_cons_zero]; rfl)) (fun K hK => ?_) AllReadyH.nil
 go_simp
 (try dsimp only)
 refine hK.out _ _ ?_ (fun hHeld => ?_)
 ·first | go_keep | exact ⟨y2_, y3_⟩
 clear hK K
 try simp only [Act.put, tk1, tk2, tk3]
 refine wpAnyH_done (by kernel_rfl) ?_ _
 obtain ⟨Y, hY⟩ : ∃ Y, Y = (w5.alloc (.cells #[.int .i64 g.op, .int .i64 g.pg] TA)).drew := ⟨_, rfl⟩
 rw [← hY]
 have qY : Y.heap[w5.heap.size]? = some (.cells #[.int .i64 g.op, .int .i64 g.pg] TA (0, 0)) := by rw [hY]; exact blk_new _ _
 have bY : Below w5.heap.size w5 Y := by rw [hY]; exact (below_alloc (Below.refl _ _) _).drew
 have bYd : Below w5.heap.size w5 Y.drew := bY.drew
 have sY : Y.heap.size = w5.heap.size + 1 := by rw [hY]; exact size_alloc _ _
 have fY := hG.keep HG5.out bYd
 have lY := HL5.out.below bY
 have zY0 := lY.c0
 have zY2 := lY.c2
 have zY3 := lY.c3
 have zY4 := lY.c4
 have belX : Below N0 w w5 := ((WB.out.trans ((HB5.out).mono (by omega))).mono hsz)
 have kepX : Kept (fun k => K k ∧ k ≠ r ∧ k ≠ t) w w5 := (fun k hk => (((HB5.out).mono (by omega)).block k (HLT.out k hk.1)).trans (WB.out.block k (HLT.out k hk.1)))
 have bNY : Below N0 w Y.drew := belX.trans (bYd.mono (by have := belX.size; omega))
 have happ := RAppend_G (kind := kind) (seq := (g.nx - 1)) (l := l) (c := c) hG fY HSH.out g.op g.pg hkk hsq hBl (HCX.out _ bNY) (by rw [← HN.out]; exact hc) (by rw [← HN.out]; omega) hdd
 rw [← HN.out] at happ
 have HAPP := Lib.hid happ
 have LY := Aside0.mk lY
 have QY := Lib.hid qY
 have BY := Aside0.mk bY
 have HY := Lib.hid hY
 have hwx : IntKind.u64.wrap (g.nx - 1) = g.nx - 1 := IntWalk.u64_in _ (by omega)
 have hwk : IntKind.i64.wrap (g.pg + (kk : Int)) = g.pg + (kk : Int) := IntWalk.i64_in _ (by omega)
 have BX := Aside0.mk belX
 have KX := Lib.hid kepX
 have nq1 : ¬ w5.heap.size = r := by have := blt HL5.out.blk; omega
 have nq2 : ¬ r = w5.heap.size := fun e => nq1 e.symm
 have nq3 : ¬ w.heap.size = r := by have := HLT.out r hr; omega
 have nq4 : ¬ r = w.heap.size := fun e => nq3 e.symm
 have nq5 : ¬ w5.heap.size = w.heap.size := by have := blt X85.out; omega
 have nq6 : ¬ w.heap.size = w5.heap.size := fun e => nq5 e.symm
 clear qY bY bYd fY lY belX kepX bNY happ hY y2_ y3_ hHeld
 go_wp2_with fail
 refine wp_region_held_drew (S := (fun w' => w'.cell? ⟨r, 0, none⟩ = some (.pointer (some ⟨x, 0, none⟩)) ∧ w'.cell? ⟨r, 2, none⟩ = some (.int .i64 g.op) ∧ w'.cell? ⟨r, 3, none⟩ = some (.int .i64 g.pg) ∧ w'.cell? ⟨r, 4, none⟩ = some (.int .u64 g.nx))) (by kernel_rfl) ?_ (fun hHeld => ?_)
 ·first | exact ⟨zY0, zY2, zY3, zY4⟩ | exact ⟨s0, s2, s3, s4⟩
 first | refine tkY 0 ?_ | refine tkN 0 ?_
 try simp only [Act.put, tk1, tk2, tk3]
 first | refine tkY 1 ?_ | refine tkN 1 ?_
 try simp only [Act.put, tk1, tk2, tk3]
 first | refine tkY 2 ?_ | refine tkN 2 ?_
 try simp only [Act.put, tk1, tk2, tk3]
 first | refine tkY 3 ?_ | refine tkN 3 ?_
 try simp only [Act.put, tk1, tk2, tk3]
 first | refine tkY 4 ?_ | refine tkN 4 ?_
 try simp only [Act.put, tk1, tk2, tk3]
 first | refine tkY 5 ?_ | refine tkN 5 ?_
 try simp only [Act.put, tk1, tk2, tk3]
 first | refine tkY 6 ?_ | refine tkN 6 ?_
 try simp only [Act.put, tk1, tk2, tk3]
 first | refine tkY 7 ?_ | refine tkN 7 ?_
 try simp only [Act.put, tk1, tk2, tk3]
 first | refine tkY 8 ?_ | refine tkN 8 ?_
 try simp only [Act.put, tk1, tk2, tk3]
 first | refine tkY 9 ?_ | refine tkN 9 ?_
 try simp only [Act.put, tk1, tk2, tk3]
 first | refine tkY 10 ?_ | refine tkN 10 ?_
 try simp only [Act.put, tk1, tk2, tk3]
 first | refine tkY 11 ?_ | refine tkN 11 ?_
 try simp only [Act.put, tk1, tk2, tk3]
 first | refine tkY 12 ?_ | refine tkN 12 ?_
 try simp only [Act.put, tk1, tk2, tk3]
 first | refine tkY 13 ?_ | refine tkN 13 ?_
 try simp only [Act.put, tk1, tk2, tk3]
 first | refine tkY 14 ?_ | refine tkN 14 ?_
 try simp only [Act.put, tk1, tk2, tk3]
 first | refine tkY 15 ?_ | refine tkN 15 ?_
 try simp only [Act.put, tk1, tk2, tk3]
 first | refine tkY 16 ?_ | refine tkN 16 ?_
 try simp only [Act.put, tk1, tk2, tk3]
 first | refine tkY 17 ?_ | refine tkN 17 ?_
 try simp only [Act.put, tk1, tk2, tk3]
 first | refine tkY 18 ?_ | refine tkN 18 ?_
 try simp only [Act.put, tk1, tk2, tk3]
 refine wpAnyH_ready (rs := [19]) (by kernel_rfl) (by simp) ?_
 refine AllReadyH.cons (by (simp only [List.getElem?_toArray, List.getElem?_cons_succ, List.getElem?_cons_zero]; rfl)) (fun K hK => ?_) AllReadyH.nil
 go_simp
 (go_at_call 96; (with_reducible refine HAPP.out.mono ?_); rintro e w10 ⟨rfl, hf10, hb10, hk10⟩; have hl10 : RLog r t x cap rest g w10 := LY.out.step (hk10 r (.inl (.inl hr))) (hk10 t (.inl (.inl ht))); have s0 := hl10.c0; have s2 := hl10.c2; have s3 := hl10.c3; have s4 := hl10.c4; have fr3 := hl10.fr 3; have x8 := (hk10 w.heap.size (.inl (.inr ⟨Nat.le_refl _, by omega⟩))).trans ((BY.out.block _ (blt X85.out)).trans X85.out); have x12 := (hk10 w5.heap.size (.inr ⟨Nat.le_refl _, by show _ < Y.heap.size; omega⟩)).trans QY.out; have m0 : w10.cell? ⟨w.heap.size, 0, none⟩ = some (.int .i64 0) := bcell x8 0; have m1 : w10.cell? ⟨w.heap.size, 1, none⟩ = some (.int .i64 0) := bcell x8 1; have mf : ∀ j, w10.frozen? ⟨w.heap.size, j, none⟩ = false := (fun j => bfrozen x8 j); have t0 : w10.cell? ⟨w5.heap.size, 0, none⟩ = some (.int .i64 g.op) := bcell x12 0; have t1 : w10.cell? ⟨w5.heap.size, 1, none⟩ = some (.int .i64 g.pg) := bcell x12 1; have HL10 := Aside0.mk hl10; have X810 := Lib.hid x8; have HG10 := Aside0.mk hf10; have HB10 := Aside0.mk (BX.out.trans ((show Below N0 w5 Y.drew from (BY.out.drew).mono (by have := BX.out.size; omega)).trans hb10)); have HKR := Lib.hid hk10; clear hl10 hf10 hb10 hk10 x8 x12)
 (try dsimp only)
 refine hK.out _ _ ?_ (fun hHeld => ?_)
 ·first | exact ⟨zY0, zY2, zY3, zY4⟩ | exact ⟨s0, s2, s3, s4⟩
 clear hK K
 try simp only [Act.put, tk1, tk2, tk3]
 refine wpAnyH_done (by kernel_rfl) ?_ _
 go_wp2_with fail
 have HK10 := Lib.hid (show Kept (fun k => K k ∧ k ≠ r ∧ k ≠ t) w w10 from fun k hk => (HKR.out k (.inl (.inl hk.1))).trans ((BY.out.block k (by have := HLT.out k hk.1; have := BX.out.size; omega)).trans (KX.out k hk)))
 have hl11 := HL10.out.setPg (g.pg + (kk : Int))
 have hu11 := Upd.setCell w10 (p := ⟨r, 3, none⟩) (S := fun k => k = r) rfl (.int .i64 (g.pg + (kk : Int)))
 have hf11 := hSt _ _ w10 _ r _ _ _ HG10.out (.inl (.inl hr)) HL10.out.blk hl11.blk (by decide) hu11
 have s10' := hG.size HG10.out
 have hb11 := HB10.out.trans (hu11.below s10' (fun k hk => by rw [hk]; exact hNr))
 have x811 := (hu11.block w.heap.size (blt X810.out) (fun e => nq3 e)).trans X810.out
 have hk11 : Kept (fun k => K k ∧ k ≠ r ∧ k ≠ t) w (w10.setCell ⟨r, 3, none⟩ (.int .i64 (g.pg + (kk : Int)))) := fun k hk => (hu11.block k (hG.lt HG10.out k (.inl (.inl hk.1))) hk.2.1).trans (HK10.out k hk)
 obtain ⟨w9, hw9⟩ : ∃ w9, w9 = ((w10.setCell ⟨r, 3, none⟩ (.int .i64 (g.pg + (kk : Int)))).setCell ⟨w.heap.size, 0, none⟩ (.int .i64 g.op)).setCell ⟨w.heap.size, 1, none⟩ (.int .i64 g.pg) := ⟨_, rfl⟩
 rw [← hw9]
 obtain ⟨r8, hf9, hl9, hb9, hk9⟩ := rput_end hG hSt hf11 hl11 hr ht HLT.out hsz (Nat.le_refl _) x811 (.inl (.inr ⟨Nat.le_refl _, by omega⟩)) (fun k hk => .inl (.inl hk)) hb11 hk11 hw9
 have r0 := bcell r8 0
 have r1 := bcell r8 1
 exact bodyPost_ret (v := .tuple #[.agg #[.int .i64 g.op, .int .i64 g.pg], .int .i64 0]) (by simp [results, Tryz.results54, go_sem, r0, r1]) rfl ⟨rfl, hf9, by rw [← HKP.out]; exact hl9, hb9, hk9⟩
end
end Go.Proofs.YtmbiebdcnadhkaaGreat.Fl
namespace Go.Proofs.YtmbiebdcnadhkaaGreat.Fl
open Go.RowKit Go.Proofs.YtmbiebdcnadhkaaGreatW.PrintWords Go.Proofs.YtmbiebdcnadhkaaGreatW.PrintMore Go.Maps
section
variable {N0 x r t cap : Nat} {rest : List Value} {s : Int × Int × Int} {G : (Nat → Prop) → List Pg → World → Prop} {K : Nat → Prop} {ps : List Pg} {g : LG} {w : World} {A : Option Addr} {c : Nat} {l : List Int} {kind need : Int}
theorem RSeal_G (hG : RefFrame N0 x s G) (hSt : ∀ ps, Stays (fun K w => G K ps w)) (h : G K ps w) (hl : RLog r t x cap rest g w) (hr : K r) (ht : K t) (hNr : N0 ≤ r) (hNt : N0 ≤ t) (ho : g.op < g.st.length) : Calls Tryz.prog 56 #[.pointer (some ⟨r, 0, none⟩)] w fun e w' => e = .returned (.tuple #[]) ∧ G K ps w' ∧ RLog r t x cap rest (rsealG g) w' ∧ Below N0 w w' ∧ Kept (fun k => K k ∧ k ≠ r ∧ k ≠ t) w w' :=
 (RSeal_any hl ho).mono fun e w' ⟨h1, h2, w1, g1, h3, h4, h5⟩ => by
  have f1 := hSt ps K w w1 t _ _ _ h ht hl.row h3.row (by decide) h4
  have f2 := hSt ps K w1 w' r _ _ _ f1 hr h3.blk h2.blk (by decide) h5
  exact ⟨h1, f2, h2, (h4.below (hG.size h) (fun k hk => by rw [hk]; exact hNt)).trans (h5.below (hG.size f1) (fun k hk => by rw [hk]; exact hNr)), fun k hk => (h5.block k (hG.lt f1 k hk.1) hk.2.1).trans (h4.block k (hG.lt h k hk.1) hk.2.2)⟩
theorem rseal_len (g : LG) : (rsealG g).st.length = g.st.length := by
 unfold rsealG
 split <;> simp
set_option maxHeartbeats 4000000 in
set_option maxRecDepth 100000 in
theorem RPut_turn0 (hG : RefFrame N0 x s G) (hSt : ∀ ps, Stays (fun K w => G K ps w)) (h : G K ps w) (hl : RLog r t x cap rest g w) (hr : K r) (ht : K t) (hNr : N0 ≤ r) (hNt : N0 ≤ t) (hsh : ShapeOk s) (hc : l.length ≤ c) (hm : l.length ≤ 4096) (hk : kind ≠ 1) (hb1 : (kpg s l.length : Int) + 1 ≤ s.2.1) (ho : g.op < 0) (hsl : g.st.length < 1000) (hol : g.op < (g.st.length : Int)) (hcn : ¬ (cnt 0 g.st : Int) < need) (hkk : KindOk kind) (hBl : Byt l) (hCx : ∀ X, Below N0 w X → kB.C X A l.length l) (hd0 : ps.length < 900000) {m : Nat} (hdd : (appP s ps (m : Int) 0 0 (rec 1 g.nx [])).length < 900000) (hm0 : (rsealG g).st[m]? = some 0) (hmf : ∀ i, i < m → (rsealG g).st[i]? ≠ some 0) (hsq : SeqOk g.nx) (hn1 : 0 ≤ g.nx) (hn2 : g.nx < 1000000) : Calls Tryz.prog 54 #[.pointer (some ⟨r, 0, none⟩), .int .u8 kind, .slice A l.length c, .int .i64 need] w (RPutPost N0 r t x cap rest G K w ((m : Int), 1) 0 (appP s (appP s ps (m : Int) 0 0 (rec 1 g.nx [])) (m : Int) 1 l.length (rec kind g.nx l)) { st := (rsealG g).st.set m 1, op := (m : Int), pg := 1 + (kpg s l.length : Int), nx := g.nx + 1 }) := by
 obtain ⟨n, hn⟩ : ∃ n, n = l.length := ⟨_, rfl⟩
 have hsz := hG.size h
 have hlt := fun k hk => hG.lt h k hk
 obtain ⟨okx, hX⟩ := hG.ref h
 obtain ⟨vx, hxb, _⟩ := hX.blk
 obtain ⟨W0, hW0⟩ : ∃ W0, W0 = w.alloc (.cells #[.int .i64 0, .int .i64 0] TA) := ⟨_, rfl⟩
 have wb0 : Below w.heap.size w W0 := by rw [hW0]; exact below_alloc (Below.refl _ _) _
 have wz0 : W0.heap.size = w.heap.size + 1 := by rw [hW0]; exact size_alloc _ _
 have hxb0 := (wb0.block _ (blt hxb)).trans hxb
 have u0 : W0.cell? ⟨x, 0, none⟩ = some (.int .i64 s.1) := bcell hxb0 0
 have u1 : W0.cell? ⟨x, 1, none⟩ = some (.int .i64 s.2.1) := bcell hxb0 1
 have u2 : W0.cell? ⟨x, 2, none⟩ = some (.int .i64 s.2.2) := bcell hxb0 2
 have k0 := (hl.below wb0).c0
 obtain ⟨W, hW⟩ : ∃ W, W = W0.alloc (.cells #[.int .i64 s.1, .int .i64 s.2.1, .int .i64 s.2.2] TSh) := ⟨_, rfl⟩
 obtain ⟨q8, q10⟩ := pair_blk w (.cells #[.int .i64 0, .int .i64 0] TA) (.cells #[.int .i64 s.1, .int .i64 s.2.1, .int .i64 s.2.2] TSh)
 rw [← hW0, ← hW] at q8 q10
 have y2 : W.cell? ⟨w.heap.size + 1, 2, none⟩ = some (.int .i64 s.2.2) := bcell q10 2
 have wb : Below w.heap.size w W := by rw [hW]; exact below_alloc wb0 _
 have wsz : W.heap.size = w.heap.size + 2 := by rw [hW, size_alloc, wz0]
 have hf1 := hG.keep h wb
 have hl1 := hl.below wb
 rw [← hn] at hc hm
 obtain ⟨kk, hkp⟩ : ∃ kk, kk = kpg s n := ⟨_, rfl⟩
 have hkb : kk ≤ 257 := by rw [hkp]; exact (kpg_bd hsh hm).2
 have hpg : ∀ X : World, Calls Tryz.prog 95 #[.int .i64 (n : Int), .int .i64 s.2.2] X fun e w' => e = .returned (.int .i64 (kk : Int)) ∧ Below X.heap.size X w' := fun X => by
  rw [hkp]
  exact RPages_ok n s hsh hm X
 have s10 := hsh.b0
 have s11 := hsh.b1
 have HPG := Lib.hid hpg
 have HG1 := Aside0.mk hf1
 have HL1 := Aside0.mk hl1
 have HW := Lib.hid hW
 have HW0 := Lib.hid hW0
 have Q8 := Lib.hid q8
 have Q10 := Lib.hid q10
 have WB := Aside0.mk wb
 have HN := Lib.hid hn
 have HKP := Lib.hid hkp
 have HLT := Lib.hid hlt
 have e_n : decide ((n : Int) > 4096) = false := decide_eq_false (by omega)
 have kw1 : IntKind.i64.wrap ((kk : Int) + 1) = (kk : Int) + 1 := IntWalk.i64_in _ (by omega)
 rw [← hn]
 clear h hl hn hlt hf1 hl1 hX hxb hxb0 wb0 hW hW0 q8 q10 wb hkp hpg
 rw [← HN.out, ← HKP.out] at hb1
 have e_b : decide ((kk : Int) + 1 > s.2.1) = false := decide_eq_false (by omega)
 have e_k : (kind == 1) = false := by simpa using hk
 clear hk
 have e_o : decide (g.op < 0) = true := decide_eq_true ho
 have HOL := Lib.hid hol
 have HM0 := Lib.hid hm0
 have HMF := Lib.hid hmf
 obtain ⟨nl, hnl⟩ : ∃ nl, nl = g.st.length := ⟨_, rfl⟩
 have hnl2 : nl < 1000 := by omega
 have HNL := Lib.hid hnl
 have BBW := Aside0.mk WB.out
 clear hol hm0 hmf hnl
 obtain ⟨c0, hc0⟩ : ∃ c0, c0 = cnt 0 g.st := ⟨_, rfl⟩
 rw [← hc0] at hcn
 have HC0 := Lib.hid hc0
 have HSL := Lib.hid hsl
 clear hc0 hsl
 have e_c : decide ((c0 : Int) < need) = false := decide_eq_false hcn
 have HCX := Lib.hid hCx
 have HSH := Lib.hid hsh
 clear hCx
 go_enter Tryz.func54, Tryz.ntmps54
 go_wp2_with (first
  | (rw [← HW0.out])
  | (rw [← HW.out])
  | (go_at_call 95; (with_reducible refine (HPG.out _).mono ?_); rintro e w4 ⟨rfl, hb4⟩; have HB4 := Aside0.mk hb4; have x8 := (hb4.block _ (blt Q8.out)).trans Q8.out; have x10 := (hb4.block _ (blt Q10.out)).trans Q10.out; have hl4 := HL1.out.below hb4; have k04 := hl4.c0; have k14 := hl4.c1; have k24 := hl4.c2; have k34 := hl4.c3; have m0 : w4.cell? ⟨w.heap.size, 0, none⟩ = some (.int .i64 0) := bcell x8 0; have m1 : w4.cell? ⟨w.heap.size, 1, none⟩ = some (.int .i64 0) := bcell x8 1; have mf : ∀ j, w4.frozen? ⟨w.heap.size, j, none⟩ = false := (fun j => bfrozen x8 j); have y1 : w4.cell? ⟨w.heap.size + 1, 1, none⟩ = some (.int .i64 s.2.1) := bcell x10 1; have X84 := Lib.hid x8; have X104 := Lib.hid x10; have HL4 := Aside0.mk hl4; have HG4 := Aside0.mk (hG.below HG1.out hb4); clear hb4 x8 x10 hl4)
  | fail)
 have e_u : decide ((n : Int) > 4096) = false := e_n
 refine wp_region_held_drew (S := (fun w' => w'.cell? ⟨r, 2, none⟩ = some (.int .i64 g.op) ∧ w'.cell? ⟨r, 3, none⟩ = some (.int .i64 g.pg) ∧ w'.cell? ⟨w.heap.size + 1, 1, none⟩ = some (.int .i64 s.2.1))) (by kernel_rfl) ?_ (fun hHeld => ?_)
 ·first | go_keep | exact ⟨k24, k34, y1⟩
 first | refine tkY 0 ?_ | refine tkN 0 ?_
 try simp only [Act.put, tk1, tk2, tk3]
 first | refine tkY 1 ?_ | refine tkN 1 ?_
 try simp only [Act.put, tk1, tk2, tk3]
 first | refine tkY 2 ?_ | refine tkN 2 ?_
 try simp only [Act.put, tk1, tk2, tk3]
 first | refine tkY 3 ?_ | refine tkN 3 ?_
 try simp only [Act.put, tk1, tk2, tk3]
 first | refine tkY 4 ?_ | refine tkN 4 ?_
 try simp only [Act.put, tk1, tk2, tk3]
 first | refine tkY 5 ?_ | refine tkN 5 ?_
 try simp only [Act.put, tk1, tk2, tk3]
 first | refine tkY 6 ?_ | refine tkN 6 ?_
 try simp only [Act.put, tk1, tk2, tk3]
 first | refine tkY 7 ?_ | refine tkN 7 ?_
 try simp only [Act.put, tk1, tk2, tk3]
 first | refine tkY 8 ?_ | refine tkN 8 ?_
 try simp only [Act.put, tk1, tk2, tk3]
 first | refine tkY 9 ?_ | refine tkN 9 ?_
 try simp only [Act.put, tk1, tk2, tk3]
 first | refine tkY 10 ?_ | refine tkN 10 ?_
 try simp only [Act.put, tk1, tk2, tk3]
 first | refine tkY 11 ?_ | refine tkN 11 ?_
 try simp only [Act.put, tk1, tk2, tk3]
 first | refine tkY 12 ?_ | refine tkN 12 ?_
 try simp only [Act.put, tk1, tk2, tk3]
 first | refine tkY 13 ?_ | refine tkN 13 ?_
 try simp only [Act.put, tk1, tk2, tk3]
 first | refine tkY 14 ?_ | refine tkN 14 ?_
 try simp only [Act.put, tk1, tk2, tk3]
 first | refine tkY 15 ?_ | refine tkN 15 ?_
 try simp only [Act.put, tk1, tk2, tk3]
 refine wpAnyH_done (by kernel_rfl) ?_ _
 obtain ⟨w5, hw5⟩ : ∃ w5, w5 = w4.drew := ⟨_, rfl⟩
 rw [← hw5]
 have b5 : Below w4.heap.size w4 w5 := by rw [hw5]; exact (Below.refl _ _).drew
 have HB5 := Aside0.mk (HB4.out.trans (b5.mono HB4.out.size))
 have hl5 := HL4.out.below b5
 have k05 := hl5.c0
 have k15 := hl5.c1
 have k25 := hl5.c2
 have k35 := hl5.c3
 have k45 := hl5.c4
 have x85 := (b5.block _ (blt X84.out)).trans X84.out
 have HG5 := Aside0.mk (hG.below HG4.out b5)
 have HL5 := Aside0.mk hl5
 have X85 := Lib.hid x85
 clear hw5 b5 hl5 x85
 go_wp2_with (first
  | (rw [← HW0.out])
  | (rw [← HW.out])
  | (go_at_call 38; (have hcc := RCount_any HL5.out HSL.out 0); (rw [← HC0.out] at hcc); (with_reducible refine hcc.mono ?_); clear hcc; rintro e w7 ⟨rfl, hb7⟩; have HB7 := Aside0.mk (HB5.out.trans (hb7.mono HB5.out.size)); have x8 := (hb7.block _ (blt X85.out)).trans X85.out; have X87 := Lib.hid x8; have n0 : w7.cell? ⟨w.heap.size, 0, none⟩ = some (.int .i64 0) := bcell x8 0; have n1 : w7.cell? ⟨w.heap.size, 1, none⟩ = some (.int .i64 0) := bcell x8 1; have nf : ∀ j, w7.frozen? ⟨w.heap.size, j, none⟩ = false := (fun j => bfrozen x8 j); have HL7 := Aside0.mk (HL5.out.below hb7); have HG7 := Aside0.mk (hG.below HG5.out hb7); clear hb7 x8)
  | (go_at_call 56; (have hse := RSeal_G hG hSt HG7.out HL7.out (.inl hr) (.inl ht) hNr hNt HOL.out); (with_reducible refine hse.mono ?_); clear hse; rintro e w8 ⟨rfl, hf8, hl8, hb8, hk8⟩; have bel8 : Below N0 w w8 := (((WB.out.trans ((HB7.out).mono (by omega))).mono hsz)).trans hb8; have kep8 : Kept (fun k => K k ∧ k ≠ r ∧ k ≠ t) w w8 := (fun k hk => (hk8 k ⟨.inl hk.1, hk.2⟩).trans ((show Kept (fun k => K k ∧ k ≠ r ∧ k ≠ t) w w7 from fun k hk => ((BBW.out.trans (HB7.out.mono BBW.out.size)).block k (HLT.out k hk.1))) k hk)); have x8 := (hk8 w.heap.size ⟨.inr ⟨Nat.le_refl _, by omega⟩, (by have := HLT.out r hr; omega), (by have := HLT.out t ht; omega)⟩).trans X87.out; (obtain ⟨g8, hg8⟩ : ∃ g8, g8 = rsealG g := ⟨_, rfl⟩); (rw [← hg8] at hl8); (have hgl : g8.st.length = nl := (by rw [hg8, rseal_len]; exact HNL.out.symm)); (have hgo : g8.op = -1 := (by rw [hg8]; rfl)); have k18 := hl8.c1; (rw [hgl] at k18); have X88 := Lib.hid x8; have HG8 := Aside0.mk hf8; have HL8 := Aside0.mk hl8; have BEL8 := Aside0.mk bel8; have KEP8 := Lib.hid kep8; have HG8E := Lib.hid hg8; have HGL := Lib.hid hgl; have HGO := Lib.hid hgo; clear hf8 hl8 hb8 hk8 bel8 kep8 x8 hg8 hgl hgo)
  | fail)
 go_loopw [12, 13, 69] (fun v12 v13 v69 wr => ∃ k : Nat, k ≤ nl ∧ v69 = .int .i64 (k : Int) ∧ RLog r t x cap rest (if k ≤ m then g8 else { g8 with op := (m : Int) }) wr ∧ Upd (fun k => k = r) w8 wr) (fun _ _ v69 _ => nl - (intOf v69).toNat)
 case atStart => exact ⟨0, Nat.zero_le _, rfl, by rw [if_pos (Nat.zero_le _)]; exact HL8.out, Upd.ofBelow (Below.refl _ _) _⟩
 case round =>
  obtain ⟨k, hk, rfl, hlr, hur⟩ := hrel
  have hmg : g8.st[m]? = some 0 := by rw [HG8E.out]; exact HM0.out
  have hml : m < nl := by have := (List.getElem?_eq_some_iff.1 hmg).1; have := HGL.out; omega
  have k0' : (0 : Int) ≤ (k : Int) := by omega
  have e_m : decide ((m : Int) < 0) = false := decide_eq_false (by omega)
  by_cases hlt : k < nl
  ·have k1' : (k : Int) < (nl : Int) := by omega
   obtain ⟨y, hy⟩ : ∃ y, g8.st[k]? = some y := ⟨_, List.getElem?_eq_getElem (by have := HGL.out; omega)⟩
   by_cases hkm : k ≤ m
   ·rw [if_pos hkm] at hlr
    have c5 := hlr.cst hy
    have c2 := hlr.c2
    rw [HGO.out] at c2
    have f2 := hlr.fr 2
    have HLR := Aside0.mk hlr
    have HUR := Aside0.mk hur
    by_cases hkm2 : k = m
    ·have hy0 : y = 0 := by rw [hkm2, hmg] at hy; exact (Option.some.inj hy).symm
     rw [hy0] at c5
     have HKM := Lib.hid hkm2
     clear hlr hur hy hy0 hkm2 hmg
     go_wp2
     exact ⟨⟨k + 1, by omega, by go_num, by rw [if_neg (by have := HKM.out; omega), ← HKM.out]; exact HLR.out.setOp (k : Int), HUR.out.trans (Upd.setCell wr (p := ⟨r, 2, none⟩) (S := fun k => k = r) rfl _) (fun k hk _ => hk)⟩, by simp [intOf]; omega⟩
    ·have hy0 : y ≠ 0 := fun e => by rw [e] at hy; exact HMF.out k (by omega) (by rw [← HG8E.out]; exact hy)
     have e1 : (y == 0) = false := by simpa using hy0
     have HKM := Lib.hid hkm2
     clear hlr hur hy hy0 hkm2 hmg
     go_wp2
     exact ⟨⟨k + 1, by omega, by go_num, by rw [if_pos (by have := HKM.out; omega)]; exact HLR.out, HUR.out⟩, by simp [intOf]; omega⟩
   ·rw [if_neg hkm] at hlr
    have c5 := hlr.cst hy
    have c2 := hlr.c2
    simp only at c2
    have HLR := Aside0.mk hlr
    have HUR := Aside0.mk hur
    by_cases hy0 : y = 0
    ·rw [hy0] at c5
     clear hlr hur hy hy0 hmg
     go_wp2
     exact ⟨⟨k + 1, by omega, by go_num, by rw [if_neg (by omega)]; exact HLR.out, HUR.out⟩, by simp [intOf]; omega⟩
    ·have e1 : (y == 0) = false := by simpa using hy0
     clear hlr hur hy hy0 hmg
     go_wp2
     exact ⟨⟨k + 1, by omega, by go_num, by rw [if_neg (by omega)]; exact HLR.out, HUR.out⟩, by simp [intOf]; omega⟩
  ·obtain rfl : k = nl := by omega
   rw [if_neg (by omega)] at hlr
   have c1 := hlr.c1
   simp only [HGL.out] at c1
   have c2 := hlr.c2
   simp only at c2
   have c5 := hlr.cst (i := m) (y := 0) hmg
   have f5 := hlr.ft m
   have q0 : (0 : Int) ≤ (m : Int) := by omega
   have q1 : (m : Int) < (k : Int) := by omega
   have n1 := hlr.ne
   have n2 : ¬ t = r := fun e => n1 e.symm
   have HMG := Lib.hid hmg
   have HLR := Aside0.mk hlr
   have HUR := Aside0.mk hur
   clear hlr hur hmg
   go_wp2_with fail
   go_region_held3 (fun w' => w'.cell? ⟨r, 1, none⟩ = some (.slice (some ⟨t, 0, none⟩) k cap) ∧ w'.cell? ⟨r, 2, none⟩ = some (.int .i64 (m : Int))) (first | go_keep | exact ⟨c1, c2⟩) (fail)
   obtain ⟨w11, hw11⟩ : ∃ w11, w11 = (wr.setCell ⟨t, m, none⟩ (.int .i64 1)).drew := ⟨_, rfl⟩
   rw [← hw11]
   have hfr := hSt _ _ w8 wr r _ _ _ HG8.out (.inl hr) HL8.out.blk HLR.out.blk (by decide) HUR.out
   have hlz := HLR.out.setSt (i := m) (by show m < g8.st.length; have := HGL.out; omega) 1
   have hlw : RLog r t x cap rest { st := g8.st.set m 1, op := (m : Int), pg := g8.pg, nx := g8.nx } w11 := by rw [hw11]; exact ⟨hlz.blk, hlz.row⟩
   have huw : Upd (fun k => k = t) wr w11 := by
    have := Upd.setCell wr (p := ⟨t, m, none⟩) (S := fun k => k = t) rfl (.int .i64 1)
    rw [hw11]
    exact ⟨this.os, this.tape, this.output, this.size, this.block⟩
   have hfw := hSt _ _ wr w11 t _ _ _ hfr (.inl ht) HLR.out.row hlw.row (by decide) huw
   have zr := hG.size hfr
   have z8 := hG.size HG8.out
   have blw : Below N0 w w11 := BEL8.out.trans ((HUR.out.below z8 (fun k hk => by rw [hk]; exact hNr)).trans (huw.below zr (fun k hk => by rw [hk]; exact hNt)))
   have hgn : g8.nx = g.nx := by rw [HG8E.out]; rfl
   have kpw : Kept (fun k => K k ∧ k ≠ r ∧ k ≠ t) w w11 := fun k hk => (huw.block k (hG.lt hfr k (.inl hk.1)) hk.2.2).trans ((HUR.out.block k (hG.lt HG8.out k (.inl hk.1)) hk.2.1).trans (KEP8.out k hk))
   have x8w := (huw.block w.heap.size (by have := hG.lt hfr w.heap.size (.inr ⟨Nat.le_refl _, by omega⟩); omega) (by have := HLT.out t ht; omega)).trans ((HUR.out.block w.heap.size (blt X88.out) (by have := HLT.out r hr; omega)).trans X88.out)
   have d0 := hlw.c0
   have d2 := hlw.c2
   have d4 := hlw.c4
   simp only at d2 d4
   rw [hgn] at d4
   have hap0 := RAppend_G (kind := 1) (seq := g.nx) (l := []) (c := 0) (A := none) hG (hG.below hfw (Below.refl _ w11).drew) HSH.out (m : Int) 0 one_kind hsq Byt.nil (Kd.C_nil kB _) (Nat.le_refl _) (by simp) hd0
   rw [List.length_nil] at hap0
   have HAP0 := Lib.hid hap0
   have HLW := Aside0.mk hlw
   have BLW := Aside0.mk blw
   have KPW := Lib.hid kpw
   have X8W := Lib.hid x8w
   have HGN := Lib.hid hgn
   clear hw11 hfr hlz hlw huw hfw blw hgn kpw x8w hap0 c1 c2 c5 f5
   go_wp2_with fail
   refine wp_region_held_drew (S := (fun w' => w'.cell? ⟨r, 0, none⟩ = some (.pointer (some ⟨x, 0, none⟩)) ∧ w'.cell? ⟨r, 2, none⟩ = some (.int .i64 (m : Int)) ∧ w'.cell? ⟨r, 4, none⟩ = some (.int .u64 g.nx))) (by kernel_rfl) ?_ (fun hHeld => ?_)
   ·first | exact ⟨d0, d2, d4⟩ | exact ⟨v0, v2, v4⟩
   first | refine tkY 0 ?_ | refine tkN 0 ?_
   try simp only [Act.put, tk1, tk2, tk3]
   first | refine tkY 1 ?_ | refine tkN 1 ?_
   try simp only [Act.put, tk1, tk2, tk3]
   first | refine tkY 2 ?_ | refine tkN 2 ?_
   try simp only [Act.put, tk1, tk2, tk3]
   first | refine tkY 3 ?_ | refine tkN 3 ?_
   try simp only [Act.put, tk1, tk2, tk3]
   first | refine tkY 4 ?_ | refine tkN 4 ?_
   try simp only [Act.put, tk1, tk2, tk3]
   first | refine tkY 5 ?_ | refine tkN 5 ?_
   try simp only [Act.put, tk1, tk2, tk3]
   first | refine tkY 6 ?_ | refine tkN 6 ?_
   try simp only [Act.put, tk1, tk2, tk3]
   first | refine tkY 7 ?_ | refine tkN 7 ?_
   try simp only [Act.put, tk1, tk2, tk3]
   first | refine tkY 8 ?_ | refine tkN 8 ?_
   try simp only [Act.put, tk1, tk2, tk3]
   first | refine tkY 9 ?_ | refine tkN 9 ?_
   try simp only [Act.put, tk1, tk2, tk3]
   first | refine tkY 10 ?_ | refine tkN 10 ?_
   try simp only [Act.put, tk1, tk2, tk3]
   first | refine tkY 11 ?_ | refine tkN 11 ?_
   try simp only [Act.put, tk1, tk2, tk3]
   refine wpAnyH_ready (rs := [12]) (by kernel_rfl) (by simp) ?_
   refine AllReadyH.cons (by (simp only [List.getElem?_toArray, List.getElem?_cons_succ, List.getElem?_cons_zero]; rfl)) (fun K hK => ?_) AllReadyH.nil
   go_simp
   (go_at_call 96; (with_reducible refine HAP0.out.mono ?_); rintro e w12 ⟨rfl, hf12, hb12, hk12⟩; have hl12 := HLW.out.step (hk12 r (.inl hr)) (hk12 t (.inl ht)); have v0 := hl12.c0; have v2 := hl12.c2; have v4 := hl12.c4; simp only at v2 v4; rw [HGN.out] at v4; have v3 := hl12.c3; have fr3 := hl12.fr 3; have fr4 := hl12.fr 4; have HL12 := Aside0.mk hl12; have HG12 := Aside0.mk hf12; have HB12 := Aside0.mk hb12; have HK12 := Lib.hid hk12; clear hl12 hf12 hb12 hk12)
   (try dsimp only)
   refine hK.out _ _ ?_ (fun hHeld => ?_)
   ·first | exact ⟨d0, d2, d4⟩ | exact ⟨v0, v2, v4⟩
   clear hK K
   try simp only [Act.put, tk1, tk2, tk3]
   refine wpAnyH_done (by kernel_rfl) ?_ _
   have hwn : IntKind.u64.wrap (g.nx + 1) = g.nx + 1 := IntWalk.u64_in _ (by omega)
   go_wp2_with fail
   obtain ⟨w13, hw13⟩ : ∃ w13, w13 = (w12.setCell ⟨r, 3, none⟩ (.int .i64 1)).setCell ⟨r, 4, none⟩ (.int .u64 (g.nx + 1)) := ⟨_, rfl⟩
   rw [← hw13]
   have hl13 : RLog r t x cap rest { st := g8.st.set m 1, op := (m : Int), pg := 1, nx := g.nx + 1 } w13 := by rw [hw13]; exact (HL12.out.setPg 1).setNx (g.nx + 1)
   have hu13 : Upd (fun k => k = r) w12 w13 := by
    rw [hw13]
    exact (Upd.setCell w12 (p := ⟨r, 3, none⟩) (S := fun k => k = r) rfl _).trans (Upd.setCell _ (p := ⟨r, 4, none⟩) (S := fun k => k = r) rfl _) (fun k hk _ => hk)
   have hg13 := hSt _ _ w12 w13 r _ _ _ HG12.out (.inl hr) HL12.out.blk hl13.blk (by decide) hu13
   have z12 := hG.size HG12.out
   have bel13 : Below N0 w w13 := BLW.out.trans (((show Below N0 w11 w11.drew from (Below.refl _ _).drew).trans HB12.out).trans (hu13.below z12 (fun k hk => by rw [hk]; exact hNr)))
   have kep13 : Kept (fun k => K k ∧ k ≠ r ∧ k ≠ t) w w13 := fun k hk => (hu13.block k (hG.lt HG12.out k (.inl hk.1)) hk.2.1).trans ((HK12.out k (.inl hk.1)).trans (KPW.out k hk))
   have x813 := (hu13.block w.heap.size (hG.lt HG12.out _ (.inr ⟨Nat.le_refl _, by omega⟩)) (by have := HLT.out r hr; omega)).trans ((HK12.out w.heap.size (.inr ⟨Nat.le_refl _, by omega⟩)).trans X8W.out)
   have X813 := Lib.hid x813
   have HL13 := Aside0.mk hl13
   have HG13 := Aside0.mk hg13
   have BEL13 := Aside0.mk bel13
   have KEP13 := Lib.hid kep13
   clear hw13 hl13 hu13 hg13 bel13 kep13 x813 v0 v2 v3 v4 fr3 fr4 hHeld
   go_wp2_with fail
   have y2_ := HL13.out.c2
   have y3_ := HL13.out.c3
   refine wp_region_held_drew (S := (fun w' => w'.cell? ⟨r, 2, none⟩ = some (.int .i64 (m : Int)) ∧ w'.cell? ⟨r, 3, none⟩ = some (.int .i64 1))) (by kernel_rfl) ?_ (fun hHeld => ?_)
   ·first | go_keep | exact ⟨y2_, y3_⟩
   first | refine tkY 0 ?_ | refine tkN 0 ?_
   try simp only [Act.put, tk1, tk2, tk3]
   first | refine tkY 1 ?_ | refine tkN 1 ?_
   try simp only [Act.put, tk1, tk2, tk3]
   first | refine tkY 2 ?_ | refine tkN 2 ?_
   try simp only [Act.put, tk1, tk2, tk3]
   first | refine tkY 3 ?_ | refine tkN 3 ?_
   try simp only [Act.put, tk1, tk2, tk3]
   first | refine tkY 4 ?_ | refine tkN 4 ?_
   try simp only [Act.put, tk1, tk2, tk3]
   first | refine tkY 5 ?_ | refine tkN 5 ?_
   try simp only [Act.put, tk1, tk2, tk3]
   first | refine tkY 6 ?_ | refine tkN 6 ?_
   try simp only [Act.put, tk1, tk2, tk3]
   first | refine tkY 7 ?_ | refine tkN 7 ?_
   try simp only [Act.put, tk1, tk2, tk3]
   first | refine tkY 8 ?_ | refine tkN 8 ?_
   try simp only [Act.put, tk1, tk2, tk3]
   refine wpAnyH_ready (rs := [9]) (by kernel_rfl) (by simp) ?_
   refine AllReadyH.cons (by (simp only [List.getElem?_toArray, List.getElem?_cons_succ, List.getElem?_cons_zero]; rfl)) (fun K hK => ?_) AllReadyH.nil
   go_simp
   (try dsimp only)
   refine hK.out _ _ ?_ (fun hHeld => ?_)
   ·first | go_keep | exact ⟨y2_, y3_⟩
   clear hK K
   try simp only [Act.put, tk1, tk2, tk3]
   refine wpAnyH_ready (rs := [10]) (by kernel_rfl) (by simp) ?_
   refine AllReadyH.cons (by (simp only [List.getElem?_toArray, List.getElem?_cons_succ, List.getElem?_cons_zero]; rfl)) (fun K hK => ?_) AllReadyH.nil
   go_simp
   (try dsimp only)
   refine hK.out _ _ ?_ (fun hHeld => ?_)
   ·first | go_keep | exact ⟨y2_, y3_⟩
   clear hK K
   try simp only [Act.put, tk1, tk2, tk3]
   refine wpAnyH_done (by kernel_rfl) ?_ _
   obtain ⟨Y, hY⟩ : ∃ Y, Y = (w13.alloc (.cells #[.int .i64 (m : Int), .int .i64 1] TA)).drew := ⟨_, rfl⟩
   rw [← hY]
   have qY : Y.heap[w13.heap.size]? = some (.cells #[.int .i64 (m : Int), .int .i64 1] TA (0, 0)) := by rw [hY]; exact blk_new _ _
   have bY : Below w13.heap.size w13 Y := by rw [hY]; exact (below_alloc (Below.refl _ _) _).drew
   have bYd : Below w13.heap.size w13 Y.drew := bY.drew
   have sY : Y.heap.size = w13.heap.size + 1 := by rw [hY]; exact size_alloc _ _
   have fY := hG.keep HG13.out bYd
   have lY := HL13.out.below bY
   have zY0 := lY.c0
   have zY2 := lY.c2
   have zY3 := lY.c3
   have zY4 := lY.c4
   have belX : Below N0 w w13 := BEL13.out
   have kepX : Kept (fun k => K k ∧ k ≠ r ∧ k ≠ t) w w13 := KEP13.out
   have bNY : Below N0 w Y.drew := belX.trans (bYd.mono (by have := belX.size; omega))
   have happ := RAppend_G (kind := kind) (seq := g.nx) (l := l) (c := c) hG fY HSH.out (m : Int) 1 hkk hsq hBl (HCX.out _ bNY) (by rw [← HN.out]; exact hc) (by rw [← HN.out]; omega) hdd
   rw [← HN.out] at happ
   have HAPP := Lib.hid happ
   have LY := Aside0.mk lY
   have QY := Lib.hid qY
   have BY := Aside0.mk bY
   have HY := Lib.hid hY
   have hwx : IntKind.u64.wrap g.nx = g.nx := IntWalk.u64_in _ (by omega)
   have hwk : IntKind.i64.wrap (1 + (kk : Int)) = 1 + (kk : Int) := IntWalk.i64_in _ (by omega)
   have BX := Aside0.mk belX
   have KX := Lib.hid kepX
   have nq1 : ¬ w13.heap.size = r := by have := blt HL13.out.blk; omega
   have nq2 : ¬ r = w13.heap.size := fun e => nq1 e.symm
   have nq3 : ¬ w.heap.size = r := by have := HLT.out r hr; omega
   have nq4 : ¬ r = w.heap.size := fun e => nq3 e.symm
   have nq5 : ¬ w13.heap.size = w.heap.size := by have := blt X813.out; omega
   have nq6 : ¬ w.heap.size = w13.heap.size := fun e => nq5 e.symm
   clear qY bY bYd fY lY belX kepX bNY happ hY y2_ y3_ hHeld
   go_wp2_with fail
   refine wp_region_held_drew (S := (fun w' => w'.cell? ⟨r, 0, none⟩ = some (.pointer (some ⟨x, 0, none⟩)) ∧ w'.cell? ⟨r, 2, none⟩ = some (.int .i64 (m : Int)) ∧ w'.cell? ⟨r, 3, none⟩ = some (.int .i64 1) ∧ w'.cell? ⟨r, 4, none⟩ = some (.int .u64 (g.nx + 1)))) (by kernel_rfl) ?_ (fun hHeld => ?_)
   ·first | exact ⟨zY0, zY2, zY3, zY4⟩ | exact ⟨s0, s2, s3, s4⟩
   first | refine tkY 0 ?_ | refine tkN 0 ?_
   try simp only [Act.put, tk1, tk2, tk3]
   first | refine tkY 1 ?_ | refine tkN 1 ?_
   try simp only [Act.put, tk1, tk2, tk3]
   first | refine tkY 2 ?_ | refine tkN 2 ?_
   try simp only [Act.put, tk1, tk2, tk3]
   first | refine tkY 3 ?_ | refine tkN 3 ?_
   try simp only [Act.put, tk1, tk2, tk3]
   first | refine tkY 4 ?_ | refine tkN 4 ?_
   try simp only [Act.put, tk1, tk2, tk3]
   first | refine tkY 5 ?_ | refine tkN 5 ?_
   try simp only [Act.put, tk1, tk2, tk3]
   first | refine tkY 6 ?_ | refine tkN 6 ?_
   try simp only [Act.put, tk1, tk2, tk3]
   first | refine tkY 7 ?_ | refine tkN 7 ?_
   try simp only [Act.put, tk1, tk2, tk3]
   first | refine tkY 8 ?_ | refine tkN 8 ?_
   try simp only [Act.put, tk1, tk2, tk3]
   first | refine tkY 9 ?_ | refine tkN 9 ?_
   try simp only [Act.put, tk1, tk2, tk3]
   first | refine tkY 10 ?_ | refine tkN 10 ?_
   try simp only [Act.put, tk1, tk2, tk3]
   first | refine tkY 11 ?_ | refine tkN 11 ?_
   try simp only [Act.put, tk1, tk2, tk3]
   first | refine tkY 12 ?_ | refine tkN 12 ?_
   try simp only [Act.put, tk1, tk2, tk3]
   first | refine tkY 13 ?_ | refine tkN 13 ?_
   try simp only [Act.put, tk1, tk2, tk3]
   first | refine tkY 14 ?_ | refine tkN 14 ?_
   try simp only [Act.put, tk1, tk2, tk3]
   first | refine tkY 15 ?_ | refine tkN 15 ?_
   try simp only [Act.put, tk1, tk2, tk3]
   first | refine tkY 16 ?_ | refine tkN 16 ?_
   try simp only [Act.put, tk1, tk2, tk3]
   first | refine tkY 17 ?_ | refine tkN 17 ?_
   try simp only [Act.put, tk1, tk2, tk3]
   first | refine tkY 18 ?_ | refine tkN 18 ?_
   try simp only [Act.put, tk1, tk2, tk3]
   refine wpAnyH_ready (rs := [19]) (by kernel_rfl) (by simp) ?_
   refine AllReadyH.cons (by (simp only [List.getElem?_toArray, List.getElem?_cons_succ, List.getElem?_cons_zero]; rfl)) (fun K hK => ?_) AllReadyH.nil
   go_simp
   (go_at_call 96; (with_reducible refine HAPP.out.mono ?_); rintro e w10 ⟨rfl, hf10, hb10, hk10⟩; have hl10 : RLog r t x cap rest { st := g8.st.set m 1, op := (m : Int), pg := 1, nx := g.nx + 1 } w10 := LY.out.step (hk10 r (.inl (.inl hr))) (hk10 t (.inl (.inl ht))); have s0 := hl10.c0; have s2 := hl10.c2; have s3 := hl10.c3; have s4 := hl10.c4; have fr3 := hl10.fr 3; have x8 := (hk10 w.heap.size (.inl (.inr ⟨Nat.le_refl _, by omega⟩))).trans ((BY.out.block _ (blt X813.out)).trans X813.out); have x12 := (hk10 w13.heap.size (.inr ⟨Nat.le_refl _, by show _ < Y.heap.size; omega⟩)).trans QY.out; have m0 : w10.cell? ⟨w.heap.size, 0, none⟩ = some (.int .i64 0) := bcell x8 0; have m1 : w10.cell? ⟨w.heap.size, 1, none⟩ = some (.int .i64 0) := bcell x8 1; have mf : ∀ j, w10.frozen? ⟨w.heap.size, j, none⟩ = false := (fun j => bfrozen x8 j); have t0 : w10.cell? ⟨w13.heap.size, 0, none⟩ = some (.int .i64 (m : Int)) := bcell x12 0; have t1 : w10.cell? ⟨w13.heap.size, 1, none⟩ = some (.int .i64 1) := bcell x12 1; have HL10 := Aside0.mk hl10; have X810 := Lib.hid x8; have HG10 := Aside0.mk hf10; have HB10 := Aside0.mk (BX.out.trans ((show Below N0 w13 Y.drew from (BY.out.drew).mono (by have := BX.out.size; omega)).trans hb10)); have HKR := Lib.hid hk10; clear hl10 hf10 hb10 hk10 x8 x12)
   (try dsimp only)
   refine hK.out _ _ ?_ (fun hHeld => ?_)
   ·first | exact ⟨zY0, zY2, zY3, zY4⟩ | exact ⟨s0, s2, s3, s4⟩
   clear hK K
   try simp only [Act.put, tk1, tk2, tk3]
   refine wpAnyH_done (by kernel_rfl) ?_ _
   go_wp2_with fail
   have HK10 := Lib.hid (show Kept (fun k => K k ∧ k ≠ r ∧ k ≠ t) w w10 from fun k hk => (HKR.out k (.inl (.inl hk.1))).trans ((BY.out.block k (by have := HLT.out k hk.1; have := BX.out.size; omega)).trans (KX.out k hk)))
   have hl11 := HL10.out.setPg (1 + (kk : Int))
   have hu11 := Upd.setCell w10 (p := ⟨r, 3, none⟩) (S := fun k => k = r) rfl (.int .i64 (1 + (kk : Int)))
   have hf11 := hSt _ _ w10 _ r _ _ _ HG10.out (.inl (.inl hr)) HL10.out.blk hl11.blk (by decide) hu11
   have s10' := hG.size HG10.out
   have hb11 := HB10.out.trans (hu11.below s10' (fun k hk => by rw [hk]; exact hNr))
   have x811 := (hu11.block w.heap.size (blt X810.out) (fun e => nq3 e)).trans X810.out
   have hk11 : Kept (fun k => K k ∧ k ≠ r ∧ k ≠ t) w (w10.setCell ⟨r, 3, none⟩ (.int .i64 (1 + (kk : Int)))) := fun k hk => (hu11.block k (hG.lt HG10.out k (.inl (.inl hk.1))) hk.2.1).trans (HK10.out k hk)
   obtain ⟨w9, hw9⟩ : ∃ w9, w9 = ((w10.setCell ⟨r, 3, none⟩ (.int .i64 (1 + (kk : Int)))).setCell ⟨w.heap.size, 0, none⟩ (.int .i64 (m : Int))).setCell ⟨w.heap.size, 1, none⟩ (.int .i64 1) := ⟨_, rfl⟩
   rw [← hw9]
   obtain ⟨r8, hf9, hl9, hb9, hk9⟩ := rput_end hG hSt hf11 hl11 hr ht HLT.out hsz (Nat.le_refl _) x811 (.inl (.inr ⟨Nat.le_refl _, by omega⟩)) (fun k hk => .inl (.inl hk)) hb11 hk11 hw9
   have r0 := bcell r8 0
   have r1 := bcell r8 1
   exact bodyPost_ret (v := .tuple #[.agg #[.int .i64 (m : Int), .int .i64 1], .int .i64 0]) (by simp [results, Tryz.results54, go_sem, r0, r1]) rfl ⟨rfl, hf9, by rw [← HKP.out, ← HG8E.out]; exact hl9, hb9, hk9⟩
set_option maxHeartbeats 4000000 in
set_option maxRecDepth 100000 in
theorem RPut_turnN (hG : RefFrame N0 x s G) (hSt : ∀ ps, Stays (fun K w => G K ps w)) (h : G K ps w) (hl : RLog r t x cap rest g w) (hr : K r) (ht : K t) (hNr : N0 ≤ r) (hNt : N0 ≤ t) (hsh : ShapeOk s) (hc : l.length ≤ c) (hm : l.length ≤ 4096) (hk : kind ≠ 1) (hb1 : (kpg s l.length : Int) + 1 ≤ s.2.1) (ho : 0 ≤ g.op) (hp0 : 0 ≤ g.pg) (hp1 : g.pg ≤ 100000) (hb2 : s.2.1 < g.pg + (kpg s l.length : Int)) (hsl : g.st.length < 1000) (hol : g.op < (g.st.length : Int)) (hcn : ¬ (cnt 0 g.st : Int) < need) (hkk : KindOk kind) (hBl : Byt l) (hCx : ∀ X, Below N0 w X → kB.C X A l.length l) (hd0 : ps.length < 900000) {m : Nat} (hdd : (appP s ps (m : Int) 0 0 (rec 1 g.nx [])).length < 900000) (hm0 : (rsealG g).st[m]? = some 0) (hmf : ∀ i, i < m → (rsealG g).st[i]? ≠ some 0) (hsq : SeqOk g.nx) (hn1 : 0 ≤ g.nx) (hn2 : g.nx < 1000000) : Calls Tryz.prog 54 #[.pointer (some ⟨r, 0, none⟩), .int .u8 kind, .slice A l.length c, .int .i64 need] w (RPutPost N0 r t x cap rest G K w ((m : Int), 1) 0 (appP s (appP s ps (m : Int) 0 0 (rec 1 g.nx [])) (m : Int) 1 l.length (rec kind g.nx l)) { st := (rsealG g).st.set m 1, op := (m : Int), pg := 1 + (kpg s l.length : Int), nx := g.nx + 1 }) := by
 obtain ⟨n, hn⟩ : ∃ n, n = l.length := ⟨_, rfl⟩
 have hsz := hG.size h
 have hlt := fun k hk => hG.lt h k hk
 obtain ⟨okx, hX⟩ := hG.ref h
 obtain ⟨vx, hxb, _⟩ := hX.blk
 obtain ⟨W0, hW0⟩ : ∃ W0, W0 = w.alloc (.cells #[.int .i64 0, .int .i64 0] TA) := ⟨_, rfl⟩
 have wb0 : Below w.heap.size w W0 := by rw [hW0]; exact below_alloc (Below.refl _ _) _
 have wz0 : W0.heap.size = w.heap.size + 1 := by rw [hW0]; exact size_alloc _ _
 have hxb0 := (wb0.block _ (blt hxb)).trans hxb
 have u0 : W0.cell? ⟨x, 0, none⟩ = some (.int .i64 s.1) := bcell hxb0 0
 have u1 : W0.cell? ⟨x, 1, none⟩ = some (.int .i64 s.2.1) := bcell hxb0 1
 have u2 : W0.cell? ⟨x, 2, none⟩ = some (.int .i64 s.2.2) := bcell hxb0 2
 have k0 := (hl.below wb0).c0
 obtain ⟨W, hW⟩ : ∃ W, W = W0.alloc (.cells #[.int .i64 s.1, .int .i64 s.2.1, .int .i64 s.2.2] TSh) := ⟨_, rfl⟩
 obtain ⟨q8, q10⟩ := pair_blk w (.cells #[.int .i64 0, .int .i64 0] TA) (.cells #[.int .i64 s.1, .int .i64 s.2.1, .int .i64 s.2.2] TSh)
 rw [← hW0, ← hW] at q8 q10
 have y2 : W.cell? ⟨w.heap.size + 1, 2, none⟩ = some (.int .i64 s.2.2) := bcell q10 2
 have wb : Below w.heap.size w W := by rw [hW]; exact below_alloc wb0 _
 have wsz : W.heap.size = w.heap.size + 2 := by rw [hW, size_alloc, wz0]
 have hf1 := hG.keep h wb
 have hl1 := hl.below wb
 rw [← hn] at hc hm
 obtain ⟨kk, hkp⟩ : ∃ kk, kk = kpg s n := ⟨_, rfl⟩
 have hkb : kk ≤ 257 := by rw [hkp]; exact (kpg_bd hsh hm).2
 have hpg : ∀ X : World, Calls Tryz.prog 95 #[.int .i64 (n : Int), .int .i64 s.2.2] X fun e w' => e = .returned (.int .i64 (kk : Int)) ∧ Below X.heap.size X w' := fun X => by
  rw [hkp]
  exact RPages_ok n s hsh hm X
 have s10 := hsh.b0
 have s11 := hsh.b1
 have HPG := Lib.hid hpg
 have HG1 := Aside0.mk hf1
 have HL1 := Aside0.mk hl1
 have HW := Lib.hid hW
 have HW0 := Lib.hid hW0
 have Q8 := Lib.hid q8
 have Q10 := Lib.hid q10
 have WB := Aside0.mk wb
 have HN := Lib.hid hn
 have HKP := Lib.hid hkp
 have HLT := Lib.hid hlt
 have e_n : decide ((n : Int) > 4096) = false := decide_eq_false (by omega)
 have kw1 : IntKind.i64.wrap ((kk : Int) + 1) = (kk : Int) + 1 := IntWalk.i64_in _ (by omega)
 rw [← hn]
 clear h hl hn hlt hf1 hl1 hX hxb hxb0 wb0 hW hW0 q8 q10 wb hkp hpg
 rw [← HN.out, ← HKP.out] at hb1
 have e_b : decide ((kk : Int) + 1 > s.2.1) = false := decide_eq_false (by omega)
 have e_k : (kind == 1) = false := by simpa using hk
 clear hk
 rw [← HN.out, ← HKP.out] at hb2
 have e_o : decide (g.op < 0) = false := decide_eq_false (by omega)
 have kw2 : IntKind.i64.wrap (g.pg + (kk : Int)) = g.pg + (kk : Int) := IntWalk.i64_in _ (by omega)
 have e_p : decide (g.pg + (kk : Int) > s.2.1) = true := decide_eq_true (by omega)
 have HOL := Lib.hid hol
 have HM0 := Lib.hid hm0
 have HMF := Lib.hid hmf
 obtain ⟨nl, hnl⟩ : ∃ nl, nl = g.st.length := ⟨_, rfl⟩
 have hnl2 : nl < 1000 := by omega
 have HNL := Lib.hid hnl
 have BBW := Aside0.mk WB.out
 clear hol hm0 hmf hnl
 obtain ⟨c0, hc0⟩ : ∃ c0, c0 = cnt 0 g.st := ⟨_, rfl⟩
 rw [← hc0] at hcn
 have HC0 := Lib.hid hc0
 have HSL := Lib.hid hsl
 clear hc0 hsl
 have e_c : decide ((c0 : Int) < need) = false := decide_eq_false hcn
 have HCX := Lib.hid hCx
 have HSH := Lib.hid hsh
 clear hCx
 go_enter Tryz.func54, Tryz.ntmps54
 go_wp2_with (first
  | (rw [← HW0.out])
  | (rw [← HW.out])
  | (go_at_call 95; (with_reducible refine (HPG.out _).mono ?_); rintro e w4 ⟨rfl, hb4⟩; have HB4 := Aside0.mk hb4; have x8 := (hb4.block _ (blt Q8.out)).trans Q8.out; have x10 := (hb4.block _ (blt Q10.out)).trans Q10.out; have hl4 := HL1.out.below hb4; have k04 := hl4.c0; have k14 := hl4.c1; have k24 := hl4.c2; have k34 := hl4.c3; have m0 : w4.cell? ⟨w.heap.size, 0, none⟩ = some (.int .i64 0) := bcell x8 0; have m1 : w4.cell? ⟨w.heap.size, 1, none⟩ = some (.int .i64 0) := bcell x8 1; have mf : ∀ j, w4.frozen? ⟨w.heap.size, j, none⟩ = false := (fun j => bfrozen x8 j); have y1 : w4.cell? ⟨w.heap.size + 1, 1, none⟩ = some (.int .i64 s.2.1) := bcell x10 1; have X84 := Lib.hid x8; have X104 := Lib.hid x10; have HL4 := Aside0.mk hl4; have HG4 := Aside0.mk (hG.below HG1.out hb4); clear hb4 x8 x10 hl4)
  | fail)
 have e_u : decide ((n : Int) > 4096) = false := e_n
 refine wp_region_held_drew (S := (fun w' => w'.cell? ⟨r, 2, none⟩ = some (.int .i64 g.op) ∧ w'.cell? ⟨r, 3, none⟩ = some (.int .i64 g.pg) ∧ w'.cell? ⟨w.heap.size + 1, 1, none⟩ = some (.int .i64 s.2.1))) (by kernel_rfl) ?_ (fun hHeld => ?_)
 ·first | go_keep | exact ⟨k24, k34, y1⟩
 first | refine tkY 0 ?_ | refine tkN 0 ?_
 try simp only [Act.put, tk1, tk2, tk3]
 first | refine tkY 1 ?_ | refine tkN 1 ?_
 try simp only [Act.put, tk1, tk2, tk3]
 first | refine tkY 2 ?_ | refine tkN 2 ?_
 try simp only [Act.put, tk1, tk2, tk3]
 first | refine tkY 3 ?_ | refine tkN 3 ?_
 try simp only [Act.put, tk1, tk2, tk3]
 first | refine tkY 4 ?_ | refine tkN 4 ?_
 try simp only [Act.put, tk1, tk2, tk3]
 first | refine tkY 5 ?_ | refine tkN 5 ?_
 try simp only [Act.put, tk1, tk2, tk3]
 first | refine tkY 6 ?_ | refine tkN 6 ?_
 try simp only [Act.put, tk1, tk2, tk3]
 first | refine tkY 7 ?_ | refine tkN 7 ?_
 try simp only [Act.put, tk1, tk2, tk3]
 first | refine tkY 8 ?_ | refine tkN 8 ?_
 try simp only [Act.put, tk1, tk2, tk3]
 first | refine tkY 9 ?_ | refine tkN 9 ?_
 try simp only [Act.put, tk1, tk2, tk3]
 first | refine tkY 10 ?_ | refine tkN 10 ?_
 try simp only [Act.put, tk1, tk2, tk3]
 first | refine tkY 11 ?_ | refine tkN 11 ?_
 try simp only [Act.put, tk1, tk2, tk3]
 first | refine tkY 12 ?_ | refine tkN 12 ?_
 try simp only [Act.put, tk1, tk2, tk3]
 first | refine tkY 13 ?_ | refine tkN 13 ?_
 try simp only [Act.put, tk1, tk2, tk3]
 first | refine tkY 14 ?_ | refine tkN 14 ?_
 try simp only [Act.put, tk1, tk2, tk3]
 first | refine tkY 15 ?_ | refine tkN 15 ?_
 try simp only [Act.put, tk1, tk2, tk3]
 refine wpAnyH_done (by kernel_rfl) ?_ _
 obtain ⟨w5, hw5⟩ : ∃ w5, w5 = w4.drew := ⟨_, rfl⟩
 rw [← hw5]
 have b5 : Below w4.heap.size w4 w5 := by rw [hw5]; exact (Below.refl _ _).drew
 have HB5 := Aside0.mk (HB4.out.trans (b5.mono HB4.out.size))
 have hl5 := HL4.out.below b5
 have k05 := hl5.c0
 have k15 := hl5.c1
 have k25 := hl5.c2
 have k35 := hl5.c3
 have k45 := hl5.c4
 have x85 := (b5.block _ (blt X84.out)).trans X84.out
 have HG5 := Aside0.mk (hG.below HG4.out b5)
 have HL5 := Aside0.mk hl5
 have X85 := Lib.hid x85
 clear hw5 b5 hl5 x85
 go_wp2_with (first
  | (rw [← HW0.out])
  | (rw [← HW.out])
  | (go_at_call 38; (have hcc := RCount_any HL5.out HSL.out 0); (rw [← HC0.out] at hcc); (with_reducible refine hcc.mono ?_); clear hcc; rintro e w7 ⟨rfl, hb7⟩; have HB7 := Aside0.mk (HB5.out.trans (hb7.mono HB5.out.size)); have x8 := (hb7.block _ (blt X85.out)).trans X85.out; have X87 := Lib.hid x8; have n0 : w7.cell? ⟨w.heap.size, 0, none⟩ = some (.int .i64 0) := bcell x8 0; have n1 : w7.cell? ⟨w.heap.size, 1, none⟩ = some (.int .i64 0) := bcell x8 1; have nf : ∀ j, w7.frozen? ⟨w.heap.size, j, none⟩ = false := (fun j => bfrozen x8 j); have HL7 := Aside0.mk (HL5.out.below hb7); have HG7 := Aside0.mk (hG.below HG5.out hb7); clear hb7 x8)
  | (go_at_call 56; (have hse := RSeal_G hG hSt HG7.out HL7.out (.inl hr) (.inl ht) hNr hNt HOL.out); (with_reducible refine hse.mono ?_); clear hse; rintro e w8 ⟨rfl, hf8, hl8, hb8, hk8⟩; have bel8 : Below N0 w w8 := (((WB.out.trans ((HB7.out).mono (by omega))).mono hsz)).trans hb8; have kep8 : Kept (fun k => K k ∧ k ≠ r ∧ k ≠ t) w w8 := (fun k hk => (hk8 k ⟨.inl hk.1, hk.2⟩).trans ((show Kept (fun k => K k ∧ k ≠ r ∧ k ≠ t) w w7 from fun k hk => ((BBW.out.trans (HB7.out.mono BBW.out.size)).block k (HLT.out k hk.1))) k hk)); have x8 := (hk8 w.heap.size ⟨.inr ⟨Nat.le_refl _, by omega⟩, (by have := HLT.out r hr; omega), (by have := HLT.out t ht; omega)⟩).trans X87.out; (obtain ⟨g8, hg8⟩ : ∃ g8, g8 = rsealG g := ⟨_, rfl⟩); (rw [← hg8] at hl8); (have hgl : g8.st.length = nl := (by rw [hg8, rseal_len]; exact HNL.out.symm)); (have hgo : g8.op = -1 := (by rw [hg8]; rfl)); have k18 := hl8.c1; (rw [hgl] at k18); have X88 := Lib.hid x8; have HG8 := Aside0.mk hf8; have HL8 := Aside0.mk hl8; have BEL8 := Aside0.mk bel8; have KEP8 := Lib.hid kep8; have HG8E := Lib.hid hg8; have HGL := Lib.hid hgl; have HGO := Lib.hid hgo; clear hf8 hl8 hb8 hk8 bel8 kep8 x8 hg8 hgl hgo)
  | fail)
 go_loopw [12, 13, 69] (fun v12 v13 v69 wr => ∃ k : Nat, k ≤ nl ∧ v69 = .int .i64 (k : Int) ∧ RLog r t x cap rest (if k ≤ m then g8 else { g8 with op := (m : Int) }) wr ∧ Upd (fun k => k = r) w8 wr) (fun _ _ v69 _ => nl - (intOf v69).toNat)
 case atStart => exact ⟨0, Nat.zero_le _, rfl, by rw [if_pos (Nat.zero_le _)]; exact HL8.out, Upd.ofBelow (Below.refl _ _) _⟩
 case round =>
  obtain ⟨k, hk, rfl, hlr, hur⟩ := hrel
  have hmg : g8.st[m]? = some 0 := by rw [HG8E.out]; exact HM0.out
  have hml : m < nl := by have := (List.getElem?_eq_some_iff.1 hmg).1; have := HGL.out; omega
  have k0' : (0 : Int) ≤ (k : Int) := by omega
  have e_m : decide ((m : Int) < 0) = false := decide_eq_false (by omega)
  by_cases hlt : k < nl
  ·have k1' : (k : Int) < (nl : Int) := by omega
   obtain ⟨y, hy⟩ : ∃ y, g8.st[k]? = some y := ⟨_, List.getElem?_eq_getElem (by have := HGL.out; omega)⟩
   by_cases hkm : k ≤ m
   ·rw [if_pos hkm] at hlr
    have c5 := hlr.cst hy
    have c2 := hlr.c2
    rw [HGO.out] at c2
    have f2 := hlr.fr 2
    have HLR := Aside0.mk hlr
    have HUR := Aside0.mk hur
    by_cases hkm2 : k = m
    ·have hy0 : y = 0 := by rw [hkm2, hmg] at hy; exact (Option.some.inj hy).symm
     rw [hy0] at c5
     have HKM := Lib.hid hkm2
     clear hlr hur hy hy0 hkm2 hmg
     go_wp2
     exact ⟨⟨k + 1, by omega, by go_num, by rw [if_neg (by have := HKM.out; omega), ← HKM.out]; exact HLR.out.setOp (k : Int), HUR.out.trans (Upd.setCell wr (p := ⟨r, 2, none⟩) (S := fun k => k = r) rfl _) (fun k hk _ => hk)⟩, by simp [intOf]; omega⟩
    ·have hy0 : y ≠ 0 := fun e => by rw [e] at hy; exact HMF.out k (by omega) (by rw [← HG8E.out]; exact hy)
     have e1 : (y == 0) = false := by simpa using hy0
     have HKM := Lib.hid hkm2
     clear hlr hur hy hy0 hkm2 hmg
     go_wp2
     exact ⟨⟨k + 1, by omega, by go_num, by rw [if_pos (by have := HKM.out; omega)]; exact HLR.out, HUR.out⟩, by simp [intOf]; omega⟩
   ·rw [if_neg hkm] at hlr
    have c5 := hlr.cst hy
    have c2 := hlr.c2
    simp only at c2
    have HLR := Aside0.mk hlr
    have HUR := Aside0.mk hur
    by_cases hy0 : y = 0
    ·rw [hy0] at c5
     clear hlr hur hy hy0 hmg
     go_wp2
     exact ⟨⟨k + 1, by omega, by go_num, by rw [if_neg (by omega)]; exact HLR.out, HUR.out⟩, by simp [intOf]; omega⟩
    ·have e1 : (y == 0) = false := by simpa using hy0
     clear hlr hur hy hy0 hmg
     go_wp2
     exact ⟨⟨k + 1, by omega, by go_num, by rw [if_neg (by omega)]; exact HLR.out, HUR.out⟩, by simp [intOf]; omega⟩
  ·obtain rfl : k = nl := by omega
   rw [if_neg (by omega)] at hlr
   have c1 := hlr.c1
   simp only [HGL.out] at c1
   have c2 := hlr.c2
   simp only at c2
   have c5 := hlr.cst (i := m) (y := 0) hmg
   have f5 := hlr.ft m
   have q0 : (0 : Int) ≤ (m : Int) := by omega
   have q1 : (m : Int) < (k : Int) := by omega
   have n1 := hlr.ne
   have n2 : ¬ t = r := fun e => n1 e.symm
   have HMG := Lib.hid hmg
   have HLR := Aside0.mk hlr
   have HUR := Aside0.mk hur
   clear hlr hur hmg
   go_wp2_with fail
   go_region_held3 (fun w' => w'.cell? ⟨r, 1, none⟩ = some (.slice (some ⟨t, 0, none⟩) k cap) ∧ w'.cell? ⟨r, 2, none⟩ = some (.int .i64 (m : Int))) (first | go_keep | exact ⟨c1, c2⟩) (fail)
   obtain ⟨w11, hw11⟩ : ∃ w11, w11 = (wr.setCell ⟨t, m, none⟩ (.int .i64 1)).drew := ⟨_, rfl⟩
   rw [← hw11]
   have hfr := hSt _ _ w8 wr r _ _ _ HG8.out (.inl hr) HL8.out.blk HLR.out.blk (by decide) HUR.out
   have hlz := HLR.out.setSt (i := m) (by show m < g8.st.length; have := HGL.out; omega) 1
   have hlw : RLog r t x cap rest { st := g8.st.set m 1, op := (m : Int), pg := g8.pg, nx := g8.nx } w11 := by rw [hw11]; exact ⟨hlz.blk, hlz.row⟩
   have huw : Upd (fun k => k = t) wr w11 := by
    have := Upd.setCell wr (p := ⟨t, m, none⟩) (S := fun k => k = t) rfl (.int .i64 1)
    rw [hw11]
    exact ⟨this.os, this.tape, this.output, this.size, this.block⟩
   have hfw := hSt _ _ wr w11 t _ _ _ hfr (.inl ht) HLR.out.row hlw.row (by decide) huw
   have zr := hG.size hfr
   have z8 := hG.size HG8.out
   have blw : Below N0 w w11 := BEL8.out.trans ((HUR.out.below z8 (fun k hk => by rw [hk]; exact hNr)).trans (huw.below zr (fun k hk => by rw [hk]; exact hNt)))
   have hgn : g8.nx = g.nx := by rw [HG8E.out]; rfl
   have kpw : Kept (fun k => K k ∧ k ≠ r ∧ k ≠ t) w w11 := fun k hk => (huw.block k (hG.lt hfr k (.inl hk.1)) hk.2.2).trans ((HUR.out.block k (hG.lt HG8.out k (.inl hk.1)) hk.2.1).trans (KEP8.out k hk))
   have x8w := (huw.block w.heap.size (by have := hG.lt hfr w.heap.size (.inr ⟨Nat.le_refl _, by omega⟩); omega) (by have := HLT.out t ht; omega)).trans ((HUR.out.block w.heap.size (blt X88.out) (by have := HLT.out r hr; omega)).trans X88.out)
   have d0 := hlw.c0
   have d2 := hlw.c2
   have d4 := hlw.c4
   simp only at d2 d4
   rw [hgn] at d4
   have hap0 := RAppend_G (kind := 1) (seq := g.nx) (l := []) (c := 0) (A := none) hG (hG.below hfw (Below.refl _ w11).drew) HSH.out (m : Int) 0 one_kind hsq Byt.nil (Kd.C_nil kB _) (Nat.le_refl _) (by simp) hd0
   rw [List.length_nil] at hap0
   have HAP0 := Lib.hid hap0
   have HLW := Aside0.mk hlw
   have BLW := Aside0.mk blw
   have KPW := Lib.hid kpw
   have X8W := Lib.hid x8w
   have HGN := Lib.hid hgn
   clear hw11 hfr hlz hlw huw hfw blw hgn kpw x8w hap0 c1 c2 c5 f5
   go_wp2_with fail
   refine wp_region_held_drew (S := (fun w' => w'.cell? ⟨r, 0, none⟩ = some (.pointer (some ⟨x, 0, none⟩)) ∧ w'.cell? ⟨r, 2, none⟩ = some (.int .i64 (m : Int)) ∧ w'.cell? ⟨r, 4, none⟩ = some (.int .u64 g.nx))) (by kernel_rfl) ?_ (fun hHeld => ?_)
   ·first | exact ⟨d0, d2, d4⟩ | exact ⟨v0, v2, v4⟩
   first | refine tkY 0 ?_ | refine tkN 0 ?_
   try simp only [Act.put, tk1, tk2, tk3]
   first | refine tkY 1 ?_ | refine tkN 1 ?_
   try simp only [Act.put, tk1, tk2, tk3]
   first | refine tkY 2 ?_ | refine tkN 2 ?_
   try simp only [Act.put, tk1, tk2, tk3]
   first | refine tkY 3 ?_ | refine tkN 3 ?_
   try simp only [Act.put, tk1, tk2, tk3]
   first | refine tkY 4 ?_ | refine tkN 4 ?_
   try simp only [Act.put, tk1, tk2, tk3]
   first | refine tkY 5 ?_ | refine tkN 5 ?_
   try simp only [Act.put, tk1, tk2, tk3]
   first | refine tkY 6 ?_ | refine tkN 6 ?_
   try simp only [Act.put, tk1, tk2, tk3]
   first | refine tkY 7 ?_ | refine tkN 7 ?_
   try simp only [Act.put, tk1, tk2, tk3]
   first | refine tkY 8 ?_ | refine tkN 8 ?_
   try simp only [Act.put, tk1, tk2, tk3]
   first | refine tkY 9 ?_ | refine tkN 9 ?_
   try simp only [Act.put, tk1, tk2, tk3]
   first | refine tkY 10 ?_ | refine tkN 10 ?_
   try simp only [Act.put, tk1, tk2, tk3]
   first | refine tkY 11 ?_ | refine tkN 11 ?_
   try simp only [Act.put, tk1, tk2, tk3]
   refine wpAnyH_ready (rs := [12]) (by kernel_rfl) (by simp) ?_
   refine AllReadyH.cons (by (simp only [List.getElem?_toArray, List.getElem?_cons_succ, List.getElem?_cons_zero]; rfl)) (fun K hK => ?_) AllReadyH.nil
   go_simp
   (go_at_call 96; (with_reducible refine HAP0.out.mono ?_); rintro e w12 ⟨rfl, hf12, hb12, hk12⟩; have hl12 := HLW.out.step (hk12 r (.inl hr)) (hk12 t (.inl ht)); have v0 := hl12.c0; have v2 := hl12.c2; have v4 := hl12.c4; simp only at v2 v4; rw [HGN.out] at v4; have v3 := hl12.c3; have fr3 := hl12.fr 3; have fr4 := hl12.fr 4; have HL12 := Aside0.mk hl12; have HG12 := Aside0.mk hf12; have HB12 := Aside0.mk hb12; have HK12 := Lib.hid hk12; clear hl12 hf12 hb12 hk12)
   (try dsimp only)
   refine hK.out _ _ ?_ (fun hHeld => ?_)
   ·first | exact ⟨d0, d2, d4⟩ | exact ⟨v0, v2, v4⟩
   clear hK K
   try simp only [Act.put, tk1, tk2, tk3]
   refine wpAnyH_done (by kernel_rfl) ?_ _
   have hwn : IntKind.u64.wrap (g.nx + 1) = g.nx + 1 := IntWalk.u64_in _ (by omega)
   go_wp2_with fail
   obtain ⟨w13, hw13⟩ : ∃ w13, w13 = (w12.setCell ⟨r, 3, none⟩ (.int .i64 1)).setCell ⟨r, 4, none⟩ (.int .u64 (g.nx + 1)) := ⟨_, rfl⟩
   rw [← hw13]
   have hl13 : RLog r t x cap rest { st := g8.st.set m 1, op := (m : Int), pg := 1, nx := g.nx + 1 } w13 := by rw [hw13]; exact (HL12.out.setPg 1).setNx (g.nx + 1)
   have hu13 : Upd (fun k => k = r) w12 w13 := by
    rw [hw13]
    exact (Upd.setCell w12 (p := ⟨r, 3, none⟩) (S := fun k => k = r) rfl _).trans (Upd.setCell _ (p := ⟨r, 4, none⟩) (S := fun k => k = r) rfl _) (fun k hk _ => hk)
   have hg13 := hSt _ _ w12 w13 r _ _ _ HG12.out (.inl hr) HL12.out.blk hl13.blk (by decide) hu13
   have z12 := hG.size HG12.out
   have bel13 : Below N0 w w13 := BLW.out.trans (((show Below N0 w11 w11.drew from (Below.refl _ _).drew).trans HB12.out).trans (hu13.below z12 (fun k hk => by rw [hk]; exact hNr)))
   have kep13 : Kept (fun k => K k ∧ k ≠ r ∧ k ≠ t) w w13 := fun k hk => (hu13.block k (hG.lt HG12.out k (.inl hk.1)) hk.2.1).trans ((HK12.out k (.inl hk.1)).trans (KPW.out k hk))
   have x813 := (hu13.block w.heap.size (hG.lt HG12.out _ (.inr ⟨Nat.le_refl _, by omega⟩)) (by have := HLT.out r hr; omega)).trans ((HK12.out w.heap.size (.inr ⟨Nat.le_refl _, by omega⟩)).trans X8W.out)
   have X813 := Lib.hid x813
   have HL13 := Aside0.mk hl13
   have HG13 := Aside0.mk hg13
   have BEL13 := Aside0.mk bel13
   have KEP13 := Lib.hid kep13
   clear hw13 hl13 hu13 hg13 bel13 kep13 x813 v0 v2 v3 v4 fr3 fr4 hHeld
   go_wp2_with fail
   have y2_ := HL13.out.c2
   have y3_ := HL13.out.c3
   refine wp_region_held_drew (S := (fun w' => w'.cell? ⟨r, 2, none⟩ = some (.int .i64 (m : Int)) ∧ w'.cell? ⟨r, 3, none⟩ = some (.int .i64 1))) (by kernel_rfl) ?_ (fun hHeld => ?_)
   ·first | go_keep | exact ⟨y2_, y3_⟩
   first | refine tkY 0 ?_ | refine tkN 0 ?_
   try simp only [Act.put, tk1, tk2, tk3]
   first | refine tkY 1 ?_ | refine tkN 1 ?_
   try simp only [Act.put, tk1, tk2, tk3]
   first | refine tkY 2 ?_ | refine tkN 2 ?_
   try simp only [Act.put, tk1, tk2, tk3]
   first | refine tkY 3 ?_ | refine tkN 3 ?_
   try simp only [Act.put, tk1, tk2, tk3]
   first | refine tkY 4 ?_ | refine tkN 4 ?_
   try simp only [Act.put, tk1, tk2, tk3]
   first | refine tkY 5 ?_ | refine tkN 5 ?_
   try simp only [Act.put, tk1, tk2, tk3]
   first | refine tkY 6 ?_ | refine tkN 6 ?_
   try simp only [Act.put, tk1, tk2, tk3]
   first | refine tkY 7 ?_ | refine tkN 7 ?_
   try simp only [Act.put, tk1, tk2, tk3]
   first | refine tkY 8 ?_ | refine tkN 8 ?_
   try simp only [Act.put, tk1, tk2, tk3]
   refine wpAnyH_ready (rs := [9]) (by kernel_rfl) (by simp) ?_
   refine AllReadyH.cons (by (simp only [List.getElem?_toArray, List.getElem?_cons_succ, List.getElem?_cons_zero]; rfl)) (fun K hK => ?_) AllReadyH.nil
   go_simp
   (try dsimp only)
   refine hK.out _ _ ?_ (fun hHeld => ?_)
   ·first | go_keep | exact ⟨y2_, y3_⟩
   clear hK K
   try simp only [Act.put, tk1, tk2, tk3]
   refine wpAnyH_ready (rs := [10]) (by kernel_rfl) (by simp) ?_
   refine AllReadyH.cons (by (simp only [List.getElem?_toArray, List.getElem?_cons_succ, List.getElem?_cons_zero]; rfl)) (fun K hK => ?_) AllReadyH.nil
   go_simp
   (try dsimp only)
   refine hK.out _ _ ?_ (fun hHeld => ?_)
   ·first | go_keep | exact ⟨y2_, y3_⟩
   clear hK K
   try simp only [Act.put, tk1, tk2, tk3]
   refine wpAnyH_done (by kernel_rfl) ?_ _
   obtain ⟨Y, hY⟩ : ∃ Y, Y = (w13.alloc (.cells #[.int .i64 (m : Int), .int .i64 1] TA)).drew := ⟨_, rfl⟩
   rw [← hY]
   have qY : Y.heap[w13.heap.size]? = some (.cells #[.int .i64 (m : Int), .int .i64 1] TA (0, 0)) := by rw [hY]; exact blk_new _ _
   have bY : Below w13.heap.size w13 Y := by rw [hY]; exact (below_alloc (Below.refl _ _) _).drew
   have bYd : Below w13.heap.size w13 Y.drew := bY.drew
   have sY : Y.heap.size = w13.heap.size + 1 := by rw [hY]; exact size_alloc _ _
   have fY := hG.keep HG13.out bYd
   have lY := HL13.out.below bY
   have zY0 := lY.c0
   have zY2 := lY.c2
   have zY3 := lY.c3
   have zY4 := lY.c4
   have belX : Below N0 w w13 := BEL13.out
   have kepX : Kept (fun k => K k ∧ k ≠ r ∧ k ≠ t) w w13 := KEP13.out
   have bNY : Below N0 w Y.drew := belX.trans (bYd.mono (by have := belX.size; omega))
   have happ := RAppend_G (kind := kind) (seq := g.nx) (l := l) (c := c) hG fY HSH.out (m : Int) 1 hkk hsq hBl (HCX.out _ bNY) (by rw [← HN.out]; exact hc) (by rw [← HN.out]; omega) hdd
   rw [← HN.out] at happ
   have HAPP := Lib.hid happ
   have LY := Aside0.mk lY
   have QY := Lib.hid qY
   have BY := Aside0.mk bY
   have HY := Lib.hid hY
   have hwx : IntKind.u64.wrap g.nx = g.nx := IntWalk.u64_in _ (by omega)
   have hwk : IntKind.i64.wrap (1 + (kk : Int)) = 1 + (kk : Int) := IntWalk.i64_in _ (by omega)
   have BX := Aside0.mk belX
   have KX := Lib.hid kepX
   have nq1 : ¬ w13.heap.size = r := by have := blt HL13.out.blk; omega
   have nq2 : ¬ r = w13.heap.size := fun e => nq1 e.symm
   have nq3 : ¬ w.heap.size = r := by have := HLT.out r hr; omega
   have nq4 : ¬ r = w.heap.size := fun e => nq3 e.symm
   have nq5 : ¬ w13.heap.size = w.heap.size := by have := blt X813.out; omega
   have nq6 : ¬ w.heap.size = w13.heap.size := fun e => nq5 e.symm
   clear qY bY bYd fY lY belX kepX bNY happ hY y2_ y3_ hHeld
   go_wp2_with fail
   refine wp_region_held_drew (S := (fun w' => w'.cell? ⟨r, 0, none⟩ = some (.pointer (some ⟨x, 0, none⟩)) ∧ w'.cell? ⟨r, 2, none⟩ = some (.int .i64 (m : Int)) ∧ w'.cell? ⟨r, 3, none⟩ = some (.int .i64 1) ∧ w'.cell? ⟨r, 4, none⟩ = some (.int .u64 (g.nx + 1)))) (by kernel_rfl) ?_ (fun hHeld => ?_)
   ·first | exact ⟨zY0, zY2, zY3, zY4⟩ | exact ⟨s0, s2, s3, s4⟩
   first | refine tkY 0 ?_ | refine tkN 0 ?_
   try simp only [Act.put, tk1, tk2, tk3]
   first | refine tkY 1 ?_ | refine tkN 1 ?_
   try simp only [Act.put, tk1, tk2, tk3]
   first | refine tkY 2 ?_ | refine tkN 2 ?_
   try simp only [Act.put, tk1, tk2, tk3]
   first | refine tkY 3 ?_ | refine tkN 3 ?_
   try simp only [Act.put, tk1, tk2, tk3]
   first | refine tkY 4 ?_ | refine tkN 4 ?_
   try simp only [Act.put, tk1, tk2, tk3]
   first | refine tkY 5 ?_ | refine tkN 5 ?_
   try simp only [Act.put, tk1, tk2, tk3]
   first | refine tkY 6 ?_ | refine tkN 6 ?_
   try simp only [Act.put, tk1, tk2, tk3]
   first | refine tkY 7 ?_ | refine tkN 7 ?_
   try simp only [Act.put, tk1, tk2, tk3]
   first | refine tkY 8 ?_ | refine tkN 8 ?_
   try simp only [Act.put, tk1, tk2, tk3]
   first | refine tkY 9 ?_ | refine tkN 9 ?_
   try simp only [Act.put, tk1, tk2, tk3]
   first | refine tkY 10 ?_ | refine tkN 10 ?_
   try simp only [Act.put, tk1, tk2, tk3]
   first | refine tkY 11 ?_ | refine tkN 11 ?_
   try simp only [Act.put, tk1, tk2, tk3]
   first | refine tkY 12 ?_ | refine tkN 12 ?_
   try simp only [Act.put, tk1, tk2, tk3]
   first | refine tkY 13 ?_ | refine tkN 13 ?_
   try simp only [Act.put, tk1, tk2, tk3]
   first | refine tkY 14 ?_ | refine tkN 14 ?_
   try simp only [Act.put, tk1, tk2, tk3]
   first | refine tkY 15 ?_ | refine tkN 15 ?_
   try simp only [Act.put, tk1, tk2, tk3]
   first | refine tkY 16 ?_ | refine tkN 16 ?_
   try simp only [Act.put, tk1, tk2, tk3]
   first | refine tkY 17 ?_ | refine tkN 17 ?_
   try simp only [Act.put, tk1, tk2, tk3]
   first | refine tkY 18 ?_ | refine tkN 18 ?_
   try simp only [Act.put, tk1, tk2, tk3]
   refine wpAnyH_ready (rs := [19]) (by kernel_rfl) (by simp) ?_
   refine AllReadyH.cons (by (simp only [List.getElem?_toArray, List.getElem?_cons_succ, List.getElem?_cons_zero]; rfl)) (fun K hK => ?_) AllReadyH.nil
   go_simp
   (go_at_call 96; (with_reducible refine HAPP.out.mono ?_); rintro e w10 ⟨rfl, hf10, hb10, hk10⟩; have hl10 : RLog r t x cap rest { st := g8.st.set m 1, op := (m : Int), pg := 1, nx := g.nx + 1 } w10 := LY.out.step (hk10 r (.inl (.inl hr))) (hk10 t (.inl (.inl ht))); have s0 := hl10.c0; have s2 := hl10.c2; have s3 := hl10.c3; have s4 := hl10.c4; have fr3 := hl10.fr 3; have x8 := (hk10 w.heap.size (.inl (.inr ⟨Nat.le_refl _, by omega⟩))).trans ((BY.out.block _ (blt X813.out)).trans X813.out); have x12 := (hk10 w13.heap.size (.inr ⟨Nat.le_refl _, by show _ < Y.heap.size; omega⟩)).trans QY.out; have m0 : w10.cell? ⟨w.heap.size, 0, none⟩ = some (.int .i64 0) := bcell x8 0; have m1 : w10.cell? ⟨w.heap.size, 1, none⟩ = some (.int .i64 0) := bcell x8 1; have mf : ∀ j, w10.frozen? ⟨w.heap.size, j, none⟩ = false := (fun j => bfrozen x8 j); have t0 : w10.cell? ⟨w13.heap.size, 0, none⟩ = some (.int .i64 (m : Int)) := bcell x12 0; have t1 : w10.cell? ⟨w13.heap.size, 1, none⟩ = some (.int .i64 1) := bcell x12 1; have HL10 := Aside0.mk hl10; have X810 := Lib.hid x8; have HG10 := Aside0.mk hf10; have HB10 := Aside0.mk (BX.out.trans ((show Below N0 w13 Y.drew from (BY.out.drew).mono (by have := BX.out.size; omega)).trans hb10)); have HKR := Lib.hid hk10; clear hl10 hf10 hb10 hk10 x8 x12)
   (try dsimp only)
   refine hK.out _ _ ?_ (fun hHeld => ?_)
   ·first | exact ⟨zY0, zY2, zY3, zY4⟩ | exact ⟨s0, s2, s3, s4⟩
   clear hK K
   try simp only [Act.put, tk1, tk2, tk3]
   refine wpAnyH_done (by kernel_rfl) ?_ _
   go_wp2_with fail
   have HK10 := Lib.hid (show Kept (fun k => K k ∧ k ≠ r ∧ k ≠ t) w w10 from fun k hk => (HKR.out k (.inl (.inl hk.1))).trans ((BY.out.block k (by have := HLT.out k hk.1; have := BX.out.size; omega)).trans (KX.out k hk)))
   have hl11 := HL10.out.setPg (1 + (kk : Int))
   have hu11 := Upd.setCell w10 (p := ⟨r, 3, none⟩) (S := fun k => k = r) rfl (.int .i64 (1 + (kk : Int)))
   have hf11 := hSt _ _ w10 _ r _ _ _ HG10.out (.inl (.inl hr)) HL10.out.blk hl11.blk (by decide) hu11
   have s10' := hG.size HG10.out
   have hb11 := HB10.out.trans (hu11.below s10' (fun k hk => by rw [hk]; exact hNr))
   have x811 := (hu11.block w.heap.size (blt X810.out) (fun e => nq3 e)).trans X810.out
   have hk11 : Kept (fun k => K k ∧ k ≠ r ∧ k ≠ t) w (w10.setCell ⟨r, 3, none⟩ (.int .i64 (1 + (kk : Int)))) := fun k hk => (hu11.block k (hG.lt HG10.out k (.inl (.inl hk.1))) hk.2.1).trans (HK10.out k hk)
   obtain ⟨w9, hw9⟩ : ∃ w9, w9 = ((w10.setCell ⟨r, 3, none⟩ (.int .i64 (1 + (kk : Int)))).setCell ⟨w.heap.size, 0, none⟩ (.int .i64 (m : Int))).setCell ⟨w.heap.size, 1, none⟩ (.int .i64 1) := ⟨_, rfl⟩
   rw [← hw9]
   obtain ⟨r8, hf9, hl9, hb9, hk9⟩ := rput_end hG hSt hf11 hl11 hr ht HLT.out hsz (Nat.le_refl _) x811 (.inl (.inr ⟨Nat.le_refl _, by omega⟩)) (fun k hk => .inl (.inl hk)) hb11 hk11 hw9
   have r0 := bcell r8 0
   have r1 := bcell r8 1
   exact bodyPost_ret (v := .tuple #[.agg #[.int .i64 (m : Int), .int .i64 1], .int .i64 0]) (by simp [results, Tryz.results54, go_sem, r0, r1]) rfl ⟨rfl, hf9, by rw [← HKP.out, ← HG8E.out]; exact hl9, hb9, hk9⟩
end
end Go.Proofs.YtmbiebdcnadhkaaGreat.Fl
namespace Go.Proofs.YtmbiebdcnadhkaaGreat.Fl
open Go.RowKit Go.Proofs.YtmbiebdcnadhkaaGreatW.PrintWords Go.Proofs.YtmbiebdcnadhkaaGreatW.PrintMore Go.Maps
section
variable {N0 p q : Nat} {F : (Nat → Prop) → PD → World → Prop} {K : Nat → Prop} {D D2 : PD} {g g2 : LG} {w : World} {v : Value} {kind er : Int} {at_ : Adr}
set_option maxHeartbeats 1000000 in
set_option maxRecDepth 100000 in
theorem LAppend_F (hF : DevFrame N0 p F) (hSt : ∀ D, Stays (fun K w => F K D w)) (h : F K D w) (hl : LogIs q p g w) (hq : K q)
  (hput : ∀ (K2 : Nat → Prop) (X : World), (∀ k, K k → K2 k) → F K2 D X → LogIs q p g X → Below w.heap.size w X → Calls Tryz.prog 45 #[.pointer (some ⟨q, 0, none⟩), .int .u8 kind, v, .int .i64 2] X (PutPost N0 q p F K2 X at_ er D2 g2)) :
  Calls Tryz.prog 7 #[.pointer (some ⟨q, 0, none⟩), .int .u8 kind, v] w (PutPost N0 q p F K w at_ er D2 g2) := by
 have hsz := hF.size h
 have hlt := fun k hk => hF.lt h k hk
 obtain ⟨W, hW⟩ : ∃ W, W = w.alloc (.cells #[.int .i64 0, .int .i64 0] TA) := ⟨_, rfl⟩
 have q6 : W.heap[w.heap.size]? = some (.cells #[.int .i64 0, .int .i64 0] TA (0, 0)) := by rw [hW]; exact blk_new _ _
 have wb : Below w.heap.size w W := by rw [hW]; exact below_alloc (Below.refl _ _) _
 have wsz : W.heap.size = w.heap.size + 1 := by rw [hW, size_alloc]
 have hpu := hput _ W (fun k hk => .inl hk) (hF.keep h wb) (hl.below wb) wb
 have HPU := Lib.hid hpu
 have HW := Lib.hid hW
 have Q6 := Lib.hid q6
 have WB := Aside0.mk wb
 have HLT := Lib.hid hlt
 clear hput hpu hW q6 wb hlt h hl
 go_enter Tryz.func7, Tryz.ntmps7
 go_wp2_with (first
  | (rw [← HW.out])
  | (go_at_call 45; (with_reducible refine HPU.out.mono ?_); rintro e w1 ⟨rfl, hf, hl, hb, hk⟩; have x6 := (hk w.heap.size ⟨.inr ⟨Nat.le_refl _, by omega⟩, (by have := HLT.out q hq; omega)⟩).trans Q6.out; have z0 : w1.cell? ⟨w.heap.size, 0, none⟩ = some (.int .i64 0) := bcell x6 0; have z1 : w1.cell? ⟨w.heap.size, 1, none⟩ = some (.int .i64 0) := bcell x6 1; have zf : ∀ j, w1.frozen? ⟨w.heap.size, j, none⟩ = false := (fun j => bfrozen x6 j); have X6 := Lib.hid x6; have HF1 := Aside0.mk hf; have HL1 := Aside0.mk hl; have HB1 := Aside0.mk hb; have HK1 := Lib.hid hk; clear hf hl hb hk x6)
  | fail)
 obtain ⟨w9, hw9⟩ : ∃ w9, w9 = (w1.setCell ⟨w.heap.size, 0, none⟩ (.int .i64 at_.1)).setCell ⟨w.heap.size, 1, none⟩ (.int .i64 at_.2) := ⟨_, rfl⟩
 rw [← hw9]
 obtain ⟨r8, hf9, hl9, hb9, hk9⟩ := put_end hF hSt HF1.out HL1.out hq HLT.out hsz (Nat.le_refl _) X6.out (.inr ⟨Nat.le_refl _, by omega⟩) (fun k hk => .inl hk) ((WB.out.mono hsz).trans HB1.out) (fun k hk => (HK1.out k ⟨.inl hk.1, hk.2⟩).trans (WB.out.block k (HLT.out k hk.1))) hw9
 have r0 := bcell r8 0
 have r1 := bcell r8 1
 exact bodyPost_ret (v := .tuple #[.agg #[.int .i64 at_.1, .int .i64 at_.2], .int .i64 er]) (by simp [results, Tryz.results7, go_sem, r0, r1]) rfl ⟨rfl, hf9, hl9, hb9, hk9⟩
set_option maxHeartbeats 1000000 in
set_option maxRecDepth 100000 in
theorem LMove_F (hF : DevFrame N0 p F) (hSt : ∀ D, Stays (fun K w => F K D w)) (h : F K D w) (hl : LogIs q p g w) (hq : K q)
  (hput : ∀ (K2 : Nat → Prop) (X : World), (∀ k, K k → K2 k) → F K2 D X → LogIs q p g X → Below w.heap.size w X → Calls Tryz.prog 45 #[.pointer (some ⟨q, 0, none⟩), .int .u8 kind, v, .int .i64 1] X (PutPost N0 q p F K2 X at_ er D2 g2)) :
  Calls Tryz.prog 8 #[.pointer (some ⟨q, 0, none⟩), .int .u8 kind, v] w (PutPost N0 q p F K w at_ er D2 g2) := by
 have hsz := hF.size h
 have hlt := fun k hk => hF.lt h k hk
 obtain ⟨W, hW⟩ : ∃ W, W = w.alloc (.cells #[.int .i64 0, .int .i64 0] TA) := ⟨_, rfl⟩
 have q6 : W.heap[w.heap.size]? = some (.cells #[.int .i64 0, .int .i64 0] TA (0, 0)) := by rw [hW]; exact blk_new _ _
 have wb : Below w.heap.size w W := by rw [hW]; exact below_alloc (Below.refl _ _) _
 have wsz : W.heap.size = w.heap.size + 1 := by rw [hW, size_alloc]
 have hpu := hput _ W (fun k hk => .inl hk) (hF.keep h wb) (hl.below wb) wb
 have HPU := Lib.hid hpu
 have HW := Lib.hid hW
 have Q6 := Lib.hid q6
 have WB := Aside0.mk wb
 have HLT := Lib.hid hlt
 clear hput hpu hW q6 wb hlt h hl
 go_enter Tryz.func8, Tryz.ntmps8
 go_wp2_with (first
  | (rw [← HW.out])
  | (go_at_call 45; (with_reducible refine HPU.out.mono ?_); rintro e w1 ⟨rfl, hf, hl, hb, hk⟩; have x6 := (hk w.heap.size ⟨.inr ⟨Nat.le_refl _, by omega⟩, (by have := HLT.out q hq; omega)⟩).trans Q6.out; have z0 : w1.cell? ⟨w.heap.size, 0, none⟩ = some (.int .i64 0) := bcell x6 0; have z1 : w1.cell? ⟨w.heap.size, 1, none⟩ = some (.int .i64 0) := bcell x6 1; have zf : ∀ j, w1.frozen? ⟨w.heap.size, j, none⟩ = false := (fun j => bfrozen x6 j); have X6 := Lib.hid x6; have HF1 := Aside0.mk hf; have HL1 := Aside0.mk hl; have HB1 := Aside0.mk hb; have HK1 := Lib.hid hk; clear hf hl hb hk x6)
  | fail)
 obtain ⟨w9, hw9⟩ : ∃ w9, w9 = (w1.setCell ⟨w.heap.size, 0, none⟩ (.int .i64 at_.1)).setCell ⟨w.heap.size, 1, none⟩ (.int .i64 at_.2) := ⟨_, rfl⟩
 rw [← hw9]
 obtain ⟨r8, hf9, hl9, hb9, hk9⟩ := put_end hF hSt HF1.out HL1.out hq HLT.out hsz (Nat.le_refl _) X6.out (.inr ⟨Nat.le_refl _, by omega⟩) (fun k hk => .inl hk) ((WB.out.mono hsz).trans HB1.out) (fun k hk => (HK1.out k ⟨.inl hk.1, hk.2⟩).trans (WB.out.block k (HLT.out k hk.1))) hw9
 have r0 := bcell r8 0
 have r1 := bcell r8 1
 exact bodyPost_ret (v := .tuple #[.agg #[.int .i64 at_.1, .int .i64 at_.2], .int .i64 er]) (by simp [results, Tryz.results8, go_sem, r0, r1]) rfl ⟨rfl, hf9, hl9, hb9, hk9⟩
end
end Go.Proofs.YtmbiebdcnadhkaaGreat.Fl
namespace Go.Proofs.YtmbiebdcnadhkaaGreat.Fl
open Go.RowKit Go.Proofs.YtmbiebdcnadhkaaGreatW.PrintWords Go.Proofs.YtmbiebdcnadhkaaGreatW.PrintMore Go.Maps
structure SDeed where
 kd : Int
 wh : Int
 l : List Int
 sg : Int
structure SDeedOk (r : SDeed) : Prop where
 kd : KindOk r.wh
 byt : Byt r.l
structure SCell (w : World) (ad : Addr) (i : Nat) (r : SDeed) (A : Option Addr) (c : Nat) : Prop where
 c0 : w.cell? (ad.add (i * 4)) = some (.int .i64 r.kd)
 c1 : w.cell? ⟨(ad.add (i * 4)).block, (ad.add (i * 4)).off + 1, none⟩ = some (.int .u8 r.wh)
 c2 : w.cell? ⟨(ad.add (i * 4)).block, (ad.add (i * 4)).off + 2, none⟩ = some (.slice A r.l.length c)
 c3 : w.cell? ⟨(ad.add (i * 4)).block, (ad.add (i * 4)).off + 3, none⟩ = some (.int .i64 r.sg)
 row : kB.C w A r.l.length r.l
 cap : r.l.length ≤ c
def LRow (w : World) (A : Option Addr) (rs : List SDeed) : Prop := ∀ (i : Nat) (r : SDeed), rs[i]? = some r → ∃ ad A1 c1, A = some ad ∧ SCell w ad i r A1 c1
theorem SCell.below {w w' : World} {ad : Addr} {i : Nat} {r : SDeed} {A : Option Addr} {c : Nat} (h : SCell w ad i r A c) (hb : Below w.heap.size w w') : SCell w' ad i r A c :=
 have f : ∀ {a : Addr} {v : Value}, w.cell? a = some v → w'.cell? a = some v := fun h => (hb.cell (blt_of_cell h)).trans h
 ⟨f h.c0, f h.c1, f h.c2, f h.c3, Kd.C_below h.row hb, h.cap⟩
theorem LRow.below {w w' : World} {A : Option Addr} {rs : List SDeed} (h : LRow w A rs) (hb : Below w.heap.size w w') : LRow w' A rs := fun i d hi => by
 obtain ⟨ad, A1, c1, h1, h2⟩ := h i d hi
 exact ⟨ad, A1, c1, h1, h2.below hb⟩
def fewS (rs : List SDeed) : Bool := rs.all (fun r => decide (r.l.length ≤ 400)) && decide (rs.length ≤ 60)
theorem fewS_ok {rs : List SDeed} (h : fewS rs = true) : rs.length ≤ 60 ∧ ∀ r ∈ rs, r.l.length ≤ 400 := by
 unfold fewS at h
 simp at h
 exact ⟨h.2, h.1⟩
theorem allS_take_succ {q : SDeed → Bool} {rs : List SDeed} {k : Nat} {r : SDeed} (h : rs[k]? = some r) : (rs.take (k + 1)).all q = ((rs.take k).all q && q r) := by
 rw [List.take_add_one, h, List.all_append]
 simp
set_option maxHeartbeats 2000000 in
set_option maxRecDepth 100000 in
theorem Few15_any {w : World} {A : Option Addr} {c : Nat} {rs : List SDeed} (hr : LRow w A rs) (h0 : rs.length ≤ 9223372036854775807) :
  Calls Tryz.prog 20 #[.slice A rs.length c] w fun e w' => e = .returned (.bool (fewS rs)) ∧ Below w.heap.size w w' := by
 obtain ⟨n, hn⟩ : ∃ n, n = rs.length := ⟨_, rfl⟩
 have HR := Lib.hid hr
 have HN := Lib.hid hn
 rw [← hn] at h0
 rw [← hn]
 clear hr hn
 go_enter Tryz.func20, Tryz.ntmps20
 go_wp2
 go_loopw [4, 7] (fun v4 v7 wr => ∃ k : Nat, k ≤ n ∧ v7 = .int .i64 (k : Int) ∧ Below w.heap.size w wr ∧ (rs.take k).all (fun r => decide (r.l.length ≤ 400)) = true) (fun _ v7 _ => n - (intOf v7).toNat)
 case atStart => exact ⟨0, Nat.zero_le _, rfl, Below.refl _ _, rfl⟩
 case round =>
  obtain ⟨k, hk, rfl, hb, ht⟩ := hrel
  have HB := Aside0.mk hb
  have HT := Lib.hid ht
  clear hb ht
  by_cases hlt : k < n
  ·obtain ⟨r, hd⟩ : ∃ r, rs[k]? = some r := ⟨_, List.getElem?_eq_getElem (by have := HN.out; omega)⟩
   obtain ⟨ad, A1, c1, hA, hc⟩ := HR.out k r hd
   have hc := hc.below HB.out
   subst hA
   have d0 := hc.c0; have d1 := hc.c1; have d2 := hc.c2; have d3 := hc.c3
   have HD := Lib.hid hd
   have k0 : (0 : Int) ≤ (k : Int) := by omega
   have k2 : (k : Int) < (n : Int) := by omega
   clear hd hc
   obtain ⟨ra, rb, dl, rk⟩ := r
   simp only at d0 d1 d2 d3
   by_cases hg : dl.length ≤ 400
   ·have e1 : decide (400 < (dl.length : Int)) = false := by simp; omega
    go_wp2
    refine ⟨⟨k + 1, by omega, by go_num, below_alloc HB.out _, ?_⟩, by simp [intOf]; omega⟩
    rw [allS_take_succ HD.out, HT.out]
    simpa using hg
   ·have e1 : decide (400 < (dl.length : Int)) = true := by simp; omega
    go_wp2
    go_ret
    refine ⟨?_, below_alloc HB.out _⟩
    have : fewS rs = false := by
     unfold fewS
     rw [List.all_eq_false.2 ⟨_, List.mem_of_getElem? HD.out, by simpa using hg⟩]
     rfl
    rw [this]
    rfl
  ·obtain rfl : k = n := by omega
   have ha : fewS rs = decide ((k : Int) ≤ 60) := by
    have h := HT.out
    rw [List.take_of_length_le (by have := HN.out; omega)] at h
    unfold fewS
    rw [h, ← HN.out]
    simp only [Bool.true_and, decide_eq_decide]
    omega
   have HA := Lib.hid ha
   clear ha
   go_wp2
   go_ret
   exact ⟨by rw [HA.out]; rfl, HB.out⟩
end Go.Proofs.YtmbiebdcnadhkaaGreat.Fl
namespace Go.Proofs.YtmbiebdcnadhkaaGreat.Opens
open Go.ChangeShapes Go.WideShapes Go.ChangeAt Go.RowKit Go.Joins Go.Deep Go.Proofs.YtmbiebdcnadhkaaGreatW.PrintWords
section
variable {H : Type} {enc : TypeId × Value → H} {P : Program} {w : World} {base : Nat} {spare : Nat → Bool} {held : Bool}
theorem cell_ints {t e : TypeId} {k : IntKind} {fuel : Nat} {u : Value} {x : DataW H × List MemPlace} (ht : P.underlying t = some (.slice e)) (he : P.underlying e = some (.int k)) (hC : P.cellsOf e = 1)
  (h : DataW.trod enc P w base spare held fuel t [u] = some x) :
  ∃ (A : Option Addr) (c : Nat) (l : List Int), [u] = [Value.slice A l.length c] ∧ Kd.C (Kd.int k) w A l.length l ∧ l.length ≤ c ∧ l.length ≤ maxLen ∧ (∀ n ∈ l, (Lit.int k n).wf = true) := by
 rcases open_ints ht he hC h with ⟨hcs, _⟩ | ⟨a, len, cap, zs, hcs, _, hl, hm, hz, _, hcell, hwz⟩
 ·refine ⟨none, 0, [], hcs, ?_, Nat.le_refl _, Nat.zero_le _, fun n hn => by cases hn⟩
  exact Kd.C_of_reads (d := (0 : Int)) (h1 := fun _ => rfl) ⟨rfl, by simp, fun h => absurd h (by simp)⟩
 ·have hlz : len ≤ zs.length := by
   rw [hz]
   split
   ·exact hl
   ·exact Nat.le_refl _
  have e : (zs.take len).length = len := by rw [List.length_take]; omega
  refine ⟨some a, cap, zs.take len, by rw [e]; exact hcs, ?_, by omega, by rw [e]; omega, fun n hn => hwz n (List.mem_of_mem_take hn)⟩
  refine Kd.C_of_reads (d := (0 : Int)) (h1 := fun _ => rfl) ⟨rfl, by rw [e]; unfold maxLen at hm; omega, fun _ => ⟨a, rfl, fun j hj => ?_⟩⟩
  rw [e] at hj
  rw [hcell j (by omega)]
  simp [List.getD_eq_getElem?_getD, hj]
theorem row_ints {t e : TypeId} {k : IntKind} {A : Option Addr} {len c : Nat} {d : DataW H} {p : List MemPlace} (ht : P.underlying t = some (.slice e)) (he : P.underlying e = some (.int k)) (hC : P.cellsOf e = 1)
  (h : DataW.Trod enc P w base spare held t (.slice A len c) d p) :
  ∃ l : List Int, len = l.length ∧ Kd.C (Kd.int k) w A l.length l ∧ l.length ≤ c ∧ l.length ≤ maxLen ∧ (∀ n ∈ l, (Lit.int k n).wf = true) := by
 obtain ⟨fuel, hf⟩ := h
 obtain ⟨A', c', l, hu, h1, h2, h3, h4⟩ := cell_ints (u := .slice A len c) ht he hC hf
 simp only [List.cons.injEq, Value.slice.injEq, and_true] at hu
 obtain ⟨rfl, rfl, rfl⟩ := hu
 exact ⟨l, rfl, h1, h2, h3, h4⟩
end
end Go.Proofs.YtmbiebdcnadhkaaGreat.Opens
namespace Go.Proofs.YtmbiebdcnadhkaaGreat.Fl
open Go.ChangeShapes Go.WideShapes Go.ChangeAt Go.RowKit Go.Joins Go.Deep Go.Proofs.YtmbiebdcnadhkaaGreatW.PrintWords Go.Proofs.YtmbiebdcnadhkaaGreat.Opens
section
variable {H : Type} {enc : TypeId × Value → H} {P : Program} {w : World} {base : Nat} {spare : Nat → Bool} {held : Bool}
theorem byt_of {l : List Int} (h : ∀ x ∈ l, (Lit.int .u8 x).wf = true) : Byt l := fun x hx => by
 have h1 := h x hx
 unfold Lit.wf at h1
 rw [Bool.and_eq_true, decide_eq_true_eq, decide_eq_true_eq] at h1
 have e1 : IntKind.min .u8 = 0 := by decide
 have e2 : IntKind.max .u8 = 255 := by decide
 rw [e1, e2] at h1
 exact h1
end
end Go.Proofs.YtmbiebdcnadhkaaGreat.Fl
namespace Go.Proofs.YtmbiebdcnadhkaaGreat.Fl
open Go.ChangeShapes Go.WideShapes Go.ChangeAt Go.RowKit Go.Joins Go.Deep Go.Proofs.YtmbiebdcnadhkaaGreatW.PrintWords Go.Proofs.YtmbiebdcnadhkaaGreat.Opens
section
variable {H : Type} {enc : TypeId × Value → H} {P : Program} {w : World} {base : Nat} {spare : Nat → Bool} {held : Bool}
theorem kind_of {k : Int} (h : (Lit.int .u8 k).wf = true) : KindOk k := by
 unfold Lit.wf at h
 rw [Bool.and_eq_true, decide_eq_true_eq, decide_eq_true_eq] at h
 have e1 : IntKind.min .u8 = 0 := by decide
 have e2 : IntKind.max .u8 = 255 := by decide
 rw [e1, e2] at h
 exact ⟨h.1, h.2⟩
end
end Go.Proofs.YtmbiebdcnadhkaaGreat.Fl
namespace Go.Proofs.YtmbiebdcnadhkaaGreat.Fl
open Go.ChangeShapes Go.WideShapes Go.ChangeAt Go.RowKit Go.Joins Go.Deep Go.Proofs.YtmbiebdcnadhkaaGreatW.PrintWords Go.Proofs.YtmbiebdcnadhkaaGreat.Opens
section
variable {H : Type} {enc : TypeId × Value → H} {P : Program} {w : World} {base : Nat} {spare : Nat → Bool} {held : Bool}
theorem sdeed_cells {e te : TypeId} {f0 f1 f2 f3 : Field} {n : Nat} {cs : List Value} {y : DataW H × List MemPlace} (he : P.underlying e = some (.struct #[f0, f1, f2, f3]))
  (o0 : f0.offset = 0) (o1 : f1.offset = 1) (o2 : f2.offset = 2) (o3 : f3.offset = 3)
  (k0 : P.cellsOf f0.type = 1) (k1 : P.cellsOf f1.type = 1) (k2 : P.cellsOf f2.type = 1) (k3 : P.cellsOf f3.type = 1)
  (u0 : P.underlying f0.type = some (.int .i64)) (u1 : P.underlying f1.type = some (.int .u8)) (u2 : P.underlying f2.type = some (.slice te)) (u3 : P.underlying f3.type = some (.int .i64)) (ue : P.underlying te = some (.int .u8)) (ke : P.cellsOf te = 1)
  (hl : cs.length = 4) (h : DataW.trod enc P w base spare held n e cs = some y) :
  ∃ (r : SDeed) (A : Option Addr) (c : Nat), cs = [.int .i64 r.kd, .int .u8 r.wh, .slice A r.l.length c, .int .i64 r.sg] ∧ kB.C w A r.l.length r.l ∧ r.l.length ≤ c ∧ SDeedOk r := by
 obtain ⟨xs, m, _, _, _, hlen, hg⟩ := DataW.trod_struct he h
 match cs, hl, xs, hlen with
 | [c0, c1, c2, c3], _, [y0, y1, y2, y3], _ =>
  have s0 : DataW.trod enc P w base spare held m f0.type [c0] = some y0 := by simpa [o0, k0] using hg 0 f0 rfl
  have s1 : DataW.trod enc P w base spare held m f1.type [c1] = some y1 := by simpa [o1, k1] using hg 1 f1 rfl
  have s2 : DataW.trod enc P w base spare held m f2.type [c2] = some y2 := by simpa [o2, k2] using hg 2 f2 rfl
  have s3 : DataW.trod enc P w base spare held m f3.type [c3] = some y3 := by simpa [o3, k3] using hg 3 f3 rfl
  obtain ⟨a0, z0, _, _⟩ := DataW.trod_int u0 s0
  obtain ⟨a1, z1, _, w1⟩ := DataW.trod_int u1 s1
  obtain ⟨A, c, l, z2, hr, hc, _, hw⟩ := cell_ints u2 ue ke s2
  obtain ⟨a3, z3, _, _⟩ := DataW.trod_int u3 s3
  refine ⟨⟨a0, a1, l, a3⟩, A, c, ?_, hr, hc, ⟨kind_of w1, byt_of hw⟩⟩
  rw [List.head_eq_of_cons_eq z0, List.head_eq_of_cons_eq z1, List.head_eq_of_cons_eq z2, List.head_eq_of_cons_eq z3]
theorem row_sdeeds {t e te : TypeId} {f0 f1 f2 f3 : Field} {A : Option Addr} {len c : Nat} {d : DataW H} {p : List MemPlace} (ht : P.underlying t = some (.slice e)) (he : P.underlying e = some (.struct #[f0, f1, f2, f3])) (hC : P.cellsOf e = 4)
  (o0 : f0.offset = 0) (o1 : f1.offset = 1) (o2 : f2.offset = 2) (o3 : f3.offset = 3)
  (k0 : P.cellsOf f0.type = 1) (k1 : P.cellsOf f1.type = 1) (k2 : P.cellsOf f2.type = 1) (k3 : P.cellsOf f3.type = 1)
  (u0 : P.underlying f0.type = some (.int .i64)) (u1 : P.underlying f1.type = some (.int .u8)) (u2 : P.underlying f2.type = some (.slice te)) (u3 : P.underlying f3.type = some (.int .i64)) (ue : P.underlying te = some (.int .u8)) (ke : P.cellsOf te = 1)
  (h : DataW.Trod enc P w base spare held t (.slice A len c) d p) : ∃ rs : List SDeed, len = rs.length ∧ LRow w A rs ∧ rs.length ≤ 9223372036854775807 ∧ ∀ r ∈ rs, SDeedOk r := by
 obtain ⟨fuel, hf⟩ := h
 rcases open_slice ht hf with ⟨hcs, _⟩ | ⟨a, len', cap, m, n, D, Pl, hcs, hb, hl, hm, hmm, _, hel⟩
 ·simp [Value.cells] at hcs
  obtain ⟨rfl, rfl, rfl⟩ := hcs
  exact ⟨[], rfl, fun i d hi => by simp at hi, by simp, by simp⟩
 ·simp [Value.cells] at hcs
  obtain ⟨rfl, rfl, rfl⟩ := hcs
  have hlm : len ≤ m := by rw [hmm]; split <;> omega
  have each : ∀ i, ∃ x : SDeed, i < len → SDeedOk x ∧ ∃ A1 c1, kB.C w A1 x.l.length x.l ∧ x.l.length ≤ c1 ∧ w.cells? base (a.add (i * 4)) 4 = some [.int .i64 x.kd, .int .u8 x.wh, .slice A1 x.l.length c1, .int .i64 x.sg] := by
   intro i
   by_cases hi : i < len
   ·obtain ⟨cs', h1, h2⟩ := hel i (by omega)
    rw [hC] at h1
    obtain ⟨x, A1, c1, rfl, h3, h4, h5⟩ := sdeed_cells he o0 o1 o2 o3 k0 k1 k2 k3 u0 u1 u2 u3 ue ke (World.cells?_some h1).2.1 h2
    exact ⟨x, fun _ => ⟨h5, A1, c1, h3, h4, h1⟩⟩
   ·exact ⟨⟨0, 0, [], 0⟩, fun h => absurd h hi⟩
  refine ⟨(List.range len).map (fun i => Classical.choose (each i)), by simp, fun i d hi => ?_, by simp; unfold maxLen at hm; omega, fun d hd => ?_⟩
  ·have hil : i < len := by
    have := (List.getElem?_eq_some_iff.1 hi).1
    simpa using this
   have hx : d = Classical.choose (each i) := by simpa [hil] using hi.symm
   obtain ⟨_, A1, c1, h1, h2, h3⟩ := Classical.choose_spec (each i) hil
   rw [← hx] at h1 h2 h3
   have h3 := (World.cells?_some h3).2.2
   have g0 := h3 0 (by omega)
   refine ⟨a, A1, c1, rfl, ?_, h3 1 (by omega), h3 2 (by omega), h3 3 (by omega), h1, h2⟩
   simpa [Addr.add] using g0
  ·rw [List.mem_map] at hd
   obtain ⟨i, hi, rfl⟩ := hd
   exact (Classical.choose_spec (each i) (by simpa using hi)).1
end
end Go.Proofs.YtmbiebdcnadhkaaGreat.Fl
namespace Go.Proofs.YtmbiebdcnadhkaaGreat.Fl
structure LInv (D : PD) (g : LG) : Prop where
 sh : ShapeOk D.s
 len : g.st.length = 16
 hi : g.op < D.s.1
 zero : g.op < 0 → g.op = -1 ∧ g.pg = 0
 one : 0 ≤ g.op → g.st[g.op.toNat]? = some 1 ∧ 1 ≤ g.pg ∧ g.pg ≤ D.s.2.1
 free : ∀ i : Nat, (i : Int) < D.s.1 → g.st[i]? = some 0 → ∀ b, usedB D (i : Int) b = false
 opn : 0 ≤ g.op → ∀ b, g.pg ≤ b → usedB D g.op b = false
 nx : 1 ≤ g.nx
theorem fits_iff {s : Int × Int × Int} {pg : Int} {n : Nat} (hn : n ≤ 4096) (h0 : 0 ≤ pg) (h1 : pg ≤ s.2.1) : fitsS s pg n = true ↔ pg + (kpg s n : Int) ≤ s.2.1 := by
 unfold fitsS
 rw [decide_eq_true_iff]
 constructor
 ·rintro ⟨_, _, _, h⟩; omega
 ·intro h; exact ⟨hn, h0, h1, by omega⟩
theorem app_ok {D : PD} {a b : Int} {n : Nat} (hs : ShapeOk D.s) (ha : 0 ≤ a) (ha1 : a < D.s.1) (hb : 0 ≤ b) (hn : n ≤ 4096) (hf : b + (kpg D.s n : Int) ≤ D.s.2.1) (hu : ∀ c, b ≤ c → usedB D a c = false) : appE D a b n = ((kpg D.s n : Int), 0) :=
 appE_one ((appE_zero a b n).2 ⟨(hasB_iff _ _ _).2 ⟨ha, ha1, hb, by have := (kpg_bd hs hn).1; omega⟩, hn, hf, anyUsedD_false (fun i _ => hu _ (by omega))⟩)
section
variable {D : PD} {g : LG} {l : List Int}
theorem LInv.fit (h : LInv D g) (ho : 0 ≤ g.op) (hn : l.length ≤ 4096) (hf : fitsS D.s g.pg l.length = true) : appE D g.op g.pg l.length = ((kpg D.s l.length : Int), 0) ∧ g.pg + (kpg D.s l.length : Int) ≤ D.s.2.1 := by
 obtain ⟨h1, h2, h3⟩ := h.one ho
 have h4 := (fits_iff hn (by omega) h3).1 hf
 exact ⟨app_ok h.sh ho h.hi (by omega) hn h4 (h.opn ho), h4⟩
theorem LInv.app (h : LInv D g) (ho : 0 ≤ g.op) (hn : l.length ≤ 4096) (hf : fitsS D.s g.pg l.length = true) (kd sq : Int) : LInv (appD D g.op g.pg l.length (Fl.rec kd sq l)) { g with pg := g.pg + (kpg D.s l.length : Int) } := by
 obtain ⟨h1, h2⟩ := h.fit ho hn hf
 obtain ⟨h3, h4, h5⟩ := h.one ho
 have h6 := app_used h.sh (kd := kd) (sq := sq) (l := l) (by rw [h1])
 have hst := appD_s D g.op g.pg l.length (Fl.rec kd sq l)
 refine ⟨by rw [hst]; exact h.sh, h.len, by rw [hst]; exact h.hi, fun h' => absurd h' (by show ¬ g.op < 0; omega), fun _ => ⟨h3, by show 1 ≤ g.pg + _; omega, by rw [hst]; exact h2⟩, fun i hi h0 b => ?_, fun _ b hb => ?_, h.nx⟩
 ·rw [hst] at hi
  rw [h6, h.free i hi h0, Bool.or_false]
  refine decide_eq_false (fun hh => ?_)
  have : g.op.toNat = i := by omega
  rw [this, h0] at h3
  simp at h3
 ·show usedB _ g.op b = false
  have hb2 : g.pg + (kpg D.s l.length : Int) ≤ b := hb
  rw [h6, h.opn ho b (by omega), Bool.or_false]
  exact decide_eq_false (fun hh => by omega)
theorem seal_get (g : LG) (i : Nat) : (sealG g).st[i]? = some 0 → g.st[i]? = some 0 := by
 unfold sealG
 split
 ·exact id
 ·intro h
  rw [List.getElem?_set] at h
  split at h
  ·split at h <;> simp at h
  ·exact h
theorem LInv.sealed (h : LInv D g) : LInv D (sealG g) := by
 refine ⟨h.sh, ?_, ?_, ?_, ?_, fun i hi h0 b => h.free i hi (seal_get g i h0) b, ?_, by rw [sealG_nx]; exact h.nx⟩
 ·unfold sealG; split
  ·exact h.len
  ·simp [h.len]
 ·have := h.sh.a0
  unfold sealG; split
  ·exact h.hi
  ·show (-1 : Int) < D.s.1; omega
 ·intro h'
  by_cases h0 : g.op < 0
  ·have e : sealG g = g := if_pos h0
   rw [e]; exact h.zero h0
  ·have e : sealG g = { st := g.st.set g.op.toNat 2, op := -1, pg := 0, nx := g.nx } := if_neg h0
   rw [e]; exact ⟨rfl, rfl⟩
 ·intro h'
  exfalso
  revert h'
  unfold sealG; split
  ·omega
  ·show 0 ≤ (-1 : Int) → False; omega
 ·intro h'
  exfalso
  revert h'
  unfold sealG; split
  ·omega
  ·show 0 ≤ (-1 : Int) → False; omega
theorem LInv.start (h : LInv D g) {m : Nat} (hm : (m : Int) < D.s.1) (h0 : (sealG g).st[m]? = some 0) : appE D (m : Int) 0 0 = (1, 0) := by
 have := app_ok (n := 0) h.sh (a := (m : Int)) (b := 0) (by omega) hm (Int.le_refl _) (by omega) (by rw [kpg_zero h.sh]; have := h.sh.b0; omega) (fun c _ => h.sealed.free m hm h0 c)
 rw [this, kpg_zero h.sh]
 rfl
theorem LInv.turn (h : LInv D g) {m : Nat} (hm : (m : Int) < D.s.1) (h0 : (sealG g).st[m]? = some 0) : LInv (appD D (m : Int) 0 0 (Fl.rec 1 g.nx [])) ⟨(sealG g).st.set m 1, (m : Int), 1, g.nx + 1⟩ := by
 have h1 := h.start hm h0
 have h2 := app_used h.sh (a := (m : Int)) (b := 0) (kd := 1) (sq := g.nx) (l := []) (by rw [List.length_nil, h1])
 simp only [List.length_nil, kpg_zero h.sh] at h2
 have hst := appD_s D (m : Int) 0 0 (Fl.rec 1 g.nx [])
 have hl := h.sealed.len
 have hn := h.nx
 have hml : m < (sealG g).st.length := (List.getElem?_eq_some_iff.1 h0).1
 refine ⟨by rw [hst]; exact h.sh, by simp [hl], by rw [hst]; exact hm, fun h' => absurd h' (by show ¬ (m : Int) < 0; omega), fun _ => ⟨?_, Int.le_refl _, by rw [hst]; exact h.sh.b0⟩, fun i hi hi0 b => ?_, fun _ b hb => ?_, by show 1 ≤ g.nx + 1; omega⟩
 ·show ((sealG g).st.set m 1)[(m : Int).toNat]? = some 1
  rw [Int.toNat_natCast, List.getElem?_set, if_pos rfl, if_pos hml]
 ·rw [hst] at hi
  have hi0 : ((sealG g).st.set m 1)[i]? = some 0 := hi0
  rw [List.getElem?_set] at hi0
  split at hi0
  ·simp at hi0
  ·rename_i hne
   rw [h2, h.sealed.free i hi hi0, Bool.or_false]
   exact decide_eq_false (fun hh => hne (by omega))
 ·show usedB _ (m : Int) b = false
  have hb2 : (1 : Int) ≤ b := hb
  rw [h2, h.sealed.free m hm h0, Bool.or_false]
  exact decide_eq_false (fun hh => by omega)
theorem LInv.get_seal (h : LInv D g) {i : Nat} (hi : g.st[i]? = some 0) : (sealG g).st[i]? = some 0 := by
 unfold sealG
 split
 ·exact hi
 ·rename_i ho
  show (g.st.set g.op.toNat 2)[i]? = some 0
  rw [List.getElem?_set]
  split
  ·rename_i he
   have := (h.one (by omega)).1
   rw [he, hi] at this
   simp at this
  ·exact hi
theorem first_zero : ∀ (l : List Int), 0 < cnt 0 l → ∃ m : Nat, l[m]? = some 0 ∧ ∀ i, i < m → l[i]? ≠ some 0
 | [], h => by simp [cnt] at h
 | y :: l, h => by
  by_cases hy : y = 0
  ·exact ⟨0, by rw [hy]; rfl, fun i hi => by omega⟩
  ·have h2 : 0 < cnt 0 l := by
    unfold cnt at h ⊢
    rw [List.filter_cons, if_neg (by simpa using hy)] at h
    exact h
   obtain ⟨m, h3, h4⟩ := first_zero l h2
   refine ⟨m + 1, by simpa using h3, fun i hi => ?_⟩
   cases i with
   | zero => simpa using hy
   | succ i => simpa using h4 i (by omega)
theorem firstAt_is {l : List Int} {m : Nat} (h0 : l[m]? = some 0) (h1 : ∀ i, i < m → l[i]? ≠ some 0) (r : Int) (h : FirstAt l 0 r) : r = (m : Int) := by
 have hml := (List.getElem?_eq_some_iff.1 h0).1
 rcases h with ⟨_, h⟩ | ⟨n, rfl, hn, h2, h3⟩
 ·exact absurd h0 (h m hml)
 ·have : n = m := by
   rcases Nat.lt_trichotomy n m with h4 | h4 | h4
   ·exact absurd h2 (h1 n h4)
   ·exact h4
   ·exact absurd h0 (h3 m h4)
  rw [this]
theorem LInv.first (h : LInv D g) (hc : 0 < cnt 0 (g.st.take D.s.1.toNat)) : ∃ m : Nat, (m : Int) < D.s.1 ∧ g.st[m]? = some 0 ∧ (sealG g).st[m]? = some 0 ∧ (∀ i, i < m → (sealG g).st[i]? ≠ some 0) ∧ ∀ r, FirstAt (sealG g).st 0 r → r = (m : Int) := by
 obtain ⟨m, h0, h1⟩ := first_zero _ hc
 have hm := (List.getElem?_eq_some_iff.1 h0).1
 rw [List.length_take] at hm
 have h2 : g.st[m]? = some 0 := by rw [List.getElem?_take_of_lt (by omega)] at h0; exact h0
 have h3 : ∀ i, i < m → (sealG g).st[i]? ≠ some 0 := fun i hi hh => h1 i hi (by rw [List.getElem?_take_of_lt (by omega)]; exact seal_get g i hh)
 exact ⟨m, by have := h.sh.a0; omega, h2, h.get_seal h2, h3, firstAt_is (h.get_seal h2) h3⟩
end
end Go.Proofs.YtmbiebdcnadhkaaGreat.Fl
namespace Go.Proofs.YtmbiebdcnadhkaaGreat.Fl
structure GSim (s : Int × Int × Int) (g gr : LG) : Prop where
 st : gr.st = g.st.take s.1.toNat
 op : gr.op = g.op
 pg : gr.pg = g.pg
 nx : gr.nx = g.nx
section
variable {D : PD} {g gr : LG}
theorem GSim.len (h : GSim D.s g gr) (hi : LInv D g) : (gr.st.length : Int) = D.s.1 := by
 have := hi.sh.a0
 have := hi.sh.a1
 have := hi.len
 rw [h.st, List.length_take]
 omega
theorem GSim.get (h : GSim D.s g gr) (hi : LInv D g) {i : Nat} (hlt : (i : Int) < D.s.1) : gr.st[i]? = g.st[i]? := by
 rw [h.st, List.getElem?_take_of_lt (by omega)]
theorem GSim.set (h : GSim D.s g gr) (i : Nat) (y : Int) : gr.st.set i y = (g.st.set i y).take D.s.1.toNat := by
 rw [h.st, List.take_set]
theorem GSim.sealed (h : GSim D.s g gr) (hi : LInv D g) : GSim D.s (sealG g) (rsealG gr) := by
 by_cases h0 : g.op < 0
 ·have e1 : sealG g = g := if_pos h0
  obtain ⟨z1, z2⟩ := hi.zero h0
  rw [e1]
  exact ⟨by unfold rsealG; rw [h.op, if_pos h0]; exact h.st, z1.symm, z2.symm, h.nx⟩
 ·have e1 : sealG g = { st := g.st.set g.op.toNat 2, op := -1, pg := 0, nx := g.nx } := if_neg h0
  rw [e1]
  exact ⟨by unfold rsealG; rw [h.op, if_neg h0]; exact h.set _ _, rfl, rfl, h.nx⟩
theorem GSim.eraseE (h : GSim D.s g gr) (hi : LInv D g) (a : Int) : rEraseE gr a = lEraseE D.s g a := by
 have hl := h.len hi
 unfold rEraseE lEraseE
 cases hf : fitsB a 0 (D.s.1 - 1) with
 | false =>
  rw [if_pos rfl, if_pos]
  unfold fitsB at hf
  rw [decide_eq_false_iff_not] at hf
  omega
 | true =>
  unfold fitsB at hf
  rw [decide_eq_true_iff] at hf
  rw [if_neg (show ¬ (a < 0 ∨ (gr.st.length : Int) ≤ a) by omega), if_neg (show ¬ (true = false) by decide), List.getD_eq_getElem?_getD, List.getD_eq_getElem?_getD, h.get hi (by omega)]
theorem GSim.erase (h : GSim D.s g gr) (hi : LInv D g) (a : Int) : GSim D.s (lEraseG D.s g a) (rEraseG gr a) := by
 unfold lEraseG rEraseG
 rw [h.eraseE hi]
 split
 ·exact ⟨h.set _ _, h.op, h.pg, h.nx⟩
 ·exact h
theorem LInv.sync (h : LInv D g) : LInv { D with dirty := [] } g := ⟨h.sh, h.len, h.hi, h.zero, h.one, h.free, h.opn, h.nx⟩
theorem LInv.new {s : Int × Int × Int} (hs : ShapeOk s) : LInv ⟨s, [], []⟩ (newG 1) := by
 refine ⟨hs, by simp [newG], ?_, fun _ => ⟨rfl, rfl⟩, fun h' => ?_, fun i hi h0 b => by simp [usedB, look], fun h' b hb => by simp [usedB, look], by decide⟩
 ·have := hs.a0
  show (-1 : Int) < s.1
  omega
 ·exfalso
  revert h'
  show 0 ≤ (-1 : Int) → False
  omega
theorem used_erased (hnd : Nodup D.mp) {n : Int} (hh : hasB D.s n 0 = true) (a b : Int) : usedB (erasedD D n) a b = (decide (a ≠ n) && usedB D a b) := by
 unfold erasedD
 rw [if_pos hh]
 unfold eraseD usedB
 simp only
 rw [look_delTo _ _ _ hnd]
 cases hb : hasB D.s a b with
 | false => simp
 | true =>
  have h1 := (hasB_iff _ _ _).1 hb
  by_cases ha : a = n
  ·rw [if_pos ⟨ha, h1.2.2.1, by simp only; omega⟩]
   simp [ha]
  ·rw [if_neg (fun h => ha h.1)]
   simp [ha]
theorem LInv.erase (h : LInv D g) (hnd : Nodup D.mp) (a : Int) : LInv (lEraseD D g a) (lEraseG D.s g a) := by
 unfold lEraseD lEraseG
 split
 ·rename_i he
  have hf : fitsB a 0 (D.s.1 - 1) = true := by
   cases hf : fitsB a 0 (D.s.1 - 1) with
   | true => rfl
   | false => unfold lEraseE at he; rw [if_pos hf] at he; exact absurd he (by decide)
  have hx : g.st.getD a.toNat 0 ≠ 1 := fun hx => by
   unfold lEraseE at he
   rw [if_neg (by rw [hf]; decide), if_pos hx] at he
   exact absurd he (by decide)
  unfold fitsB at hf
  rw [decide_eq_true_iff] at hf
  have hh : hasB D.s a 0 = true := (hasB_iff _ _ _).2 ⟨by omega, by omega, Int.le_refl _, by have := h.sh.b0; omega⟩
  have hs : (erasedD D a).s = D.s := by unfold erasedD; rw [if_pos hh]; rfl
  have hu := used_erased hnd hh
  refine ⟨by rw [hs]; exact h.sh, by simp [h.len], by rw [hs]; exact h.hi, h.zero, fun ho => ?_, fun i hi h0 b => ?_, fun ho b hb => ?_, h.nx⟩
  ·obtain ⟨h1, h2, h3⟩ := h.one ho
   refine ⟨?_, h2, by rw [hs]; exact h3⟩
   show (g.st.set a.toNat 0)[g.op.toNat]? = some 1
   rw [List.getElem?_set, if_neg (fun e => hx (by rw [e, List.getD_eq_getElem?_getD, h1]; rfl))]
   exact h1
  ·rw [hs] at hi
   rw [hu]
   by_cases hia : (i : Int) = a
   ·simp [hia]
   ·have h0 : (g.st.set a.toNat 0)[i]? = some 0 := h0
    rw [List.getElem?_set, if_neg (by omega)] at h0
    rw [h.free i hi h0 b, Bool.and_false]
  ·show usedB _ g.op b = false
   rw [hu, h.opn ho b hb, Bool.and_false]
 ·exact h
end
end Go.Proofs.YtmbiebdcnadhkaaGreat.Fl
namespace Go.Proofs.YtmbiebdcnadhkaaGreat.Fl
open Go.RowKit Go.Proofs.YtmbiebdcnadhkaaGreatW.PrintWords Go.Proofs.YtmbiebdcnadhkaaGreatW.PrintMore Go.Maps
def mayB (s : Int × Int × Int) : Bool := shapeB s && decide (4 ≤ s.1)
set_option maxHeartbeats 1000000 in
set_option maxRecDepth 100000 in
theorem May_any (s : Int × Int × Int) (w : World) : Calls Tryz.prog 21 #[.agg #[.int .i64 s.1, .int .i64 s.2.1, .int .i64 s.2.2]] w fun e w' => e = .returned (.bool (mayB s)) ∧ Below w.heap.size w w' := by
 obtain ⟨W, hW⟩ : ∃ W, W = w.alloc (.cells #[.int .i64 s.1, .int .i64 s.2.1, .int .i64 s.2.2] 23) := ⟨_, rfl⟩
 have q0 : W.heap[w.heap.size]? = some (.cells #[.int .i64 s.1, .int .i64 s.2.1, .int .i64 s.2.2] 23 (0, 0)) := by rw [hW]; exact blk_new w _
 have qb : Below w.heap.size w W := by rw [hW]; exact below_alloc (Below.refl _ _) _
 have k0 := bcell q0 0
 have k1 := bcell q0 1
 have k2 := bcell q0 2
 have HW := Lib.hid hW
 have Q0 := Lib.hid q0
 have QB := Aside0.mk qb
 clear hW q0 qb
 cases hs : shapeB s with
 | false =>
  have HS := Lib.hid hs
  have hm : mayB s = false := by unfold mayB; rw [hs]; rfl
  have HM := Lib.hid hm
  rw [hm]
  clear hs hm
  go_enter Tryz.func21, Tryz.ntmps21
  go_wp2_with (first
   | (rw [← HW.out])
   | (go_at_call 52; (with_reducible refine (RShape_any _ _).mono ?_); rw [HS.out]; rintro e w3 ⟨rfl, hb⟩; have HB := Aside0.mk hb; clear hb)
   | fail)
  go_ret
  exact ⟨rfl, QB.out.trans (HB.out.mono QB.out.size)⟩
 | true =>
  have HS := Lib.hid hs
  have hm : mayB s = decide (s.1 ≥ 4) := by unfold mayB; rw [hs]; rfl
  have HM := Lib.hid hm
  rw [hm]
  clear hs hm
  go_enter Tryz.func21, Tryz.ntmps21
  go_wp2_with (first
   | (rw [← HW.out])
   | (go_at_call 52; (with_reducible refine (RShape_any _ _).mono ?_); rw [HS.out]; rintro e w3 ⟨rfl, hb⟩; have HB := Aside0.mk hb; have j0 : w3.cell? ⟨w.heap.size, 0, none⟩ = some (.int .i64 s.1) := bcell ((hb.block _ (blt Q0.out)).trans Q0.out) 0; clear hb)
   | fail)
  go_ret
  exact ⟨rfl, QB.out.trans (HB.out.mono QB.out.size)⟩
end Go.Proofs.YtmbiebdcnadhkaaGreat.Fl
namespace Go.Proofs.YtmbiebdcnadhkaaGreat.Fl
open Go.RowKit Go.Proofs.YtmbiebdcnadhkaaGreatW.PrintWords Go.Proofs.YtmbiebdcnadhkaaGreatW.PrintMore Go.Maps
def grOf (s : Int × Int × Int) (g : LG) : LG := ⟨g.st.take s.1.toNat, g.op, g.pg, g.nx⟩
theorem GSim.of (s : Int × Int × Int) (g : LG) : GSim s g (grOf s g) := ⟨rfl, rfl, rfl, rfl⟩
theorem GSim.eq {s : Int × Int × Int} {g gr : LG} (h : GSim s g gr) : gr = grOf s g := by
 obtain ⟨a, b, c, d⟩ := gr
 obtain ⟨h1, h2, h3, h4⟩ := h
 simp only at h1 h2 h3 h4
 subst h1 h2 h3 h4
 rfl
def headD (D : PD) (g : LG) (m : Nat) : PD := appD D (m : Int) 0 0 (Fl.rec 1 g.nx [])
def headP (s : Int × Int × Int) (ps : List Pg) (g : LG) (m : Nat) : List Pg := appP s ps (m : Int) 0 0 (Fl.rec 1 g.nx [])
inductive PutStep (D : PD) (g : LG) (ps : List Pg) (kind : Int) (l : List Int) (need : Int) : Adr → Int → PD → LG → List Pg → Prop
 | head (hk : kind = 1) : PutStep D g ps kind l need (0, 0) 1 D g ps
 | big (hk : kind ≠ 1) (h1 : fitsS D.s 1 l.length = false) : PutStep D g ps kind l need (0, 0) 10 D g ps
 | full (hk : kind ≠ 1) (h1 : fitsS D.s 1 l.length = true) (h2 : g.op < 0 ∨ 0 ≤ g.op ∧ fitsS D.s g.pg l.length = false) (h3 : (cnt 0 (g.st.take D.s.1.toNat) : Int) < need) : PutStep D g ps kind l need (0, 0) 5 D g ps
 | app (hk : kind ≠ 1) (h1 : fitsS D.s 1 l.length = true) (h2 : 0 ≤ g.op) (h3 : fitsS D.s g.pg l.length = true) : PutStep D g ps kind l need (g.op, g.pg) 0 (appD D g.op g.pg l.length (Fl.rec kind (g.nx - 1) l)) { g with pg := g.pg + (kpg D.s l.length : Int) } (appP D.s ps g.op g.pg l.length (Fl.rec kind (g.nx - 1) l))
 | turn (m : Nat) (hk : kind ≠ 1) (h1 : fitsS D.s 1 l.length = true) (h2 : g.op < 0 ∨ 0 ≤ g.op ∧ fitsS D.s g.pg l.length = false) (h3 : ¬ (cnt 0 (g.st.take D.s.1.toNat) : Int) < need) (h4 : (m : Int) < D.s.1) (h5 : g.st[m]? = some 0) (h6 : (sealG g).st[m]? = some 0) (h7 : ∀ i, i < m → (sealG g).st[i]? ≠ some 0) (h8 : ∀ r, FirstAt (sealG g).st 0 r → r = (m : Int)) :
  PutStep D g ps kind l need ((m : Int), 1) 0 (appD (headD D g m) (m : Int) 1 l.length (Fl.rec kind g.nx l)) { st := (sealG g).st.set m 1, op := (m : Int), pg := 1 + (kpg D.s l.length : Int), nx := g.nx + 1 } (appP D.s (headP D.s ps g m) (m : Int) 1 l.length (Fl.rec kind g.nx l))
section
variable {N0 p q r t x cap : Nat} {rest : List Value} {F : (Nat → Prop) → PD → World → Prop} {G : (Nat → Prop) → List Pg → World → Prop} {K : Nat → Prop} {D D2 : PD} {g g2 : LG} {ps ps2 : List Pg} {w : World} {A : Option Addr} {c : Nat} {l : List Int} {kind need er : Int} {at_ : Adr}
theorem put_total (hi : LInv D g) (hn : 1 ≤ need) (ps : List Pg) (kind : Int) (l : List Int) : ∃ at_ er D2 g2 ps2, PutStep D g ps kind l need at_ er D2 g2 ps2 := by
 by_cases hk : kind = 1
 ·exact ⟨_, _, _, _, _, .head hk⟩
 cases h1 : fitsS D.s 1 l.length with
 | false => exact ⟨_, _, _, _, _, .big hk h1⟩
 | true =>
  have hd : (0 ≤ g.op ∧ fitsS D.s g.pg l.length = true) ∨ (g.op < 0 ∨ 0 ≤ g.op ∧ fitsS D.s g.pg l.length = false) := by
   by_cases h0 : g.op < 0
   ·exact .inr (.inl h0)
   ·cases h2 : fitsS D.s g.pg l.length with
    | false => exact .inr (.inr ⟨by omega, rfl⟩)
    | true => exact .inl ⟨by omega, rfl⟩
  rcases hd with ⟨h2, h3⟩ | hd
  ·exact ⟨_, _, _, _, _, .app hk h1 h2 h3⟩
  ·by_cases h3 : (cnt 0 (g.st.take D.s.1.toNat) : Int) < need
   ·exact ⟨_, _, _, _, _, .full hk h1 hd h3⟩
   ·obtain ⟨m, h4, h5, h6, h7, h8⟩ := hi.first (by omega)
    exact ⟨_, _, _, _, _, .turn m hk h1 hd h3 h4 h5 h6 h7 h8⟩
theorem headD_s (D : PD) (g : LG) (m : Nat) : (headD D g m).s = D.s := appD_s _ _ _ _ _
theorem LInv.turn_fit (hi : LInv D g) {m : Nat} (h4 : (m : Int) < D.s.1) (h6 : (sealG g).st[m]? = some 0) (hn : l.length ≤ 4096) (h1 : fitsS D.s 1 l.length = true) : LInv (headD D g m) ⟨(sealG g).st.set m 1, (m : Int), 1, g.nx + 1⟩ ∧ appE (headD D g m) (m : Int) 1 l.length = ((kpg D.s l.length : Int), 0) := by
 have h := hi.turn h4 h6
 have h2 := h.fit (l := l) (by show (0 : Int) ≤ (m : Int); omega) hn (by show fitsS (appD D _ _ _ _).s 1 _ = true; rw [appD_s]; exact h1)
 refine ⟨h, ?_⟩
 have h3 := h2.1
 rw [appD_s] at h3
 exact h3
theorem PutStep.driver (hp : PutStep D g ps kind l need at_ er D2 g2 ps2) (hi : LInv D g) (hsim : Sim D D.s ps) (hpl : ps.length < 800000) (hn1 : g.nx < 900000) (hkk : KindOk kind) (hBl : Byt l) (hm : l.length ≤ 4096)
  (hF : DevFrame N0 p F) (hSt : ∀ D, Stays (fun K w => F K D w)) (h : F K D w) (hl : LogIs q p g w) (hq : K q) (hN : N0 ≤ q) (hc : l.length ≤ c) (hCx : ∀ X, Below N0 w X → Kept (fun k => K k ∧ k ≠ q) w X → kB.C X A l.length l) :
  Calls Tryz.prog 45 #[.pointer (some ⟨q, 0, none⟩), .int .u8 kind, .slice A l.length c, .int .i64 need] w (PutPost N0 q p F K w at_ er D2 g2) := by
 have hC := hCx w (Below.refl _ _) (fun _ _ => rfl)
 have hdl := hsim.dirtyLe
 have hnx := hi.nx
 have hm1 : l.length < 1000000 := by omega
 have hkp := kpg_bd hi.sh hm
 cases hp with
 | head hk => subst hk; exact LPut_head hF hSt h hl hq hN hC hc hm1
 | big hk h1 => exact LPut_big hF hSt h hl hq hN hC hc hm1 hk h1
 | full hk h1 h2 h3 =>
  rcases h2 with h2 | ⟨h2, h2'⟩
  ·exact LPut_full0 hF hSt h hl hq hN hC hc hm1 hk h1 h2 h3
  ·exact LPut_fullN hF hSt h hl hq hN hC hc hm1 hk h1 h2 h2' h3
 | app hk h1 h2 h3 =>
  obtain ⟨h4, h5, h6⟩ := hi.one h2
  obtain ⟨h7, h8⟩ := hi.fit h2 hm h3
  have hb1 := hi.sh.b1
  exact LPut_app hF hSt h hl hq hN hC hc hm1 hk h1 h2 h3 hkk hBl hCx (by omega) ⟨by omega, by omega⟩ hnx (by omega) (by omega) (by omega) h7
 | turn m hk h1 h2 h3 h4 h5 h6 h7 h8 =>
  obtain ⟨h9, h10⟩ := hi.turn_fit (l := l) h4 h6 hm h1
  have hhi := hi.hi
  have ha1 := hi.sh.a1
  have hdd : (appD D (m : Int) 0 0 (Fl.rec 1 g.nx [])).dirty.length < 900000 := by
   have e1 := (hsim.app (m : Int) 0 0 (Fl.rec 1 g.nx [])).dirtyLe
   have e2 := appP_len hi.sh ps (m : Int) 0 0 (bs := Fl.rec 1 g.nx []) (by rw [rec_len]; rfl)
   omega
  rcases h2 with h2 | ⟨h2, h2'⟩
  ·exact LPut_turn0 hF hSt h hl hq hN hC hc hm1 hk h1 h2 hkk hBl hCx (by omega) hdd (by omega) ⟨by omega, by omega⟩ (by omega) (by omega) (by omega) h8 (by omega) h10 h3
  ·exact LPut_turnN hF hSt h hl hq hN hC hc hm1 hk h1 h2 h2' hkk hBl hCx (by omega) hdd (by omega) ⟨by omega, by omega⟩ (by omega) (by omega) (by omega) h8 (by omega) h10 h3
theorem PutStep.ref (hp : PutStep D g ps kind l need at_ er D2 g2 ps2) (hi : LInv D g) (hpl : ps.length < 800000) (hn1 : g.nx < 900000) (hkk : KindOk kind) (hBl : Byt l) (hm : l.length ≤ 4096)
  (hG : RefFrame N0 x D.s G) (hSt : ∀ ps, Stays (fun K w => G K ps w)) (h : G K ps w) (hl : RLog r t x cap rest (grOf D.s g) w) (hr : K r) (ht : K t) (hNr : N0 ≤ r) (hNt : N0 ≤ t) (hc : l.length ≤ c) (hCx : ∀ X, Below N0 w X → kB.C X A l.length l) :
  Calls Tryz.prog 54 #[.pointer (some ⟨r, 0, none⟩), .int .u8 kind, .slice A l.length c, .int .i64 need] w (RPutPost N0 r t x cap rest G K w at_ er ps2 (grOf D.s g2)) := by
 have hsh := hi.sh
 have hnx := hi.nx
 have hkp := kpg_bd hi.sh hm
 have hb0 := hsh.b0
 have hb1 := hsh.b1
 have ha0 := hsh.a0
 have ha1 := hsh.a1
 have hsim := GSim.of D.s g
 have hsl := hsim.len hi
 have hhi := hi.hi
 have hss := hsim.sealed hi
 have hbig : fitsS D.s 1 l.length = true → (kpg D.s l.length : Int) + 1 ≤ D.s.2.1 := fun h1 => by
  have := (fits_iff hm (by omega) (by omega)).1 h1
  omega
 cases hp with
 | head hk => subst hk; exact RPut_head hG hSt h hl hr ht hNr hNt hsh hc hm
 | big hk h1 =>
  refine RPut_big hG hSt h hl hr ht hNr hNt hsh hc hm hk ?_
  have : ¬ (1 + (kpg D.s l.length : Int) ≤ D.s.2.1) := fun hh => by
   rw [(fits_iff hm (by omega) (by omega)).2 hh] at h1
   exact absurd h1 (by decide)
  omega
 | full hk h1 h2 h3 =>
  rcases h2 with h2 | ⟨h2, h2'⟩
  ·exact RPut_full0 hG hSt h hl hr ht hNr hNt hsh hc hm hk (hbig h1) h2 (by omega) h3
  ·obtain ⟨h4, h5, h6⟩ := hi.one h2
   refine RPut_fullN hG hSt h hl hr ht hNr hNt hsh hc hm hk (hbig h1) h2 (show 0 ≤ g.pg by omega) (show g.pg ≤ 100000 by omega) ?_ (by omega) h3
   have : ¬ (g.pg + (kpg D.s l.length : Int) ≤ D.s.2.1) := fun hh => by
    rw [(fits_iff hm (by omega) (by omega)).2 hh] at h2'
    exact absurd h2' (by decide)
   show D.s.2.1 < g.pg + _
   omega
 | app hk h1 h2 h3 =>
  obtain ⟨h4, h5, h6⟩ := hi.one h2
  have h8 : g.pg + (kpg D.s l.length : Int) ≤ D.s.2.1 := (fits_iff hm (by omega) (by omega)).1 h3
  exact RPut_app hG hSt h hl hr ht hNr hNt hsh hc hm hk (hbig h1) h2 (show 0 ≤ g.pg by omega) (show g.pg ≤ 100000 by omega) h8 hkk hBl hCx (by omega) ⟨show 0 ≤ g.nx - 1 by omega, show g.nx - 1 ≤ _ by omega⟩ hnx (show g.nx < 1000000 by omega)
 | turn m hk h1 h2 h3 h4 h5 h6 h7 h8 =>
  have e2 := appP_len hi.sh ps (m : Int) 0 0 (bs := Fl.rec 1 g.nx []) (by rw [rec_len]; rfl)
  have hm0 : (rsealG (grOf D.s g)).st[m]? = some 0 := by rw [hss.st, List.getElem?_take_of_lt (by omega)]; exact h6
  have hmf : ∀ i, i < m → (rsealG (grOf D.s g)).st[i]? ≠ some 0 := fun i him => by rw [hss.st, List.getElem?_take_of_lt (by omega)]; exact h7 i him
  have hfin : ({ st := (rsealG (grOf D.s g)).st.set m 1, op := (m : Int), pg := 1 + (kpg D.s l.length : Int), nx := (grOf D.s g).nx + 1 } : LG) = grOf D.s { st := (sealG g).st.set m 1, op := (m : Int), pg := 1 + (kpg D.s l.length : Int), nx := g.nx + 1 } := by
   unfold grOf at hss ⊢
   rw [hss.st]
   simp only [List.take_set]
  rw [← hfin]
  rcases h2 with h2 | ⟨h2, h2'⟩
  ·exact RPut_turn0 hG hSt h hl hr ht hNr hNt hsh hc hm hk (hbig h1) h2 (by omega) (show g.op < _ by omega) h3 hkk hBl hCx (by omega) (show (appP D.s ps (m : Int) 0 0 (Fl.rec 1 g.nx [])).length < 900000 by omega) hm0 hmf ⟨show 0 ≤ g.nx by omega, show g.nx ≤ _ by omega⟩ (show 0 ≤ g.nx by omega) (show g.nx < 1000000 by omega)
  ·obtain ⟨h14, h15, h16⟩ := hi.one h2
   refine RPut_turnN hG hSt h hl hr ht hNr hNt hsh hc hm hk (hbig h1) h2 (show 0 ≤ g.pg by omega) (show g.pg ≤ 100000 by omega) ?_ (by omega) (show g.op < _ by omega) h3 hkk hBl hCx (by omega) (show (appP D.s ps (m : Int) 0 0 (Fl.rec 1 g.nx [])).length < 900000 by omega) hm0 hmf ⟨show 0 ≤ g.nx by omega, show g.nx ≤ _ by omega⟩ (show 0 ≤ g.nx by omega) (show g.nx < 1000000 by omega)
   have : ¬ (g.pg + (kpg D.s l.length : Int) ≤ D.s.2.1) := fun hh => by
    rw [(fits_iff hm (by omega) (by omega)).2 hh] at h2'
    exact absurd h2' (by decide)
   show D.s.2.1 < g.pg + _
   omega
structure PutKeep (D : PD) (g : LG) (ps : List Pg) (D2 : PD) (g2 : LG) (ps2 : List Pg) : Prop where
 sh : D2.s = D.s
 inv : LInv D2 g2
 sim : Sim D2 D2.s ps2
 byt : BytP ps → BytP ps2
 len : ps2.length ≤ ps.length + 514
 nx1 : g.nx ≤ g2.nx
 nx2 : g2.nx ≤ g.nx + 1
theorem PutStep.keep (hp : PutStep D g ps kind l need at_ er D2 g2 ps2) (hi : LInv D g) (hsim : Sim D D.s ps) (hm : l.length ≤ 4096) (hkk : KindOk kind) (hBl : Byt l) (hn1 : g.nx < 900000) : PutKeep D g ps D2 g2 ps2 := by
 have hnx := hi.nx
 have stay : PutKeep D g ps D g ps := ⟨rfl, hi, hsim, id, by omega, by omega, by omega⟩
 cases hp with
 | head hk => exact stay
 | big hk h1 => exact stay
 | full hk h1 h2 h3 => exact stay
 | app hk h1 h2 h3 =>
  have h4 := appP_len hi.sh ps g.op g.pg l.length (bs := Fl.rec kind (g.nx - 1) l) (rec_len _ _ _)
  exact ⟨appD_s _ _ _ _ _, hi.app h2 hm h3 _ _, by rw [appD_s]; exact hsim.app _ _ _ _, fun hb => hb.app hi.sh _ _ _ (rec_byt hkk hBl), by omega, Int.le_refl _, by show g.nx ≤ g.nx + 1; omega⟩
 | turn m hk h1 h2 h3 h4 h5 h6 h7 h8 =>
  obtain ⟨h9, h10⟩ := hi.turn_fit (l := l) h4 h6 hm h1
  have e1 := appP_len hi.sh ps (m : Int) 0 0 (bs := Fl.rec 1 g.nx []) (by rw [rec_len]; rfl)
  have e2 := appP_len hi.sh (headP D.s ps g m) (m : Int) 1 l.length (bs := Fl.rec kind g.nx l) (rec_len _ _ _)
  have e3 : (headP D.s ps g m).length ≤ ps.length + 257 := e1
  have h11 := h9.app (l := l) (by show (0 : Int) ≤ (m : Int); omega) hm (by show fitsS (headD D g m).s 1 _ = true; rw [headD_s]; exact h1) kind g.nx
  have hk1 : KindOk 1 := ⟨by decide, by decide⟩
  refine ⟨(appD_s _ _ _ _ _).trans (headD_s _ _ _), ?_, ?_, fun hb => (hb.app hi.sh _ _ _ (rec_byt hk1 Byt.nil)).app hi.sh _ _ _ (rec_byt hkk hBl), by omega, by show g.nx ≤ g.nx + 1; omega, Int.le_refl _⟩
  ·rw [headD_s] at h11
   exact h11
  ·rw [appD_s, headD_s]
   exact (hsim.app _ _ _ _).app _ _ _ _
end
end Go.Proofs.YtmbiebdcnadhkaaGreat.Fl
