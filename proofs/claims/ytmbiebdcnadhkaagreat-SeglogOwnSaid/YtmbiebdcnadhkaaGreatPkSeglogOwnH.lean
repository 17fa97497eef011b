/- The parts of this proof, one after the other (wip/tools/packall.py, shake.py). -/
import Derived.Test.YtmbiebdcnadhkaaGreatPkSeglogOwnG
import Derived.Test.YtmbiebdcnadhkaaGreatPkSeglogOwnF
import Derived.Test.YtmbiebdcnadhkaaGreatPkSeglogOwnC
import Derived.Test.YtmbiebdcnadhkaaGreatPkSeglogOwnB
import Derived.Shelf.SlSortCmp.WholeK
import Derived.Lib.MinMax
set_option linter.unusedVariables false
set_option linter.unusedSimpArgs false
namespace Go.Proofs.YtmbiebdcnadhkaaGreat.Fl
open Go.RowKit Go.Proofs.YtmbiebdcnadhkaaGreatW.PrintWords Go.Proofs.YtmbiebdcnadhkaaGreatW.PrintMore Go.Maps
abbrev kI : Kd Int := Kd.int .i64
theorem info_int : (Tryz.prog.info? TNi).map (fun i => (i.zero, i.size, i.bytes)) = some (some (.int .i64 0), 1, 8) := by kernel_rfl
theorem kI_mk (w : World) (base : Nat) (okp : Nat → Prop) (x : Int) : kI.M w base okp x [.int .i64 x] := rfl
theorem row_blk {w : World} {base : Nat} {ok : Nat → Prop} {v : Value} {l : List Int} (h : kI.R TNi w base ok v l) (h0 : 0 < l.length) :
  ∃ g cap rest, v = .slice (some ⟨g, 0, none⟩) l.length cap ∧ base ≤ g ∧ ok g ∧ l.length ≤ cap ∧ w.heap[g]? = some (.cells (l.map (fun x => Value.int .i64 x) ++ rest).toArray TNi (0, 0)) := by
 have ho := Kd.own_of_R h
 rcases ho.2 with ⟨_, h2⟩ | ⟨g, cap, cur, rfl, hb, hg, h1, h2, h3, h4⟩
 ·omega
 ·refine ⟨g, cap, cur.toList.drop l.length, rfl, hb, h.1 g rfl, h1, ?_⟩
  rw [hg]
  have h5 : l.map (fun x => Value.int .i64 x) = cur.toList.take l.length := by rw [← Nat.mul_one l.length, h4]; rfl
  rw [h5, List.take_append_drop]
theorem rep_snoc (k : Nat) : List.replicate k (0 : Int) ++ [0] = List.replicate (k + 1) 0 := (List.replicate_succ' ..).symm
def RNewPost (w : World) (s : Int × Int × Int) (e : Ending) (w' : World) : Prop :=
 ∃ r t x cap rest, e = .returned (.pointer (some ⟨r, 0, none⟩)) ∧ RLog r t x cap rest (grOf s (newG 1)) w' ∧ w.heap.size ≤ r ∧ w.heap.size ≤ t ∧ w.heap.size ≤ x ∧ r ≠ x ∧ t ≠ x ∧ w'.heap[x]? = some (.cells #[.int .i64 s.1, .int .i64 s.2.1, .int .i64 s.2.2, .slice none 0 0] TX (0, 0)) ∧ Below w.heap.size w w'
set_option maxHeartbeats 2000000 in
set_option maxRecDepth 100000 in
theorem RNew_any (s : Int × Int × Int) (hs : ShapeOk s) (w : World) : Calls Tryz.prog 53 #[.agg #[.int .i64 s.1, .int .i64 s.2.1, .int .i64 s.2.2]] w (RNewPost w s) := by
 obtain ⟨n, hn⟩ := Int.eq_ofNat_of_zero_le (show 0 ≤ s.1 by have := hs.a0; omega)
 have n1 : 1 ≤ n := by have := hs.a0; omega
 have n2 : n ≤ 16 := by have := hs.a1; omega
 obtain ⟨W0, hW0⟩ : ∃ W0, W0 = w.alloc (.cells #[.int .i64 s.1, .int .i64 s.2.1, .int .i64 s.2.2] 23) := ⟨_, rfl⟩
 obtain ⟨W1, hW1⟩ : ∃ W1, W1 = W0.alloc (.cells #[.int .i64 s.1, .int .i64 s.2.1, .int .i64 s.2.2, .slice none 0 0] TX) := ⟨_, rfl⟩
 obtain ⟨W2, hW2⟩ : ∃ W2, W2 = W1.alloc (.cells #[.pointer (some ⟨W0.heap.size, 0, none⟩), .slice none 0 0, .int .i64 (-1), .int .i64 0, .int .u64 1] TRL) := ⟨_, rfl⟩
 have s0 : W0.heap.size = w.heap.size + 1 := by rw [hW0, size_alloc]
 have s1 : W1.heap.size = w.heap.size + 2 := by rw [hW1, size_alloc, s0]
 have b0 : W0.heap[w.heap.size]? = some (.cells #[.int .i64 s.1, .int .i64 s.2.1, .int .i64 s.2.2] 23 (0, 0)) := by rw [hW0]; exact blk_new w _
 have q01 : Below W0.heap.size W0 W1 := by rw [hW1]; exact below_alloc (Below.refl _ _) _
 have q12 : Below W1.heap.size W1 W2 := by rw [hW2]; exact below_alloc (Below.refl _ _) _
 have b1 : W1.heap[W0.heap.size]? = some (.cells #[.int .i64 s.1, .int .i64 s.2.1, .int .i64 s.2.2, .slice none 0 0] TX (0, 0)) := by rw [hW1]; exact blk_new _ _
 have b2 : W2.heap[W1.heap.size]? = some (.cells #[.pointer (some ⟨W0.heap.size, 0, none⟩), .slice none 0 0, .int .i64 (-1), .int .i64 0, .int .u64 1] TRL (0, 0)) := by rw [hW2]; exact blk_new _ _
 have a0 : W2.heap[w.heap.size]? = some (.cells #[.int .i64 s.1, .int .i64 s.2.1, .int .i64 s.2.2] 23 (0, 0)) := (q12.block _ (by omega)).trans ((q01.block _ (by omega)).trans b0)
 have a1 : W2.heap[W0.heap.size]? = some (.cells #[.int .i64 s.1, .int .i64 s.2.1, .int .i64 s.2.2, .slice none 0 0] TX (0, 0)) := (q12.block _ (by omega)).trans b1
 have bb : Below w.heap.size w W2 := by rw [hW2, hW1, hW0]; exact below_alloc (below_alloc (below_alloc (Below.refl _ _) _) _) _
 have k0 := bcell b0 0
 have k1 := bcell b0 1
 have k2 := bcell b0 2
 have HW0 := Lib.hid hW0
 have HW1 := Lib.hid hW1
 have HW2 := Lib.hid hW2
 have A0 := Lib.hid a0
 have A1 := Lib.hid a1
 have B2 := Lib.hid b2
 have BB := Aside0.mk bb
 have HN := Lib.hid hn
 have S0 := Lib.hid s0
 have S1 := Lib.hid s1
 clear hW0 hW1 hW2 s0 s1 b0 q01 q12 b1 b2 a0 a1 bb hs hn
 go_enter Tryz.func53, Tryz.ntmps53
 go_wp2_with (first
  | (rw [← HW0.out])
  | (rw [← HW1.out])
  | (rw [← HW2.out])
  | fail)
 go_loopw [4] (fun v4 wr => ∃ (k : Nat) (v : Value), k ≤ n ∧ v4 = .int .i64 (k : Int) ∧ wr.heap[w.heap.size]? = some (.cells #[.int .i64 s.1, .int .i64 s.2.1, .int .i64 s.2.2] 23 (0, 0)) ∧ wr.heap[W0.heap.size]? = some (.cells #[.int .i64 s.1, .int .i64 s.2.1, .int .i64 s.2.2, .slice none 0 0] TX (0, 0)) ∧ wr.heap[W1.heap.size]? = some (.cells #[.pointer (some ⟨W0.heap.size, 0, none⟩), v, .int .i64 (-1), .int .i64 0, .int .u64 1] TRL (0, 0)) ∧ kI.R TNi wr w.heap.size (fun j => w.heap.size ≤ j) v (List.replicate k 0) ∧ Below w.heap.size w wr) (fun v4 _ => n - (intOf v4).toNat)
 case atStart => exact ⟨0, _, Nat.zero_le _, rfl, A0.out, A1.out, B2.out, Kd.R_nil _ _ _ _ _, BB.out⟩
 case round =>
  obtain ⟨k, v, hk, rfl, h0, h1, h2, hR, hb⟩ := hrel
  have e0 := bcell h0 0
  have e1 := bcell h2 1
  have f1 := bfrozen h2 1
  have H0 := Lib.hid h0
  have H1 := Lib.hid h1
  have H2 := Lib.hid h2
  have HR := Aside0.mk hR
  have HB := Aside0.mk hb
  obtain ⟨g9, c9, rfl⟩ := Kd.R_slice hR
  rw [List.length_replicate] at *
  rw [HN.out] at e0
  clear h0 h1 h2 hR hb k0 k1 k2
  by_cases hlt : k < n
  ·have q1 : (k : Int) < (n : Int) := by omega
   go_wp2_with (at_builtin; refine Kd.R_append kI (w0 := w) w.heap.size rfl (.tmp 20) (.tmp 21) 55 TNi (.int .i64 0) 8 rfl Tryz.underlying55 info_int rfl (by decide) (by decide) (.slice g9 k c9) (List.replicate k 0) 0 [.int .i64 0] (fun j => w.heap.size ≤ j) (fun _ => False) rfl rfl (kI_mk _ _ _ _) (fun _ h => h.elim) (fun j hj => Nat.le_trans HB.out.size hj) HR.out HB.out HB.out.size (by rw [List.length_replicate]; omega) ?_; intro v1 w3 hr1 hb2 hg hat; rw [rep_snoc] at hr1; obtain ⟨A8, c8, hv8⟩ := Kd.R_slice hr1; rw [List.length_replicate] at hv8; subst hv8; have n0 := (hg.block _ (blt H0.out) (Kd.R_ne HR.out H0.out (by decide))).trans H0.out; have n1 := (hg.block _ (blt H1.out) (Kd.R_ne HR.out H1.out (by decide))).trans H1.out; have n2 := (hg.block _ (blt H2.out) (Kd.R_ne HR.out H2.out (by decide))).trans H2.out; have z1 : w3.cell? ⟨W1.heap.size, 1, none⟩ = some (.slice g9 k c9) := bcell n2 1; have zf := bfrozen n2 1; have N0 := Lib.hid n0; have N1 := Lib.hid n1; have N2 := Lib.hid n2; have HR1 := Aside0.mk hr1; have HB2 := Aside0.mk hb2; clear hr1 hb2 hg hat n0 n1 n2)
   have u0 := S0.out
   have u1 := S1.out
   refine ⟨⟨k + 1, _, by omega, by go_num, (Below.heap_setCell _ ⟨W1.heap.size, 1, none⟩ _ w.heap.size (by show w.heap.size ≠ W1.heap.size; omega)).trans N0.out, (Below.heap_setCell _ ⟨W1.heap.size, 1, none⟩ _ W0.heap.size (by show W0.heap.size ≠ W1.heap.size; omega)).trans N1.out, (setCell_blk N2.out 1 _).trans rfl, Kd.R_set HR1.out N2.out (by decide) 1 _, HB2.out.setCell (p := ⟨W1.heap.size, 1, none⟩) (by show w.heap.size ≤ W1.heap.size; omega) _⟩, by simp [intOf]; omega⟩
  ·obtain rfl : k = n := by omega
   go_wp2_with fail
   go_ret
   have u0 := S0.out
   have u1 := S1.out
   obtain ⟨g, cap, rest, hv, hgb, _, hcap, hgb2⟩ := row_blk HR.out (by rw [List.length_replicate]; omega)
   rw [List.length_replicate] at hv
   have hg : grOf s (newG 1) = ⟨List.replicate k 0, -1, 0, 1⟩ := by
    show (⟨(List.replicate 16 0).take s.1.toNat, -1, 0, 1⟩ : LG) = _
    rw [HN.out, Int.toNat_natCast, List.take_replicate, Nat.min_eq_left (by omega)]
   refine ⟨W1.heap.size, g, W0.heap.size, cap, rest, rfl, ?_, by omega, hgb, by omega, by omega, ?_, H1.out, HB.out⟩
   ·rw [hg]
    refine ⟨?_, hgb2⟩
    rw [H2.out, hv]
    simp [rlogC]
   ·rintro rfl
    have := H1.out
    rw [hgb2] at this
    injection this with this
    injection this with _ this _
    exact absurd this (by decide)
end Go.Proofs.YtmbiebdcnadhkaaGreat.Fl
namespace Go.Proofs.YtmbiebdcnadhkaaGreat.Fl
open Go.RowKit Go.Proofs.YtmbiebdcnadhkaaGreatW.PrintWords Go.Proofs.YtmbiebdcnadhkaaGreatW.PrintMore Go.Maps
inductive Deeds (s : Int × Int × Int) : Nat → PD → LG → List Pg → Prop
 | new : Deeds s 0 ⟨s, [], []⟩ (newG 1) []
 | put {k : Nat} {D : PD} {g : LG} {ps : List Pg} {kind : Int} {l : List Int} {need : Int} {at_ : Adr} {er : Int} {D2 : PD} {g2 : LG} {ps2 : List Pg} (h : Deeds s k D g ps) (hs : Sound D) (hd : Nodup D.mp) (hk : KindOk kind) (hb : Byt l) (hl : l.length ≤ 400) (hn : need = 1 ∨ need = 2) (hp : PutStep D g ps kind l need at_ er D2 g2 ps2) : Deeds s (k + 1) D2 g2 ps2
 | erase {k : Nat} {D : PD} {g : LG} {ps : List Pg} (h : Deeds s k D g ps) (hs : Sound D) (hd : Nodup D.mp) (a : Int) : Deeds s (k + 1) (lEraseD D g a) (lEraseG D.s g a) (rEraseP ps (grOf s g) a)
 | sealed {k : Nat} {D : PD} {g : LG} {ps : List Pg} (h : Deeds s k D g ps) (hs : Sound D) (hd : Nodup D.mp) : Deeds s (k + 1) D (sealG g) ps
 | sync {k : Nat} {D : PD} {g : LG} {ps : List Pg} (h : Deeds s k D g ps) (hs : Sound D) (hd : Nodup D.mp) : Deeds s (k + 1) { D with dirty := [] } g (syncP ps)
structure DInv (s : Int × Int × Int) (k : Nat) (D : PD) (g : LG) (ps : List Pg) : Prop where
 sim : Sim D s ps
 inv : LInv D g
 byt : BytP ps
 len : ps.length ≤ 514 * k
 nx : g.nx ≤ (k : Int) + 1
theorem erase_zero {D : PD} {g : LG} {a : Int} (he : lEraseE D.s g a = 0) (hs : ShapeOk D.s) : hasB D.s a 0 = true := by
 have hf : fitsB a 0 (D.s.1 - 1) = true := by
  cases hf : fitsB a 0 (D.s.1 - 1) with
  | true => rfl
  | false => unfold lEraseE at he; rw [if_pos hf] at he; exact absurd he (by decide)
 unfold fitsB at hf
 rw [decide_eq_true_iff] at hf
 have := hs.b0
 exact (hasB_iff _ _ _).2 ⟨by omega, by omega, Int.le_refl _, by omega⟩
theorem Sim.lerase {D : PD} {g : LG} {ps : List Pg} (h : Sim D D.s ps) (hi : LInv D g) (hd : Nodup D.mp) (a : Int) : Sim (lEraseD D g a) D.s (rEraseP ps (grOf D.s g) a) := by
 have he := (GSim.of D.s g).eraseE hi a
 unfold lEraseD rEraseP
 rw [he]
 split
 ·rename_i h0
  exact h.erase hd a (erase_zero h0 hi.sh)
 ·exact h
theorem Deeds.keep {s : Int × Int × Int} (hs : ShapeOk s) : ∀ {k : Nat} {D : PD} {g : LG} {ps : List Pg}, Deeds s k D g ps → k ≤ 1000 → DInv s k D g ps := by
 intro k D g ps h
 induction h with
 | new => exact fun _ => ⟨Sim.new s, LInv.new hs, BytP.nil, by simp, by show (1 : Int) ≤ _; omega⟩
 | @put k D g ps kind l need at_ er D2 g2 ps2 h _ hd hk hb hl hn hp ih =>
  intro hk2
  obtain ⟨h1, h2, h3, h4, h5⟩ := ih (by omega)
  have hsh := h1.sh
  subst hsh
  obtain ⟨k1, k2, k3, k4, k5, k6, k7⟩ := hp.keep h2 h1 (by omega) hk hb (by omega)
  rw [k1] at k3
  exact ⟨k3, k2, k4 h3, by omega, by omega⟩
 | @erase k D g ps h _ hd a ih =>
  intro hk2
  obtain ⟨h1, h2, h3, h4, h5⟩ := ih (by omega)
  have hsh := h1.sh
  subst hsh
  refine ⟨h1.lerase h2 hd a, h2.erase hd a, ?_, ?_, ?_⟩
  ·unfold rEraseP; split
   ·exact h3.erase a
   ·exact h3
  ·have : (rEraseP ps (grOf D.s g) a).length ≤ ps.length := by
    unfold rEraseP; split
    ·exact List.length_filter_le _ _
    ·exact Nat.le_refl _
   omega
  ·have : (lEraseG D.s g a).nx = g.nx := by unfold lEraseG; split <;> rfl
   omega
 | @sealed k D g ps h _ _ ih =>
  intro hk2
  obtain ⟨h1, h2, h3, h4, h5⟩ := ih (by omega)
  exact ⟨h1, h2.sealed, h3, by omega, by rw [sealG_nx]; omega⟩
 | @sync k D g ps h _ _ ih =>
  intro hk2
  obtain ⟨h1, h2, h3, h4, h5⟩ := ih (by omega)
  exact ⟨h1.sync, h2.sync, h3.sync, by simp [syncP]; omega, by omega⟩
end Go.Proofs.YtmbiebdcnadhkaaGreat.Fl
namespace Go.Proofs.YtmbiebdcnadhkaaGreat.Fl
open Go.RowKit Go.Proofs.YtmbiebdcnadhkaaGreatW.PrintWords Go.Proofs.YtmbiebdcnadhkaaGreatW.PrintMore Go.Maps
structure Pl where
 q : Nat
 p : Nat
 r : Nat
 t : Nat
 x : Nat
 cap : Nat
 rest : List Value
structure LT (K : Nat → Prop) (N0 : Nat) (P : Pl) (s : Int × Int × Int) (D : PD) (g : LG) (ps : List Pg) (gr : LG) (w : World) : Prop where
 two : Two K N0 P.p P.x D s ps w
 log : LogIs P.q P.p g w
 rlog : RLog P.r P.t P.x P.cap P.rest gr w
 kq : K P.q
 kr : K P.r
 kt : K P.t
 nq : N0 ≤ P.q
 nr : N0 ≤ P.r
 nt : N0 ≤ P.t
section
variable {K K' : Nat → Prop} {N0 : Nat} {P : Pl} {s : Int × Int × Int} {D D2 : PD} {g g2 gr gr2 : LG} {ps ps2 : List Pg} {w w' : World}
theorem LT.below (h : LT K N0 P s D g ps gr w) (hb : Below w.heap.size w w') : LT K N0 P s D g ps gr w' := ⟨h.two.below hb, h.log.below hb, h.rlog.below hb, h.kq, h.kr, h.kt, h.nq, h.nr, h.nt⟩
theorem LT.drew (h : LT K N0 P s D g ps gr w) : LT K N0 P s D g ps gr w.drew := h.below ((Below.refl _ w).drew)
theorem LT.keep (h : LT K N0 P s D g ps gr w) (hb : Below w.heap.size w w') : LT (fun k => K k ∨ (w.heap.size ≤ k ∧ k < w'.heap.size)) N0 P s D g ps gr w' := ⟨h.two.keep hb, h.log.below hb, h.rlog.below hb, .inl h.kq, .inl h.kr, .inl h.kt, h.nq, h.nr, h.nt⟩
theorem LT.less (h : LT K N0 P s D g ps gr w) (hk : ∀ k, K' k → K k) (k1 : K' P.q) (k2 : K' P.r) (k3 : K' P.t) : LT K' N0 P s D g ps gr w := ⟨h.two.less hk, h.log, h.rlog, k1, k2, k3, h.nq, h.nr, h.nt⟩
def K3 (P : Pl) (k : Nat) : Prop := k = P.q ∨ k = P.r ∨ k = P.t
theorem LT.three (h : LT K N0 P s D g ps gr w) : LT (K3 P) N0 P s D g ps gr w := h.less (fun k hk => hk.elim (fun e => by rw [e]; exact h.kq) (fun hk => hk.elim (fun e => by rw [e]; exact h.kr) (fun e => by rw [e]; exact h.kt))) (.inl rfl) (.inr (.inl rfl)) (.inr (.inr rfl))
theorem blk_ne {T T' : TypeId} {a b : Nat} {o o' : Array Value} {f f' : Nat × Nat} (h : w.heap[a]? = some (.cells o T f)) (h' : w.heap[b]? = some (.cells o' T' f')) (hT : T ≠ T') : a ≠ b := fun e => by
 rw [e, h'] at h
 injection h with h
 injection h with _ h _
 exact hT h.symm
theorem LT.qr (h : LT K N0 P s D g ps gr w) : P.q ≠ P.r := blk_ne h.log.blk h.rlog.blk (by decide)
theorem LT.qt (h : LT K N0 P s D g ps gr w) : P.q ≠ P.t := blk_ne h.log.blk h.rlog.row (by decide)
theorem LT.lt (h : LT K N0 P s D g ps gr w) : ∀ k, K k → k < w.heap.size := (two_frame N0 P.p P.x s ps).lt h.two
theorem LT.size (h : LT K N0 P s D g ps gr w) : N0 ≤ w.heap.size := h.two.size
theorem LT.sound (h : LT K N0 P s D g ps gr w) : Sound D := (two_frame N0 P.p P.x s ps).sound h.two
theorem LT.drv (h : LT K N0 P s D g ps gr w) (h1 : Two K N0 P.p P.x D2 s ps w') (h2 : LogIs P.q P.p g2 w') (hk : Kept (fun k => K k ∧ k ≠ P.q) w w') : LT K N0 P s D2 g2 ps gr w' :=
 ⟨h1, h2, h.rlog.step (hk _ ⟨h.kr, h.qr.symm⟩) (hk _ ⟨h.kt, h.qt.symm⟩), h.kq, h.kr, h.kt, h.nq, h.nr, h.nt⟩
theorem LT.doc (h : LT K N0 P s D g ps gr w) (h1 : Two K N0 P.p P.x D s ps2 w') (h2 : RLog P.r P.t P.x P.cap P.rest gr2 w') (hk : Kept (fun k => K k ∧ k ≠ P.r ∧ k ≠ P.t) w w') : LT K N0 P s D g ps2 gr2 w' :=
 ⟨h1, ⟨h.log.len, (hk _ ⟨h.kq, h.qr, h.qt⟩).trans h.log.blk⟩, h2, h.kq, h.kr, h.kt, h.nq, h.nr, h.nt⟩
variable {A : Option Addr} {c : Nat} {l : List Int} {kind er : Int} {at_ : Adr} {need : Int}
def DrvPost (K : Nat → Prop) (N0 : Nat) (P : Pl) (s : Int × Int × Int) (D : PD) (g : LG) (ps : List Pg) (gr : LG) (w : World) (v : Value) (e : Ending) (w' : World) : Prop :=
 e = .returned v ∧ LT K N0 P s D g ps gr w' ∧ Below N0 w w' ∧ Kept (fun k => K k ∧ k ≠ P.q) w w'
def DocPost (K : Nat → Prop) (N0 : Nat) (P : Pl) (s : Int × Int × Int) (D : PD) (g : LG) (ps : List Pg) (gr : LG) (w : World) (v : Value) (e : Ending) (w' : World) : Prop :=
 e = .returned v ∧ LT K N0 P s D g ps gr w' ∧ Below N0 w w' ∧ Kept (fun k => K k ∧ k ≠ P.r ∧ k ≠ P.t) w w'
def putV (at_ : Adr) (er : Int) : Value := .tuple #[.agg #[.int .i64 at_.1, .int .i64 at_.2], .int .i64 er]
theorem LT.append (h : LT K N0 P s D g ps gr w) {psx : List Pg} (hp : PutStep D g psx kind l 2 at_ er D2 g2 ps2) (hi : LInv D g) (hsim : Sim D D.s psx) (hpl : psx.length < 800000) (hn1 : g.nx < 900000) (hkk : KindOk kind) (hBl : Byt l) (hm : l.length ≤ 4096) (hc : l.length ≤ c) (hCx : ∀ X, Below N0 w X → kB.C X A l.length l) :
  Calls Tryz.prog 7 #[.pointer (some ⟨P.q, 0, none⟩), .int .u8 kind, .slice A l.length c] w (DrvPost K N0 P s D2 g2 ps gr w (putV at_ er)) :=
 (LAppend_F (two_frame N0 P.p P.x s ps) (fun D => two_stays N0 P.p P.x D s ps) h.two h.log h.kq (fun K2 X hK hX hlX hb => hp.driver hi hsim hpl hn1 hkk hBl hm (two_frame N0 P.p P.x s ps) (fun D => two_stays N0 P.p P.x D s ps) hX hlX (hK _ h.kq) h.nq hc (fun Y hY _ => hCx Y ((hb.mono h.size).trans hY)))).mono
  fun e w' ⟨h1, h2, h3, h4, h5⟩ => ⟨h1, h.drv h2 h3 h5, h4, h5⟩
theorem LT.move (h : LT K N0 P s D g ps gr w) {psx : List Pg} (hp : PutStep D g psx kind l 1 at_ er D2 g2 ps2) (hi : LInv D g) (hsim : Sim D D.s psx) (hpl : psx.length < 800000) (hn1 : g.nx < 900000) (hkk : KindOk kind) (hBl : Byt l) (hm : l.length ≤ 4096) (hc : l.length ≤ c) (hCx : ∀ X, Below N0 w X → kB.C X A l.length l) :
  Calls Tryz.prog 8 #[.pointer (some ⟨P.q, 0, none⟩), .int .u8 kind, .slice A l.length c] w (DrvPost K N0 P s D2 g2 ps gr w (putV at_ er)) :=
 (LMove_F (two_frame N0 P.p P.x s ps) (fun D => two_stays N0 P.p P.x D s ps) h.two h.log h.kq (fun K2 X hK hX hlX hb => hp.driver hi hsim hpl hn1 hkk hBl hm (two_frame N0 P.p P.x s ps) (fun D => two_stays N0 P.p P.x D s ps) hX hlX (hK _ h.kq) h.nq hc (fun Y hY _ => hCx Y ((hb.mono h.size).trans hY)))).mono
  fun e w' ⟨h1, h2, h3, h4, h5⟩ => ⟨h1, h.drv h2 h3 h5, h4, h5⟩
theorem LT.rput {Dx : PD} {gx : LG} (h : LT K N0 P D.s Dx gx ps (grOf D.s g) w) (hp : PutStep D g ps kind l need at_ er D2 g2 ps2) (hi : LInv D g) (hpl : ps.length < 800000) (hn1 : g.nx < 900000) (hkk : KindOk kind) (hBl : Byt l) (hm : l.length ≤ 4096) (hc : l.length ≤ c) (hCx : ∀ X, Below N0 w X → kB.C X A l.length l) :
  Calls Tryz.prog 54 #[.pointer (some ⟨P.r, 0, none⟩), .int .u8 kind, .slice A l.length c, .int .i64 need] w (DocPost K N0 P D.s Dx gx ps2 (grOf D.s g2) w (putV at_ er)) :=
 (hp.ref hi hpl hn1 hkk hBl hm (two_refFrame N0 P.p P.x D.s Dx) (fun ps => two_stays N0 P.p P.x Dx D.s ps) h.two h.rlog h.kr h.kt h.nr h.nt hc hCx).mono
  fun e w' ⟨h1, h2, h3, h4, h5⟩ => ⟨h1, h.doc h2 h3 h5, h4, h5⟩
theorem LT.erase (h : LT K N0 P s D g ps gr w) (hdl : D.dirty.length < 1000000) (a : Int) :
  Calls Tryz.prog 13 #[.pointer (some ⟨P.q, 0, none⟩), .int .i64 a] w (DrvPost K N0 P s (lEraseD D g a) (lEraseG D.s g a) ps gr w (.int .i64 (lEraseE D.s g a))) :=
 (LErase_F (two_frame N0 P.p P.x s ps) (fun D => two_stores N0 P.p P.x D s ps) h.two h.log h.kq h.nq hdl a).mono fun e w' ⟨h1, h2, h3, h4, h5⟩ => ⟨h1, h.drv h2 h3 h5, h4, h5⟩
theorem LT.rerase {Dx : PD} {gx : LG} (h : LT K N0 P D.s Dx gx ps (grOf D.s g) w) (hi : LInv D g) (hpl : ps.length < 1000000) (a : Int) :
  Calls Tryz.prog 55 #[.pointer (some ⟨P.r, 0, none⟩), .int .i64 a] w (DocPost K N0 P D.s Dx gx (rEraseP ps (grOf D.s g) a) (grOf D.s (lEraseG D.s g a)) w (.int .i64 (lEraseE D.s g a))) := by
 have hs := GSim.of D.s g
 have hl := hs.len hi
 have ha1 := hi.sh.a1
 have h0 := RLErase_G (two_refFrame N0 P.p P.x D.s Dx) (fun ps => two_stays N0 P.p P.x Dx D.s ps) h.two h.rlog h.kr h.kt h.nt (by omega) hpl a
 rw [hs.eraseE hi, (hs.erase hi a).eq] at h0
 exact h0.mono fun e w' ⟨h1, h2, h3, h4, h5⟩ => ⟨h1, h.doc h2 h3 h5, h4, h5⟩
theorem LT.sealed (h : LT K N0 P s D g ps gr w) (hi : LInv D g) :
  Calls Tryz.prog 11 #[.pointer (some ⟨P.q, 0, none⟩)] w (DrvPost K N0 P s D (sealG g) ps gr w (.tuple #[])) :=
 (LSeal_F (F := fun K D w => Two K N0 P.p P.x D s ps w) (fun D => two_stays N0 P.p P.x D s ps) h.two h.log h.kq h.nq h.size h.lt (by have := hi.hi; have := hi.sh.a1; omega)).mono fun e w' ⟨h1, h2, h3, h4, h5⟩ => ⟨h1, h.drv h2 h3 h5, h4, h5⟩
theorem LT.rseal {Dx : PD} {gx : LG} (h : LT K N0 P D.s Dx gx ps (grOf D.s g) w) (hi : LInv D g) :
  Calls Tryz.prog 56 #[.pointer (some ⟨P.r, 0, none⟩)] w (DocPost K N0 P D.s Dx gx ps (grOf D.s (sealG g)) w (.tuple #[])) := by
 have hs := GSim.of D.s g
 have hl := hs.len hi
 have hh := hi.hi
 have h0 := RSeal_G (two_refFrame N0 P.p P.x D.s Dx) (fun ps => two_stays N0 P.p P.x Dx D.s ps) h.two h.rlog h.kr h.kt h.nr h.nt (show g.op < _ by omega)
 rw [(hs.sealed hi).eq] at h0
 exact h0.mono fun e w' ⟨h1, h2, h3, h4, h5⟩ => ⟨h1, h.doc h2 h3 h5, h4, h5⟩
theorem LT.sync (h : LT K N0 P s D g ps gr w) :
  Calls Tryz.prog 12 #[.pointer (some ⟨P.q, 0, none⟩)] w (DrvPost K N0 P s { D with dirty := [] } g ps gr w (.tuple #[])) :=
 (LSync_F (two_frame N0 P.p P.x s ps) h.two h.log h.kq).mono fun e w' ⟨h1, h2, h3, h4, h5⟩ => ⟨h1, h.drv h2 h3 (fun k hk => h5 k hk.1), h4, fun k hk => h5 k hk.1⟩
theorem LT.rsync (h : LT K N0 P s D g ps gr w) (hpl : ps.length < 1000000) :
  Calls Tryz.prog 57 #[.pointer (some ⟨P.x, 0, none⟩)] w (DocPost K N0 P s D g (syncP ps) gr w (.tuple #[])) :=
 (h.two.rsync hpl).mono fun e w' ⟨h1, h2, h4, h5⟩ => ⟨h1, h.doc h2 (h.rlog.step (h5 _ h.kr) (h5 _ h.kt)) (fun k hk => h5 k hk.1), h4, fun k hk => h5 k hk.1⟩
end
end Go.Proofs.YtmbiebdcnadhkaaGreat.Fl
namespace Go.Proofs.YtmbiebdcnadhkaaGreat.Fl
open Go.RowKit Go.Proofs.YtmbiebdcnadhkaaGreatW.PrintWords Go.Proofs.YtmbiebdcnadhkaaGreatW.PrintMore Go.Maps
abbrev TSD : TypeId := 68
structure MadeAt (w : World) (s : Int × Int × Int) (P : Pl) (k : Nat) (D : PD) (g : LG) (ps : List Pg) (w' : World) : Prop where
 lt : LT (K3 P) w.heap.size P s D g ps (grOf s g) w'
 ds : Deeds s k D g ps
 bel : Below w.heap.size w w'
def MadePost (w : World) (s : Int × Int × Int) (n : Nat) (e : Ending) (w' : World) : Prop :=
 ∃ P D g ps, e = .returned (.tuple #[.pointer (some ⟨P.q, 0, none⟩), .pointer (some ⟨P.r, 0, none⟩), .bool true]) ∧ MadeAt w s P n D g ps w'
theorem two_of {N0 p q r t x cap : Nat} {rest : List Value} {s : Int × Int × Int} {g : LG} {K : Nat → Prop} {w w' : World} (h : Solo N0 p (fun k => K k ∨ k = q) ⟨s, [], []⟩ w) (hl : LogIs q p g w) (hN : N0 ≤ q)
  (hr : RLog r t x cap rest (grOf s g) w') (h1 : w.heap.size ≤ r) (h2 : w.heap.size ≤ t) (h3 : w.heap.size ≤ x) (h4 : r ≠ x) (h5 : t ≠ x) (hx : w'.heap[x]? = some (.cells #[.int .i64 s.1, .int .i64 s.2.1, .int .i64 s.2.2, .slice none 0 0] TX (0, 0))) (hb : Below w.heap.size w w') :
  LT (K3 ⟨q, p, r, t, x, cap, rest⟩) N0 ⟨q, p, r, t, x, cap, rest⟩ s ⟨s, [], []⟩ g [] (grOf s g) w' := by
 obtain ⟨ok, hD, h0, hsz, hK⟩ := h
 have hq : q < w.heap.size := blt hl.blk
 refine ⟨⟨_, fun k => k = x, hD.bound.below hb, ⟨by show N0 ≤ x; omega, rfl, .slice none 0 0, hx, Kd.R_nil _ _ _ _ _⟩, fun k a b => ?_, fun k a => h0 k a.1, fun k a => ?_, Nat.le_trans hsz hb.size, fun k hk => ?_⟩, hl.below hb, hr, .inl rfl, .inr (.inl rfl), .inr (.inr rfl), hN, by show N0 ≤ r; omega, by show N0 ≤ t; omega⟩
 ·have := a.2.2
  have b : k = x := b
  omega
 ·have a : k = x := a
  omega
 ·rcases hk with e | e | e
  ·have e : k = q := e
   rw [e]
   refine ⟨Nat.lt_of_lt_of_le hq hb.size, .inl ⟨fun a => ?_, fun a => ?_⟩⟩
   ·rcases (hK q (.inr rfl)).2 with h | ⟨cs, fr, e⟩
    ·exact h a.1
    ·exact not_byte hl.blk (by decide) e
   ·have a : q = x := a
    omega
  ·have e : k = r := e
   rw [e]
   exact ⟨blt hr.blk, .inl ⟨fun a => by have := a.2.2; omega, fun a => h4 a⟩⟩
  ·have e : k = t := e
   rw [e]
   exact ⟨blt hr.row, .inl ⟨fun a => by have := a.2.2; omega, fun a => h5 a⟩⟩
set_option maxHeartbeats 8000000 in
set_option maxRecDepth 100000 in
theorem Made15_any {w : World} {A : Option Addr} {c : Nat} {s : Int × Int × Int} {ds : List SDeed} (hm : mayB s = true) (hr : LRow w A ds) (hf : fewS ds = true) (hp : ∀ d ∈ ds, SDeedOk d) :
  Calls Tryz.prog 22 #[.agg #[.int .i64 s.1, .int .i64 s.2.1, .int .i64 s.2.2], .slice A ds.length c] w (MadePost w s ds.length) := by
 obtain ⟨n, hn⟩ : ∃ n, n = ds.length := ⟨_, rfl⟩
 obtain ⟨hf1, hf2⟩ := fewS_ok hf
 have hsb : shapeB s = true := by
  unfold mayB at hm
  rw [Bool.and_eq_true] at hm
  exact hm.1
 have h4 : 4 ≤ s.1 := by
  unfold mayB at hm
  rw [Bool.and_eq_true, decide_eq_true_iff] at hm
  exact hm.2
 have hsh := shapeB_ok hsb
 have hnew : ∀ W : World, w.heap.size ≤ W.heap.size → Calls Tryz.prog 43 #[.agg #[.int .i64 s.1, .int .i64 s.2.1, .int .i64 s.2.2]] W fun e w' => ∃ p, e = .returned (.tuple #[.pointer (some ⟨p, 0, none⟩), .int .i64 0]) ∧ Solo w.heap.size p (fun k => k < W.heap.size) ⟨s, [], []⟩ w' ∧ Below W.heap.size W w' := fun W hW => (New_ok s hsb W _ hW).mono fun e w' ⟨p, h1, h2, h3⟩ => ⟨p, h1, ⟨_, h2, fun k hk => Nat.le_trans hW hk, Nat.le_trans hW h3.size, fun k hk => ⟨Nat.lt_of_lt_of_le hk h3.size, .inl (fun a => by omega)⟩⟩, h3⟩
 have hlog : ∀ (p : Nat) (K : Nat → Prop) (W : World), Solo w.heap.size p K ⟨s, [], []⟩ W → Calls Tryz.prog 44 #[.pointer (some ⟨p, 0, none⟩)] W fun e w' => ∃ q, e = .returned (.tuple #[.pointer (some ⟨q, 0, none⟩), .int .i64 0]) ∧ Solo w.heap.size p (fun k => K k ∨ k = q) ⟨s, [], []⟩ w' ∧ LogIs q p (newG 1) w' ∧ Below w.heap.size W w' ∧ Kept K W w' ∧ W.heap.size ≤ q := fun p K W h => LNew_any h hsh h4
 have hrn := fun W => RNew_any s hsh W
 have HR := Lib.hid hr
 have HN := Lib.hid hn
 have HS := Lib.hid hsh
 have HP := Lib.hid hp
 have HF := Lib.hid hf2
 have HNEW := Lib.hid hnew
 have HLOG := Lib.hid hlog
 have HRN := Lib.hid hrn
 rw [← hn] at hf1
 rw [← hn]
 clear hr hn hf hm hp hf2 hnew hlog hrn hsb hsh h4
 obtain ⟨W, hW⟩ : ∃ W, W = w.alloc (.cells #[.int .i64 s.1, .int .i64 s.2.1, .int .i64 s.2.2] 23) := ⟨_, rfl⟩
 have q0 : W.heap[w.heap.size]? = some (.cells #[.int .i64 s.1, .int .i64 s.2.1, .int .i64 s.2.2] 23 (0, 0)) := by rw [hW]; exact blk_new w _
 have qb : Below w.heap.size w W := by rw [hW]; exact below_alloc (Below.refl _ _) _
 have k1 : W.cell? ⟨w.heap.size, 0, none⟩ = some (.int .i64 s.1) := bcell q0 0
 have k2 : W.cell? ⟨w.heap.size, 1, none⟩ = some (.int .i64 s.2.1) := bcell q0 1
 have k3 : W.cell? ⟨w.heap.size, 2, none⟩ = some (.int .i64 s.2.2) := bcell q0 2
 have HW := Lib.hid hW
 have Q0 := Lib.hid q0
 have QB := Aside0.mk qb
 clear hW q0 qb
 go_enter Tryz.func22, Tryz.ntmps22
 go_wp2_with fail
 rw [← HW.out]
 go_wp2_with (first
  | (go_at_call 43; (with_reducible refine (HNEW.out _ QB.out.size).mono ?_); rintro e w1 ⟨p, rfl, hS, hb⟩; have hx1 := (hb.block _ (blt Q0.out)).trans Q0.out; have HX1 := Lib.hid hx1; have HS1 := Aside0.mk hS; have HB1 := Aside0.mk (QB.out.trans (hb.mono QB.out.size)); clear hS hb hx1)
  | (go_at_call 44; (with_reducible refine (HLOG.out _ _ _ HS1.out).mono ?_); rintro e w2 ⟨q, rfl, hS, hl, hb, hk, hq⟩; have hx2 := (hk _ (blt Q0.out)).trans HX1.out; have k1 : w2.cell? ⟨w.heap.size, 0, none⟩ = some (.int .i64 s.1) := bcell hx2 0; have k2 : w2.cell? ⟨w.heap.size, 1, none⟩ = some (.int .i64 s.2.1) := bcell hx2 1; have k3 : w2.cell? ⟨w.heap.size, 2, none⟩ = some (.int .i64 s.2.2) := bcell hx2 2; have HS2 := Aside0.mk hS; have HL2 := Aside0.mk hl; have HB2 := Aside0.mk (HB1.out.trans hb); have HQ2 := Lib.hid (Nat.le_trans HB1.out.size hq); clear hS hl hb hk hx2 hq)
  | (go_at_call 53; (with_reducible refine (HRN.out _).mono ?_); rintro e w3 ⟨r, t, x, cap, rest, rfl, hr, h1, h2, h3, h4, h5, hx, hb⟩; have HT3 := Aside0.mk (two_of HS2.out HL2.out HQ2.out hr h1 h2 h3 h4 h5 hx hb); have HB3 := Aside0.mk (HB2.out.trans (hb.mono HB2.out.size)); obtain ⟨P, hP⟩ : ∃ P : Pl, P = ⟨q, p, r, t, x, cap, rest⟩ := ⟨_, rfl⟩; obtain rfl : q = P.q := (by rw [hP]); obtain rfl : r = P.r := (by rw [hP]); have HT := Aside0.mk (show LT (K3 P) w.heap.size P s ⟨s, [], []⟩ (newG 1) [] (grOf s (newG 1)) w3 from by rw [hP]; exact HT3.out); clear HT3 hr h1 h2 h3 h4 h5 hx hb hP)
  | fail)
 clear k1 k2 k3 HS1 HS2 HL2 HQ2 HX1 HB1 HB2 Q0 QB HW HNEW HLOG HRN
 go_loopw [40] (fun v40 wr => ∃ (k : Nat) (D : PD) (g : LG) (ps : List Pg), k ≤ n ∧ v40 = .int .i64 (k : Int) ∧ MadeAt w s P k D g ps wr) (fun v40 _ => n - (intOf v40).toNat)
 case atStart => exact ⟨0, _, _, _, Nat.zero_le _, rfl, ⟨HT.out, .new, HB3.out⟩⟩
 case round =>
  clear HT HB3
  obtain ⟨k, D, g, ps, hk, rfl, ht, hds, hb⟩ := hrel
  obtain ⟨hsim, hinv, hbyt, hlen, hnx⟩ := hds.keep HS.out (by omega)
  obtain rfl : D.s = s := hsim.sh
  have HT := Aside0.mk ht
  have HDS := Lib.hid hds
  have HSIM := Aside0.mk hsim
  have HINV := Aside0.mk hinv
  have HBB := Aside0.mk hb
  have HLEN := Lib.hid (show ps.length < 800000 by omega)
  have HNX := Lib.hid (show g.nx < 900000 by omega)
  have HSND := Lib.hid ht.sound
  have HNDP := Lib.hid ht.two.nodup
  clear ht hds hsim hinv hbyt hlen hnx hb
  by_cases hlt : k < n
  ·obtain ⟨d, hd⟩ : ∃ d, ds[k]? = some d := ⟨_, List.getElem?_eq_getElem (by have := HN.out; omega)⟩
   obtain ⟨ad, A1, c1, hA, hc⟩ := HR.out k d hd
   have ROWC := Lib.hid (show ∀ X, Below w.heap.size w X → kB.C X A1 d.l.length d.l from fun X hX => Kd.C_below hc.row hX)
   have HCAP := Lib.hid hc.cap
   have hc := hc.below HBB.out
   subst hA
   have d0 := hc.c0; have d1 := hc.c1; have d2 := hc.c2; have d3 := hc.c3
   have hdp := HP.out d (List.mem_of_getElem? hd)
   have hdl := HF.out d (List.mem_of_getElem? hd)
   have HDP := Lib.hid hdp
   have HDL := Lib.hid hdl
   have k0 : (0 : Int) ≤ (k : Int) := by omega
   have k2 : (k : Int) < (n : Int) := by omega
   clear hd hc hdp hdl
   obtain ⟨dop, dwh, dl, dsg⟩ := d
   simp only at d0 d1 d2 d3 ROWC HCAP HDL
   obtain ⟨Y, hY⟩ : ∃ Y, Y = wr.alloc (.cells #[.int .i64 dop, .int .u8 dwh, .slice A1 dl.length c1, .int .i64 dsg] TSD) := ⟨_, rfl⟩
   have y0 : Y.heap[wr.heap.size]? = some (.cells #[.int .i64 dop, .int .u8 dwh, .slice A1 dl.length c1, .int .i64 dsg] TSD (0, 0)) := by rw [hY]; exact blk_new wr _
   have yb : Below wr.heap.size wr Y := by rw [hY]; exact below_alloc (Below.refl _ _) _
   have hT2 := HT.out.keep yb
   have HKB := Lib.hid (show (K3 P wr.heap.size ∨ (wr.heap.size ≤ wr.heap.size ∧ wr.heap.size < Y.heap.size)) ∧ wr.heap.size ≠ P.q ∧ wr.heap.size ≠ P.r ∧ wr.heap.size ≠ P.t from ⟨.inr ⟨Nat.le_refl _, blt y0⟩, by have := HT.out.lt _ HT.out.kq; omega, by have := HT.out.lt _ HT.out.kr; omega, by have := HT.out.lt _ HT.out.kt; omega⟩)
   have HY := Lib.hid hY
   have Y0 := Lib.hid y0
   have YB := Aside0.mk (HBB.out.trans (yb.mono HBB.out.size))
   have HT2 := Aside0.mk hT2
   have q0 : Y.cell? ⟨wr.heap.size, 0, none⟩ = some (.int .i64 dop) := bcell y0 0
   have q1 : Y.cell? ⟨wr.heap.size, 1, none⟩ = some (.int .u8 dwh) := bcell y0 1
   have q2 : Y.cell? ⟨wr.heap.size, 2, none⟩ = some (.slice A1 dl.length c1) := bcell y0 2
   have q3 : Y.cell? ⟨wr.heap.size, 3, none⟩ = some (.int .i64 dsg) := bcell y0 3
   clear hY y0 yb hT2
   by_cases o1 : dop = 1
   ·subst o1
    obtain ⟨⟨a1, a2⟩, er, D2, g2, ps2, hp⟩ := put_total HINV.out (show (1 : Int) ≤ 1 by decide) ps dwh dl
    have hkeep := hp.keep HINV.out HSIM.out (by have := HDL.out; omega) HDP.out.kd HDP.out.byt HNX.out
    have hap := fun (K : Nat → Prop) (X : World) (h : LT K w.heap.size P D.s D g ps (grOf D.s g) X) (hX : Below w.heap.size w X) => h.move hp HINV.out HSIM.out HLEN.out HNX.out HDP.out.kd HDP.out.byt (by have := HDL.out; omega) HCAP.out (fun Z hZ => ROWC.out Z (hX.trans hZ))
    have hpu := fun (K : Nat → Prop) (X : World) (h : LT K w.heap.size P D.s D2 g2 ps (grOf D.s g) X) (hX : Below w.heap.size w X) => h.rput hp HINV.out HLEN.out HNX.out HDP.out.kd HDP.out.byt (by have := HDL.out; omega) HCAP.out (fun Z hZ => ROWC.out Z (hX.trans hZ))
    unfold DrvPost putV at hap
    unfold DocPost putV at hpu
    have HAP := Lib.hid hap
    have HPU := Lib.hid hpu
    have HPP := Lib.hid hp
    clear hap hpu hp hkeep
    have en : (er != er) = false := by simp
    go_wp2_with (first
     | (rw [← HY.out])
     | (rw [← HW3.out])
     | (rw [← HW5.out])
     | (go_at_call 8; (with_reducible refine (HAP.out _ _ HT2.out YB.out).mono ?_); rintro e w2 ⟨rfl, ht, hb, hk⟩; have hx2 := (hk wr.heap.size ⟨HKB.out.1, HKB.out.2.1⟩).trans Y0.out; obtain ⟨W3, hW3⟩ : ∃ W3, W3 = w2.alloc (.cells #[.int .i64 a1, .int .i64 a2] TA) := ⟨_, rfl⟩; have b23 : Below w2.heap.size w2 W3 := (by rw [hW3]; exact below_alloc (Below.refl _ _) _); have t3 : W3.heap[w2.heap.size]? = some (.cells #[.int .i64 a1, .int .i64 a2] TA (0, 0)) := (by rw [hW3]; exact blk_new _ _); have hx3 := (b23.block _ (blt hx2)).trans hx2; have z1 : W3.cell? ⟨wr.heap.size, 1, none⟩ = some (.int .u8 dwh) := bcell hx3 1; have z2 : W3.cell? ⟨wr.heap.size, 2, none⟩ = some (.slice A1 dl.length c1) := bcell hx3 2; have HT3 := Aside0.mk (ht.keep b23); have HK3 := Lib.hid (show w2.heap.size ≠ P.r ∧ w2.heap.size ≠ P.t ∧ w2.heap.size < W3.heap.size from ⟨by have := ht.lt _ ht.kr; omega, by have := ht.lt _ ht.kt; omega, blt t3⟩); have T3 := Lib.hid t3; have HB3 := Aside0.mk ((YB.out.trans hb).trans (b23.mono (Nat.le_trans YB.out.size hb.size))); have HW3 := Lib.hid hW3; clear ht hb hk hx2 hx3 b23 t3 hW3)
     | (go_at_call 54; (with_reducible refine (HPU.out _ _ HT3.out HB3.out).mono ?_); rintro e w4 ⟨rfl, ht, hb, hk⟩; have x4 := (hk w2.heap.size ⟨.inr ⟨Nat.le_refl _, HK3.out.2.2⟩, HK3.out.1, HK3.out.2.1⟩).trans T3.out; obtain ⟨W5, hW5⟩ : ∃ W5, W5 = w4.alloc (.cells #[.int .i64 a1, .int .i64 a2] TA) := ⟨_, rfl⟩; have b45 : Below w4.heap.size w4 W5 := (by rw [hW5]; exact below_alloc (Below.refl _ _) _); have t5 : W5.heap[w4.heap.size]? = some (.cells #[.int .i64 a1, .int .i64 a2] TA (0, 0)) := (by rw [hW5]; exact blk_new _ _); have x5 := (b45.block _ (blt x4)).trans x4; have u0 : W5.cell? ⟨w2.heap.size, 0, none⟩ = some (.int .i64 a1) := bcell x5 0; have u1 : W5.cell? ⟨w2.heap.size, 1, none⟩ = some (.int .i64 a2) := bcell x5 1; have v0 : W5.cell? ⟨w4.heap.size, 0, none⟩ = some (.int .i64 a1) := bcell t5 0; have v1 : W5.cell? ⟨w4.heap.size, 1, none⟩ = some (.int .i64 a2) := bcell t5 1; have HT5 := Aside0.mk (ht.below b45).three; have HB5 := Aside0.mk ((HB3.out.trans hb).trans (b45.mono (Nat.le_trans HB3.out.size hb.size))); have HW5 := Lib.hid hW5; clear ht hb hk x4 x5 b45 t5 hW5)
     | fail)
    exact ⟨⟨k + 1, _, _, _, by omega, by go_num, ⟨HT5.out, HDS.out.put HSND.out HNDP.out HDP.out.kd HDP.out.byt HDL.out (.inl rfl) HPP.out, HB5.out⟩⟩, by simp [intOf]; omega⟩
   ·have e1 : (dop == 1) = false := by simpa using o1
    by_cases o2 : dop = 2
    ·subst o2
     have her := fun (K : Nat → Prop) (X : World) (h : LT K w.heap.size P D.s D g ps (grOf D.s g) X) => h.erase (by have := HSIM.out.dirtyLe; have := HLEN.out; omega) dsg
     have hre := fun (K : Nat → Prop) (X : World) (h : LT K w.heap.size P D.s (lEraseD D g dsg) (lEraseG D.s g dsg) ps (grOf D.s g) X) => h.rerase HINV.out (by have := HLEN.out; omega) dsg
     unfold DrvPost at her
     unfold DocPost at hre
     obtain ⟨er, her0⟩ : ∃ er, er = lEraseE D.s g dsg := ⟨_, rfl⟩
     rw [← her0] at her hre
     have HER := Lib.hid her
     have HRE := Lib.hid hre
     clear her hre her0
     have en : (er != er) = false := by simp
     have HTD := Aside0.mk HT2.out.drew
     go_wp2_with fail
     rw [← HY.out]
     go_wp2_with fail
     go_region_held3 (fun w' => w'.cell? ⟨wr.heap.size, 3, none⟩ = some (.int .i64 dsg)) (first | go_keep | exact z3 | exact z4)
      (first
       | (go_at_call 13; (with_reducible refine (HER.out _ _ HTD.out).mono ?_); rintro e w2 ⟨rfl, ht, hb, hk⟩; have hx2 := (hk wr.heap.size ⟨HKB.out.1, HKB.out.2.1⟩).trans Y0.out; have z3 : w2.cell? ⟨wr.heap.size, 3, none⟩ = some (.int .i64 dsg) := bcell hx2 3; have HT3 := Aside0.mk ht; have HX3 := Lib.hid hx2; have HB3 := Aside0.mk (YB.out.drew.trans hb); clear ht hb hk hx2)
       | (go_at_call 55; (with_reducible refine (HRE.out _ _ HT3.out).mono ?_); rintro e w4 ⟨rfl, ht, hb, hk⟩; have hx4 := (hk wr.heap.size ⟨HKB.out.1, HKB.out.2.2⟩).trans HX3.out; have z4 : w4.cell? ⟨wr.heap.size, 3, none⟩ = some (.int .i64 dsg) := bcell hx4 3; have HT5 := Aside0.mk ht.three; have HB5 := Aside0.mk (HB3.out.trans hb); clear ht hb hk hx4)
       | fail)
     go_wp2
     exact ⟨⟨k + 1, _, _, _, by omega, by go_num, ⟨HT5.out, HDS.out.erase HSND.out HNDP.out dsg, HB5.out⟩⟩, by simp [intOf]; omega⟩
    ·have e2 : (dop == 2) = false := by simpa using o2
     by_cases o3 : dop = 3
     ·subst o3
      have her := HT2.out.sealed HINV.out
      have hre := fun (K : Nat → Prop) (X : World) (h : LT K w.heap.size P D.s D (sealG g) ps (grOf D.s g) X) => h.rseal HINV.out
      unfold DrvPost at her
      unfold DocPost at hre
      have HER := Lib.hid her
      have HRE := Lib.hid hre
      clear her hre
      go_wp2_with (first
       | (rw [← HY.out])
       | (go_at_call 11; (with_reducible refine HER.out.mono ?_); rintro e w2 ⟨rfl, ht, hb, hk⟩; have HT3 := Aside0.mk ht; have HB3 := Aside0.mk (YB.out.trans hb); clear ht hb hk)
       | (go_at_call 56; (with_reducible refine (HRE.out _ _ HT3.out).mono ?_); rintro e w4 ⟨rfl, ht, hb, hk⟩; have HT5 := Aside0.mk ht.three; have HB5 := Aside0.mk (HB3.out.trans hb); clear ht hb hk)
       | fail)
      exact ⟨⟨k + 1, _, _, _, by omega, by go_num, ⟨HT5.out, HDS.out.sealed HSND.out HNDP.out, HB5.out⟩⟩, by simp [intOf]; omega⟩
     ·have e3 : (dop == 3) = false := by simpa using o3
      by_cases o4 : dop = 4
      ·subst o4
       have her := HT2.out.sync
       have hre := fun (K : Nat → Prop) (X : World) (h : LT K w.heap.size P D.s { D with dirty := [] } g ps (grOf D.s g) X) => h.rsync (by have := HLEN.out; omega)
       unfold DrvPost at her
       unfold DocPost at hre
       have HER := Lib.hid her
       have HRE := Lib.hid hre
       clear her hre
       go_wp2_with (first
        | (rw [← HY.out])
        | (go_at_call 12; (with_reducible refine HER.out.mono ?_); rintro e w2 ⟨rfl, ht, hb, hk⟩; have z0 := ht.rlog.c0; have HT3 := Aside0.mk ht; have HB3 := Aside0.mk (YB.out.trans hb); clear ht hb hk)
        | (go_at_call 57; (with_reducible refine (HRE.out _ _ HT3.out).mono ?_); rintro e w4 ⟨rfl, ht, hb, hk⟩; have HT5 := Aside0.mk ht.three; have HB5 := Aside0.mk (HB3.out.trans hb); clear ht hb hk)
        | fail)
       exact ⟨⟨k + 1, _, _, _, by omega, by go_num, ⟨HT5.out, HDS.out.sync HSND.out HNDP.out, HB5.out⟩⟩, by simp [intOf]; omega⟩
      ·have e4 : (dop == 4) = false := by simpa using o4
       obtain ⟨⟨a1, a2⟩, er, D2, g2, ps2, hp⟩ := put_total HINV.out (show (1 : Int) ≤ 2 by decide) ps dwh dl
       have hkeep := hp.keep HINV.out HSIM.out (by have := HDL.out; omega) HDP.out.kd HDP.out.byt HNX.out
       have hap := fun (K : Nat → Prop) (X : World) (h : LT K w.heap.size P D.s D g ps (grOf D.s g) X) (hX : Below w.heap.size w X) => h.append hp HINV.out HSIM.out HLEN.out HNX.out HDP.out.kd HDP.out.byt (by have := HDL.out; omega) HCAP.out (fun Z hZ => ROWC.out Z (hX.trans hZ))
       have hpu := fun (K : Nat → Prop) (X : World) (h : LT K w.heap.size P D.s D2 g2 ps (grOf D.s g) X) (hX : Below w.heap.size w X) => h.rput hp HINV.out HLEN.out HNX.out HDP.out.kd HDP.out.byt (by have := HDL.out; omega) HCAP.out (fun Z hZ => ROWC.out Z (hX.trans hZ))
       unfold DrvPost putV at hap
       unfold DocPost putV at hpu
       have HAP := Lib.hid hap
       have HPU := Lib.hid hpu
       have HPP := Lib.hid hp
       clear hap hpu hp hkeep
       have en : (er != er) = false := by simp
       go_wp2_with (first
        | (rw [← HY.out])
        | (rw [← HW3.out])
        | (rw [← HW5.out])
        | (go_at_call 7; (with_reducible refine (HAP.out _ _ HT2.out YB.out).mono ?_); rintro e w2 ⟨rfl, ht, hb, hk⟩; have hx2 := (hk wr.heap.size ⟨HKB.out.1, HKB.out.2.1⟩).trans Y0.out; obtain ⟨W3, hW3⟩ : ∃ W3, W3 = w2.alloc (.cells #[.int .i64 a1, .int .i64 a2] TA) := ⟨_, rfl⟩; have b23 : Below w2.heap.size w2 W3 := (by rw [hW3]; exact below_alloc (Below.refl _ _) _); have t3 : W3.heap[w2.heap.size]? = some (.cells #[.int .i64 a1, .int .i64 a2] TA (0, 0)) := (by rw [hW3]; exact blk_new _ _); have hx3 := (b23.block _ (blt hx2)).trans hx2; have z1 : W3.cell? ⟨wr.heap.size, 1, none⟩ = some (.int .u8 dwh) := bcell hx3 1; have z2 : W3.cell? ⟨wr.heap.size, 2, none⟩ = some (.slice A1 dl.length c1) := bcell hx3 2; have HT3 := Aside0.mk (ht.keep b23); have HK3 := Lib.hid (show w2.heap.size ≠ P.r ∧ w2.heap.size ≠ P.t ∧ w2.heap.size < W3.heap.size from ⟨by have := ht.lt _ ht.kr; omega, by have := ht.lt _ ht.kt; omega, blt t3⟩); have T3 := Lib.hid t3; have HB3 := Aside0.mk ((YB.out.trans hb).trans (b23.mono (Nat.le_trans YB.out.size hb.size))); have HW3 := Lib.hid hW3; clear ht hb hk hx2 hx3 b23 t3 hW3)
        | (go_at_call 54; (with_reducible refine (HPU.out _ _ HT3.out HB3.out).mono ?_); rintro e w4 ⟨rfl, ht, hb, hk⟩; have x4 := (hk w2.heap.size ⟨.inr ⟨Nat.le_refl _, HK3.out.2.2⟩, HK3.out.1, HK3.out.2.1⟩).trans T3.out; obtain ⟨W5, hW5⟩ : ∃ W5, W5 = w4.alloc (.cells #[.int .i64 a1, .int .i64 a2] TA) := ⟨_, rfl⟩; have b45 : Below w4.heap.size w4 W5 := (by rw [hW5]; exact below_alloc (Below.refl _ _) _); have t5 : W5.heap[w4.heap.size]? = some (.cells #[.int .i64 a1, .int .i64 a2] TA (0, 0)) := (by rw [hW5]; exact blk_new _ _); have x5 := (b45.block _ (blt x4)).trans x4; have u0 : W5.cell? ⟨w2.heap.size, 0, none⟩ = some (.int .i64 a1) := bcell x5 0; have u1 : W5.cell? ⟨w2.heap.size, 1, none⟩ = some (.int .i64 a2) := bcell x5 1; have v0 : W5.cell? ⟨w4.heap.size, 0, none⟩ = some (.int .i64 a1) := bcell t5 0; have v1 : W5.cell? ⟨w4.heap.size, 1, none⟩ = some (.int .i64 a2) := bcell t5 1; have HT5 := Aside0.mk (ht.below b45).three; have HB5 := Aside0.mk ((HB3.out.trans hb).trans (b45.mono (Nat.le_trans HB3.out.size hb.size))); have HW5 := Lib.hid hW5; clear ht hb hk x4 x5 b45 t5 hW5)
        | fail)
       exact ⟨⟨k + 1, _, _, _, by omega, by go_num, ⟨HT5.out, HDS.out.put HSND.out HNDP.out HDP.out.kd HDP.out.byt HDL.out (.inr rfl) HPP.out, HB5.out⟩⟩, by simp [intOf]; omega⟩
  ·obtain rfl : k = n := by omega
   go_wp2
   go_ret3
   exact ⟨P, D, g, ps, rfl, HT.out, HDS.out, HBB.out⟩
end Go.Proofs.YtmbiebdcnadhkaaGreat.Fl
namespace Go.Proofs.YtmbiebdcnadhkaaGreat.Fl
open Go.RowKit Go.Proofs.YtmbiebdcnadhkaaGreatW.PrintWords Go.Proofs.YtmbiebdcnadhkaaGreatW.PrintMore Go.Maps
def aS : Int × Int × Int := (4, 8, 16)
def aD : PD := ⟨aS, [], []⟩
theorem a_sh : ShapeOk aS := ⟨by decide, by decide, by decide, by decide, by decide, by decide⟩
theorem a_inv : LInv aD (newG 1) := LInv.new a_sh
theorem a_step : ∃ D2 g2 ps2, PutStep aD (newG 1) [] 2 [7] 2 (0, 1) 0 D2 g2 ps2 ∧ stateV aS g2 0 = 1 :=
 ⟨_, _, _, .turn 0 (by decide) (by decide) (.inl (by decide)) (by decide) (by decide) (by decide) (by decide) (fun i hi => absurd hi (by omega)) (firstAt_is (by decide) (fun i hi => absurd hi (by omega))), by decide⟩
set_option maxHeartbeats 2000000 in
set_option maxRecDepth 100000 in
theorem Awake15_any (w : World) : Calls Tryz.prog 6 #[] w fun e w' => e = .returned (.bool true) ∧ Below w.heap.size w w' := by
 have hnew : Calls Tryz.prog 43 #[.agg #[.int .i64 4, .int .i64 8, .int .i64 16]] w fun e w' => ∃ p, e = .returned (.tuple #[.pointer (some ⟨p, 0, none⟩), .int .i64 0]) ∧ DevIs w.heap.size p aD (fun k => w.heap.size ≤ k) w' ∧ Below w.heap.size w w' := New_ok aS rfl w w.heap.size (Nat.le_refl _)
 have hlog : ∀ (p : Nat) (W : World), Solo w.heap.size p (fun _ => False) aD W → Calls Tryz.prog 44 #[.pointer (some ⟨p, 0, none⟩)] W fun e w' => ∃ q, e = .returned (.tuple #[.pointer (some ⟨q, 0, none⟩), .int .i64 0]) ∧ Solo w.heap.size p (fun k => False ∨ k = q) aD w' ∧ LogIs q p (newG 1) w' ∧ Below w.heap.size W w' ∧ Kept (fun _ => False) W w' ∧ W.heap.size ≤ q := fun p W h => LNew_any h a_sh (by decide)
 obtain ⟨D2, g2, ps2, hp, hst⟩ := a_step
 have hkeep := hp.keep a_inv (Sim.new aS) (by decide) ⟨by decide, by decide⟩ (fun x hx => by simp at hx; omega) (by decide)
 have hs2 : D2.s = aS := hkeep.sh
 have hap : ∀ (p q g : Nat) (W : World) (K : Nat → Prop), Solo w.heap.size p K aD W → LogIs q p (newG 1) W → K q → w.heap.size ≤ q → K g → g ≠ q → W.cell? ⟨g, 0, none⟩ = some (.int .u8 7) → Calls Tryz.prog 7 #[.pointer (some ⟨q, 0, none⟩), .int .u8 2, .slice (some ⟨g, 0, none⟩) 1 1] W fun e w' => e = .returned (.tuple #[.agg #[.int .i64 0, .int .i64 1], .int .i64 0]) ∧ Solo w.heap.size p K D2 w' ∧ LogIs q p g2 w' ∧ Below w.heap.size W w' := fun p q g W K h hl hq hN hg hgq hc => by
  refine (LAppend_F (solo_frame _ _) (fun D => solo_stays _ _ D) h hl hq (fun K2 X hK hX hlX hb => hp.driver a_inv (Sim.new aS) (by decide) (by decide) ⟨by decide, by decide⟩ (fun x hx => by simp at hx; omega) (by decide) (solo_frame _ _) (fun D => solo_stays _ _ D) hX hlX (hK q hq) hN (Nat.le_refl _) (fun Y hY hkY => ?_))).mono fun e w' ⟨h1, h2, h3, h4, h5⟩ => ⟨h1, h2, h3, h4⟩
  refine C_one7 ?_
  have hlt := (solo_frame _ _).lt h g hg
  have e1 : Y.heap[g]? = W.heap[g]? := (hkY g ⟨hK g hg, hgq⟩).trans (hb.block g hlt)
  unfold World.cell? at hc ⊢
  rw [e1]
  exact hc
 have hstt : ∀ (p q : Nat) (W : World) (K : Nat → Prop), Solo w.heap.size p K D2 W → LogIs q p g2 W → Calls Tryz.prog 14 #[.pointer (some ⟨q, 0, none⟩), .int .i64 0] W fun e w' => e = .returned (.int .i64 1) ∧ Below W.heap.size W w' := fun p q W K h hl => by
  obtain ⟨ok, hD⟩ := (solo_frame _ _).dev h
  have := LState_any hl hD 0
  rw [hs2, hst] at this
  exact this
 have HNEW := Lib.hid hnew
 have HLOG := Lib.hid hlog
 have HAP := Lib.hid hap
 have HST := Lib.hid hstt
 clear hnew hlog hap hstt hkeep hs2 hst hp
 go_enter Tryz.func6, Tryz.ntmps6
 go_wp2_with (first
  | (rw [← HW3.out])
  | (rw [← HW5.out])
  | (go_at_call 43; (with_reducible refine HNEW.out.mono ?_); rintro e w1 ⟨p, rfl, hd, hb⟩; have HD1 := Aside0.mk (Solo.new (Nat.le_refl _) hd hb); have HB1 := Aside0.mk hb; clear hd hb)
  | (go_at_call 44; (with_reducible refine (HLOG.out _ _ HD1.out).mono ?_); rintro e w2 ⟨q, rfl, hS, hl, hb, hk, hq⟩; obtain ⟨W3, hW3⟩ : ∃ W3, W3 = w2.alloc (.cells #[.int .u8 7] TB) := ⟨_, rfl⟩; have b23 : Below w2.heap.size w2 W3 := (by rw [hW3]; exact below_alloc (Below.refl _ _) _); have t3 : W3.heap[w2.heap.size]? = some (.cells #[.int .u8 7] TB (0, 0)) := (by rw [hW3]; exact blk_new _ _); have HT3 := Lib.hid (bcell t3 0); have HK3 := Lib.hid (show w2.heap.size < W3.heap.size ∧ w2.heap.size ≠ q from ⟨blt t3, by have := blt hl.blk; omega⟩); have HS3 := Aside0.mk ((solo_frame _ _).keep hS b23); have HL3 := Aside0.mk (hl.below b23); have HQ3 := Lib.hid (Nat.le_trans HB1.out.size hq); have HB3 := Aside0.mk ((HB1.out.trans hb).trans (b23.mono (Nat.le_trans HB1.out.size hb.size))); have HW3 := Lib.hid hW3; clear hS hl hb hk hq b23 t3 hW3)
  | (go_at_call 7; (have hap3 := HAP.out _ _ w2.heap.size _ _ HS3.out HL3.out (.inl (.inr rfl)) HQ3.out (.inr ⟨Nat.le_refl _, HK3.out.1⟩) HK3.out.2 HT3.out); (with_reducible refine hap3.mono ?_); clear hap3; rintro e w4 ⟨rfl, hS, hl, hb⟩; obtain ⟨W5, hW5⟩ : ∃ W5, W5 = w4.alloc (.cells #[.int .i64 0, .int .i64 1] TA) := ⟨_, rfl⟩; have b45 : Below w4.heap.size w4 W5 := (by rw [hW5]; exact below_alloc (Below.refl _ _) _); have t5 : W5.heap[w4.heap.size]? = some (.cells #[.int .i64 0, .int .i64 1] TA (0, 0)) := (by rw [hW5]; exact blk_new _ _); have u0 : W5.cell? ⟨w4.heap.size, 0, none⟩ = some (.int .i64 0) := bcell t5 0; have u1 : W5.cell? ⟨w4.heap.size, 1, none⟩ = some (.int .i64 1) := bcell t5 1; have HS5 := Aside0.mk ((solo_frame _ _).below hS b45); have HL5 := Aside0.mk (hl.below b45); have HB5 := Aside0.mk ((HB3.out.trans hb).trans (b45.mono (Nat.le_trans HB3.out.size hb.size))); have HW5 := Lib.hid hW5; clear hS hl hb b45 t5 hW5)
  | (go_at_call 14; (with_reducible refine (HST.out _ _ _ _ HS5.out HL5.out).mono ?_); rintro e w6 ⟨rfl, hb⟩; have HB6 := Aside0.mk (HB5.out.trans (hb.mono HB5.out.size)); clear hb)
  | fail)
 go_ret
 exact ⟨rfl, HB6.out⟩
end Go.Proofs.YtmbiebdcnadhkaaGreat.Fl
namespace Go.Proofs.YtmbiebdcnadhkaaGreat.Fl
open Go.RowKit Go.Proofs.YtmbiebdcnadhkaaGreatW.PrintWords Go.Proofs.YtmbiebdcnadhkaaGreatW.PrintMore Go.Maps
section
variable {p N0 : Nat} {w : World} {D : PD} {ok : Nat → Prop}
end
end Go.Proofs.YtmbiebdcnadhkaaGreat.Fl
namespace Go.Proofs.YtmbiebdcnadhkaaGreat.Fl
open Go.RowKit Go.Proofs.YtmbiebdcnadhkaaGreatW.PrintWords Go.Proofs.YtmbiebdcnadhkaaGreatW.PrintMore Go.Maps
set_option maxHeartbeats 2000000
set_option maxRecDepth 100000
theorem Lok_nil (w : World) : Calls Tryz.prog 46 #[.pointer none] w fun e w' => e = .returned (.bool false) ∧ w = w' := by
 go_enter Tryz.func46, Tryz.ntmps46
 go_wp2
 go_ret
 exact ⟨rfl, rfl⟩
theorem LDevice_nil (w : World) : Calls Tryz.prog 18 #[.pointer none] w fun e w' => e = .returned (.pointer none) ∧ w = w' := by
 go_enter Tryz.func18, Tryz.ntmps18
 go_wp2_with (go_at_call 46; (with_reducible refine (Lok_nil _).mono ?_); rintro e w1 ⟨rfl, rfl⟩)
 go_ret
 exact ⟨rfl, rfl⟩
theorem LNext_nil (w : World) : Calls Tryz.prog 16 #[.pointer none] w fun e w' => e = .returned (.int .u64 0) ∧ w = w' := by
 go_enter Tryz.func16, Tryz.ntmps16
 go_wp2_with (go_at_call 46; (with_reducible refine (Lok_nil _).mono ?_); rintro e w1 ⟨rfl, rfl⟩)
 go_ret
 exact ⟨rfl, rfl⟩
theorem Lhas_nil (a : Int) (w : World) : Calls Tryz.prog 49 #[.pointer none, .int .i64 a] w fun e w' => e = .returned (.bool false) ∧ w = w' := by
 go_enter Tryz.func49, Tryz.ntmps49
 go_wp2_with (go_at_call 46; (with_reducible refine (Lok_nil _).mono ?_); rintro e w1 ⟨rfl, rfl⟩)
 go_ret
 exact ⟨rfl, rfl⟩
theorem LState_nil (a : Int) (w : World) : Calls Tryz.prog 14 #[.pointer none, .int .i64 a] w fun e w' => e = .returned (.int .i64 2) ∧ w = w' := by
 go_enter Tryz.func14, Tryz.ntmps14
 go_wp2_with (go_at_call 49; (with_reducible refine (Lhas_nil _ _).mono ?_); rintro e w1 ⟨rfl, rfl⟩)
 go_ret
 exact ⟨rfl, rfl⟩
theorem LErase_nil (a : Int) (w : World) : Calls Tryz.prog 13 #[.pointer none, .int .i64 a] w fun e w' => e = .returned (.int .i64 2) ∧ w = w' := by
 go_enter Tryz.func13, Tryz.ntmps13
 go_wp2_with (go_at_call 46; (with_reducible refine (Lok_nil _).mono ?_); rintro e w1 ⟨rfl, rfl⟩)
 go_ret
 exact ⟨rfl, rfl⟩
theorem LCount_nil (a : Int) (w : World) : Calls Tryz.prog 15 #[.pointer none, .int .i64 a] w fun e w' => e = .returned (.int .i64 0) ∧ w = w' := by
 go_enter Tryz.func15, Tryz.ntmps15
 go_wp2
 refine wp_loop_rounds 1 ?_
 rw [rounds_succ]
 go_wp2_with (go_at_call 49; (with_reducible refine (Lhas_nil _ _).mono ?_); rintro e w1 ⟨rfl, rfl⟩)
 go_ret
 exact ⟨rfl, rfl⟩
theorem LEntries_nil (a : Int) (w : World) : Calls Tryz.prog 17 #[.pointer none, .int .i64 a] w fun e w' => e = .returned (.slice none 0 0) ∧ w = w' := by
 go_enter Tryz.func17, Tryz.ntmps17
 go_wp2_with (go_at_call 49; (with_reducible refine (Lhas_nil _ _).mono ?_); rintro e w1 ⟨rfl, rfl⟩)
 go_ret
 exact ⟨rfl, rfl⟩
theorem LOpen_nil (w : World) : Calls Tryz.prog 10 #[.pointer none] w fun e w' => e = .returned (.tuple #[.int .i64 (-1), .int .i64 0]) ∧ w = w' := by
 go_enter Tryz.func10, Tryz.ntmps10
 go_wp2_with (go_at_call 46; (with_reducible refine (Lok_nil _).mono ?_); rintro e w1 ⟨rfl, rfl⟩)
 go_ret2
 exact ⟨rfl, rfl⟩
theorem LSeal_nil (w : World) : Calls Tryz.prog 11 #[.pointer none] w fun e w' => e = .returned (.tuple #[]) ∧ w = w' := by
 go_enter Tryz.func11, Tryz.ntmps11
 go_wp2_with (go_at_call 10; (with_reducible refine (LOpen_nil _).mono ?_); rintro e w1 ⟨rfl, rfl⟩)
 go_end0
 exact ⟨rfl, rfl⟩
theorem DSync_nil (w : World) : Calls Tryz.prog 48 #[.pointer none] w fun e w' => e = .returned (.tuple #[]) ∧ w = w' := by
 go_enter Tryz.func48, Tryz.ntmps48
 go_wp2_with (go_at_call 69; (with_reducible refine (ok_nil _).mono ?_); rintro e w1 ⟨rfl, rfl⟩)
 go_end0
 exact ⟨rfl, rfl⟩
theorem LSync_nil (w : World) : Calls Tryz.prog 12 #[.pointer none] w fun e w' => e = .returned (.tuple #[]) ∧ w = w' := by
 go_enter Tryz.func12, Tryz.ntmps12
 go_wp2_with (first
  | (go_at_call 18; (with_reducible refine (LDevice_nil _).mono ?_); rintro e w1 ⟨rfl, rfl⟩)
  | (go_at_call 48; (with_reducible refine (DSync_nil _).mono ?_); rintro e w1 ⟨rfl, rfl⟩)
  | fail)
 go_end0
 exact ⟨rfl, rfl⟩
theorem LCopy_nil (w : World) : Calls Tryz.prog 19 #[.pointer none] w fun e w' => e = .returned (.pointer none) ∧ w = w' := by
 go_enter Tryz.func19, Tryz.ntmps19
 go_wp2_with (go_at_call 46; (with_reducible refine (Lok_nil _).mono ?_); rintro e w1 ⟨rfl, rfl⟩)
 go_ret
 exact ⟨rfl, rfl⟩
end Go.Proofs.YtmbiebdcnadhkaaGreat.Fl
namespace Go.Proofs.YtmbiebdcnadhkaaGreat.Fl
open Go.RowKit Go.Proofs.YtmbiebdcnadhkaaGreatW.PrintWords Go.Proofs.YtmbiebdcnadhkaaGreatW.PrintMore Go.Maps
set_option maxHeartbeats 2000000
set_option maxRecDepth 100000
theorem LPut_nil (k : Int) (v : Value) (hv : ∃ A n c, v = .slice A n c) (need : Int) (w : World) : Calls Tryz.prog 45 #[.pointer none, .int .u8 k, v, .int .i64 need] w fun e w' => e = .returned (.tuple #[.agg #[.int .i64 0, .int .i64 0], .int .i64 2]) ∧ Below w.heap.size w w' := by
 obtain ⟨A, n, c, rfl⟩ := hv
 obtain ⟨W, hW⟩ : ∃ W, W = (w.alloc (.cells #[.slice A n c] TBs)).alloc (.cells #[.int .i64 0, .int .i64 0] TA) := ⟨_, rfl⟩
 obtain ⟨q6, q8⟩ := pair_blk w (.cells #[.slice A n c] TBs) (.cells #[.int .i64 0, .int .i64 0] TA)
 rw [← hW] at q6 q8
 have wb : Below w.heap.size w W := by rw [hW]; exact below_alloc (below_alloc (Below.refl _ _) _) _
 have z0 : W.cell? ⟨w.heap.size + 1, 0, none⟩ = some (.int .i64 0) := bcell q8 0
 have z1 : W.cell? ⟨w.heap.size + 1, 1, none⟩ = some (.int .i64 0) := bcell q8 1
 have zf : ∀ j, W.frozen? ⟨w.heap.size + 1, j, none⟩ = false := fun j => bfrozen q8 j
 have HW := Lib.hid hW
 have Q8 := Lib.hid q8
 have WB := Aside0.mk wb
 clear hW q6 q8 wb
 go_enter Tryz.func45, Tryz.ntmps45
 go_wp2_with (first
  | (rw [← HW.out])
  | (go_at_call 46; (with_reducible refine (Lok_nil _).mono ?_); rintro e w1 ⟨rfl, rfl⟩)
  | fail)
 have hb9 := setCell_blk (setCell_blk Q8.out 0 (.int .i64 0)) 1 (.int .i64 0)
 have hu := (WB.out.setCell (p := ⟨w.heap.size + 1, 0, none⟩) (Nat.le_succ _) (.int .i64 0)).setCell (p := ⟨w.heap.size + 1, 1, none⟩) (Nat.le_succ _) (.int .i64 0)
 have r0 := bcell hb9 0
 have r1 := bcell hb9 1
 exact bodyPost_ret (v := .tuple #[.agg #[.int .i64 0, .int .i64 0], .int .i64 2]) (by simp [results, Tryz.results45, go_sem, r0, r1]) rfl ⟨rfl, hu⟩
theorem LAppend_nil (k : Int) (v : Value) (hv : ∃ A n c, v = .slice A n c) (w : World) : Calls Tryz.prog 7 #[.pointer none, .int .u8 k, v] w fun e w' => e = .returned (.tuple #[.agg #[.int .i64 0, .int .i64 0], .int .i64 2]) ∧ Below w.heap.size w w' := by
 obtain ⟨W, hW⟩ : ∃ W, W = w.alloc (.cells #[.int .i64 0, .int .i64 0] TA) := ⟨_, rfl⟩
 have q6 : W.heap[w.heap.size]? = some (.cells #[.int .i64 0, .int .i64 0] TA (0, 0)) := by rw [hW]; exact blk_new _ _
 have wb : Below w.heap.size w W := by rw [hW]; exact below_alloc (Below.refl _ _) _
 have HPU := Lib.hid (LPut_nil k v hv 2 W)
 have HW := Lib.hid hW
 have Q6 := Lib.hid q6
 have WB := Aside0.mk wb
 clear hW q6 wb hv
 go_enter Tryz.func7, Tryz.ntmps7
 go_wp2_with (first
  | (rw [← HW.out])
  | (go_at_call 45; (with_reducible refine HPU.out.mono ?_); rintro e w1 ⟨rfl, hb⟩; have x6 := (hb.block _ (blt Q6.out)).trans Q6.out; have z0 : w1.cell? ⟨w.heap.size, 0, none⟩ = some (.int .i64 0) := bcell x6 0; have z1 : w1.cell? ⟨w.heap.size, 1, none⟩ = some (.int .i64 0) := bcell x6 1; have zf : ∀ j, w1.frozen? ⟨w.heap.size, j, none⟩ = false := (fun j => bfrozen x6 j); have X6 := Lib.hid x6; have HB1 := Aside0.mk (WB.out.trans (hb.mono WB.out.size)); clear hb x6)
  | fail)
 have hb9 := setCell_blk (setCell_blk X6.out 0 (.int .i64 0)) 1 (.int .i64 0)
 have hu := (HB1.out.setCell (p := ⟨w.heap.size, 0, none⟩) (Nat.le_refl _) (.int .i64 0)).setCell (p := ⟨w.heap.size, 1, none⟩) (Nat.le_refl _) (.int .i64 0)
 have r0 := bcell hb9 0
 have r1 := bcell hb9 1
 exact bodyPost_ret (v := .tuple #[.agg #[.int .i64 0, .int .i64 0], .int .i64 2]) (by simp [results, Tryz.results7, go_sem, r0, r1]) rfl ⟨rfl, hu⟩
theorem LMove_nil (k : Int) (v : Value) (hv : ∃ A n c, v = .slice A n c) (w : World) : Calls Tryz.prog 8 #[.pointer none, .int .u8 k, v] w fun e w' => e = .returned (.tuple #[.agg #[.int .i64 0, .int .i64 0], .int .i64 2]) ∧ Below w.heap.size w w' := by
 obtain ⟨W, hW⟩ : ∃ W, W = w.alloc (.cells #[.int .i64 0, .int .i64 0] TA) := ⟨_, rfl⟩
 have q6 : W.heap[w.heap.size]? = some (.cells #[.int .i64 0, .int .i64 0] TA (0, 0)) := by rw [hW]; exact blk_new _ _
 have wb : Below w.heap.size w W := by rw [hW]; exact below_alloc (Below.refl _ _) _
 have HPU := Lib.hid (LPut_nil k v hv 1 W)
 have HW := Lib.hid hW
 have Q6 := Lib.hid q6
 have WB := Aside0.mk wb
 clear hW q6 wb hv
 go_enter Tryz.func8, Tryz.ntmps8
 go_wp2_with (first
  | (rw [← HW.out])
  | (go_at_call 45; (with_reducible refine HPU.out.mono ?_); rintro e w1 ⟨rfl, hb⟩; have x6 := (hb.block _ (blt Q6.out)).trans Q6.out; have z0 : w1.cell? ⟨w.heap.size, 0, none⟩ = some (.int .i64 0) := bcell x6 0; have z1 : w1.cell? ⟨w.heap.size, 1, none⟩ = some (.int .i64 0) := bcell x6 1; have zf : ∀ j, w1.frozen? ⟨w.heap.size, j, none⟩ = false := (fun j => bfrozen x6 j); have X6 := Lib.hid x6; have HB1 := Aside0.mk (WB.out.trans (hb.mono WB.out.size)); clear hb x6)
  | fail)
 have hb9 := setCell_blk (setCell_blk X6.out 0 (.int .i64 0)) 1 (.int .i64 0)
 have hu := (HB1.out.setCell (p := ⟨w.heap.size, 0, none⟩) (Nat.le_refl _) (.int .i64 0)).setCell (p := ⟨w.heap.size, 1, none⟩) (Nat.le_refl _) (.int .i64 0)
 have r0 := bcell hb9 0
 have r1 := bcell hb9 1
 exact bodyPost_ret (v := .tuple #[.agg #[.int .i64 0, .int .i64 0], .int .i64 2]) (by simp [results, Tryz.results8, go_sem, r0, r1]) rfl ⟨rfl, hu⟩
theorem Ints_nil (w : World) : Calls Tryz.prog 25 #[.slice none 0 0, .slice none 0 0] w fun e w' => e = .returned (.bool true) ∧ w = w' := by
 go_enter Tryz.func25, Tryz.ntmps25
 go_wp2
 refine wp_loop_rounds 1 ?_
 rw [rounds_succ]
 go_wp2
 go_ret
 exact ⟨rfl, rfl⟩
theorem LRead_nil (a b : Int) (w : World) : Calls Tryz.prog 9 #[.pointer none, .agg #[.int .i64 a, .int .i64 b]] w fun e w' => e = .returned (.tuple #[.agg #[.int .i64 0, .int .i64 0, .int .u64 0, .int .i64 0, .int .u8 0, .slice none 0 0], .int .i64 2]) ∧ Below w.heap.size w w' := by
 obtain ⟨W, hW⟩ : ∃ W, W = (w.alloc (.cells #[.int .i64 a, .int .i64 b] TA)).alloc (.cells #[.int .i64 0, .int .i64 0, .int .u64 0, .int .i64 0, .int .u8 0, .slice none 0 0] TE) := ⟨_, rfl⟩
 obtain ⟨q6, q8⟩ := pair_blk w (.cells #[.int .i64 a, .int .i64 b] TA) (.cells #[.int .i64 0, .int .i64 0, .int .u64 0, .int .i64 0, .int .u8 0, .slice none 0 0] TE)
 rw [← hW] at q6 q8
 have wb : Below w.heap.size w W := by rw [hW]; exact below_alloc (below_alloc (Below.refl _ _) _) _
 have z0 : W.cell? ⟨w.heap.size + 1, 0, none⟩ = some (.int .i64 0) := bcell q8 0
 have z1 : W.cell? ⟨w.heap.size + 1, 1, none⟩ = some (.int .i64 0) := bcell q8 1
 have z2 : W.cell? ⟨w.heap.size + 1, 2, none⟩ = some (.int .u64 0) := bcell q8 2
 have z3 : W.cell? ⟨w.heap.size + 1, 3, none⟩ = some (.int .i64 0) := bcell q8 3
 have z4 : W.cell? ⟨w.heap.size + 1, 4, none⟩ = some (.int .u8 0) := bcell q8 4
 have z5 : W.cell? ⟨w.heap.size + 1, 5, none⟩ = some (.slice none 0 0) := bcell q8 5
 have zf : ∀ j, W.frozen? ⟨w.heap.size + 1, j, none⟩ = false := fun j => bfrozen q8 j
 have HW := Lib.hid hW
 have Q8 := Lib.hid q8
 have WB := Aside0.mk wb
 clear hW q6 q8 wb
 go_enter Tryz.func9, Tryz.ntmps9
 go_wp2_with (first
  | (rw [← HW.out])
  | (go_at_call 46; (with_reducible refine (Lok_nil _).mono ?_); rintro e w1 ⟨rfl, rfl⟩)
  | fail)
 have hb9 := setCell_blk (setCell_blk (setCell_blk (setCell_blk (setCell_blk (setCell_blk Q8.out 0 (.int .i64 0)) 1 (.int .i64 0)) 2 (.int .u64 0)) 3 (.int .i64 0)) 4 (.int .u8 0)) 5 (.slice none 0 0)
 have s := fun {w' : World} (h : Below w.heap.size w w') (j : Nat) (v : Value) => h.setCell (p := ⟨w.heap.size + 1, j, none⟩) (Nat.le_succ _) v
 have hu := s (s (s (s (s (s WB.out 0 (.int .i64 0)) 1 (.int .i64 0)) 2 (.int .u64 0)) 3 (.int .i64 0)) 4 (.int .u8 0)) 5 (.slice none 0 0)
 have r0 := bcell hb9 0
 have r1 := bcell hb9 1
 have r2 := bcell hb9 2
 have r3 := bcell hb9 3
 have r4 := bcell hb9 4
 have r5 := bcell hb9 5
 exact bodyPost_ret (v := .tuple #[.agg #[.int .i64 0, .int .i64 0, .int .u64 0, .int .i64 0, .int .u8 0, .slice none 0 0], .int .i64 2]) (by simp [results, Tryz.results9, go_sem, r0, r1, r2, r3, r4, r5]) rfl ⟨rfl, hu⟩
end Go.Proofs.YtmbiebdcnadhkaaGreat.Fl
namespace Go.Proofs.YtmbiebdcnadhkaaGreat.Fl
open Go.RowKit Go.Proofs.YtmbiebdcnadhkaaGreatW.PrintWords Go.Proofs.YtmbiebdcnadhkaaGreatW.PrintMore Go.Maps
section
variable {N0 p : Nat} {D : PD} {ok : Nat → Prop} {w : World}
set_option maxHeartbeats 1000000 in
set_option maxRecDepth 100000 in
theorem MapClone_any {m : Nat} {es : Array MapEntry} {ck : Nat} (hm : w.heap[m]? = some (.map es ck)) : Calls Tryz.prog 80 #[.map (some m)] w fun e w' => ∃ m', e = .returned (.map (some m')) ∧ w.heap.size ≤ m' ∧ w'.heap[m']? = some (.map es ck) ∧ Below w.heap.size w w' := by
 have en := fun (w : World) (r : Option Nat) => run_eql_map_nil (P := Tryz.prog) w TM TA 25 r Tryz.underlying113
 have hcall : (callFunc 108 #[.iface TM (.map (some m))]).run Tryz.prog w = .ok (.value (.iface TM (.map (some w.heap.size)))) (w.alloc (.map es ck)) := by
  rw [run_callFunc_extern Tryz.func108 (by kernel_rfl) (by kernel_rfl) (by kernel_rfl) (e := Extern.MapsClone.clone) (by kernel_rfl)]
  have hdef : Extern.MapsClone.clone #[.iface TM (.map (some m))] = (do
    let .map entries clock ← getObj m | stuck "maps.clone: a map expected"
    pure (.iface TM (.map (some (← newObj (.map entries clock)))))) := rfl
  rw [hdef]
  simp [MapKept.run_getObj_map hm, newObj, Result.andThen]
  rfl
 have hta : ∀ (w : World) (v : Value), (Instr.typeAssert (.iface TM v) 20 TM false).run Tryz.prog w = .ok v w := by
  intro w v
  simp [Instr.typeAssert, run_underlying Tryz.underlying113, Result.andThen]
 go_enter Tryz.func80, Tryz.ntmps80
 go_wp2_with fail
 go_ret
 exact ⟨w.heap.size, rfl, Nat.le_refl _, blk_new w _, below_alloc (Below.refl _ _) _⟩
def CopyOk (ok : Nat → Prop) (w : World) : Nat → Prop := fun k => w.heap.size ≤ k ∨ (ok k ∧ ∃ cs fr, w.heap[k]? = some (.cells cs TB fr))
theorem copy_end {m m1 : Nat} {v v1 : Value} {es : Array MapEntry} {ck : Nat} {w2 : World} (hD : DevAt N0 p D ok w m v es ck) (hm1 : w.heap.size ≤ m1) (hm2 : w2.heap[m1]? = some (.map es ck)) (hr : kAddr.R TA w2 w.heap.size (fun k => w.heap.size ≤ k) v1 D.dirty) (hb : Below w.heap.size w w2) :
  DevIs N0 w2.heap.size D (CopyOk ok w) (w2.alloc (.cells #[.int .i64 D.s.1, .int .i64 D.s.2.1, .int .i64 D.s.2.2, .map (some m1), v1] TD (0, 0))) ∧ Below w.heap.size w (w2.alloc (.cells #[.int .i64 D.s.1, .int .i64 D.s.2.1, .int .i64 D.s.2.2, .map (some m1), v1] TD (0, 0))) := by
 have hs := hb.size
 have hN : N0 ≤ w.heap.size := Nat.le_of_lt (Nat.lt_of_le_of_lt hD.base (blt hD.blk))
 have hb2 := below_alloc (Below.refl w2.heap.size w2) (.cells #[.int .i64 D.s.1, .int .i64 D.s.2.1, .int .i64 D.s.2.2, .map (some m1), v1] TD (0, 0))
 refine ⟨⟨m1, v1, es, ck, by omega, .inl hs, blk_new w2 _, .inl hm1, by omega, (hb2.block m1 (blt hm2)).trans hm2, ?_, ?_, hD.shape, hD.inr, hD.nodup, hD.lens⟩, hb.trans (hb2.mono hs)⟩
 ·refine hD.ents.imp (fun _ _ hrow => ?_)
  refine ((hrow.bound.step (fun k _ hlt => hb.block k hlt)).below hb2).mono (fun k hk => .inr ⟨hk.1, ?_⟩)
  obtain ⟨_, _, _, q, hq, cs, hc⟩ := hk
  obtain rfl : q = TB := by simpa using hq
  exact ⟨cs, _, hc⟩
 ·exact Kd.R_mono (Kd.R_lower (Kd.R_below hr hb2) hN) (fun k hk => .inl hk)
set_option maxHeartbeats 4000000 in
set_option maxRecDepth 100000 in
theorem Copy_any (hD : DevIs N0 p D ok w) (hm : D.dirty.length < 1000000) : Calls Tryz.prog 41 #[.pointer (some ⟨p, 0, none⟩)] w fun e w' => ∃ p', e = .returned (.pointer (some ⟨p', 0, none⟩)) ∧ w.heap.size ≤ p' ∧ DevIs N0 p' D (CopyOk ok w) w' ∧ Below w.heap.size w w' := by
 obtain ⟨m, v, es, ck, hD⟩ := hD
 have HP := Lib.hid hD.blk
 have HD := Aside0.mk hD
 have k0 : w.cell? ⟨p, 0, none⟩ = some (.int .i64 D.s.1) := bcell hD.blk 0
 have k1 : w.cell? ⟨p, 1, none⟩ = some (.int .i64 D.s.2.1) := bcell hD.blk 1
 have k2 : w.cell? ⟨p, 2, none⟩ = some (.int .i64 D.s.2.2) := bcell hD.blk 2
 have k3 : w.cell? ⟨p, 3, none⟩ = some (.map (some m)) := bcell hD.blk 3
 have k4 : w.cell? ⟨p, 4, none⟩ = some v := bcell hD.blk 4
 have lp := blt hD.blk
 have LP := Lib.hid lp
 have hmm := hm
 have LM := Lib.hid (blt hD.map)
 have HM := Lib.hid hD.map
 clear hD lp
 go_enter Tryz.func41, Tryz.ntmps41
 go_wp2_with (go_at_call 69; (with_reducible refine (ok_blk HP.out).mono ?_); rintro e w' ⟨rfl, rfl⟩)
 go_region_held3 (fun w' => w'.cell? ⟨p, 0, none⟩ = some (.int .i64 D.s.1) ∧ w'.cell? ⟨p, 1, none⟩ = some (.int .i64 D.s.2.1) ∧ w'.cell? ⟨p, 2, none⟩ = some (.int .i64 D.s.2.2) ∧ w'.cell? ⟨p, 3, none⟩ = some (.map (some m)) ∧ w'.cell? ⟨p, 4, none⟩ = some v) (first | go_keep)
  (first
   | (go_at_call 80; refine (MapClone_any (m := m) (es := es) (ck := ck) (((undrew RR.out.2).block m LM.out).trans HM.out)).mono ?_; rintro e w1 ⟨m1, rfl, hm⟩; have hB : Below w.heap.size w w1 := (undrew RR.out.2).trans (hm.2.2.mono (undrew RR.out.2).size); have c0 : w1.cell? ⟨p, 0, none⟩ = some (.int .i64 D.s.1) := (hB.cell (p := ⟨p, 0, none⟩) LP.out).trans k0; have c1 : w1.cell? ⟨p, 1, none⟩ = some (.int .i64 D.s.2.1) := (hB.cell (p := ⟨p, 1, none⟩) LP.out).trans k1; have c2 : w1.cell? ⟨p, 2, none⟩ = some (.int .i64 D.s.2.2) := (hB.cell (p := ⟨p, 2, none⟩) LP.out).trans k2; have c3 : w1.cell? ⟨p, 3, none⟩ = some (.map (some m)) := (hB.cell (p := ⟨p, 3, none⟩) LP.out).trans k3; have c4 : w1.cell? ⟨p, 4, none⟩ = some (v) := (hB.cell (p := ⟨p, 4, none⟩) LP.out).trans k4; have MM := Aside0.mk hm; clear hm hB)
   | (go_at_call 80; refine (MapClone_any (w := w.drew) (m := m) (es := es) (ck := ck) (HM.out)).mono ?_; rintro e w1 ⟨m1, rfl, hm⟩; have hB : Below w.heap.size w w1 := undrew hm.2.2; have c0 : w1.cell? ⟨p, 0, none⟩ = some (.int .i64 D.s.1) := (hB.cell (p := ⟨p, 0, none⟩) LP.out).trans k0; have c1 : w1.cell? ⟨p, 1, none⟩ = some (.int .i64 D.s.2.1) := (hB.cell (p := ⟨p, 1, none⟩) LP.out).trans k1; have c2 : w1.cell? ⟨p, 2, none⟩ = some (.int .i64 D.s.2.2) := (hB.cell (p := ⟨p, 2, none⟩) LP.out).trans k2; have c3 : w1.cell? ⟨p, 3, none⟩ = some (.map (some m)) := (hB.cell (p := ⟨p, 3, none⟩) LP.out).trans k3; have c4 : w1.cell? ⟨p, 4, none⟩ = some (v) := (hB.cell (p := ⟨p, 4, none⟩) LP.out).trans k4; have MM := Aside0.mk hm; clear hm hB)
   | (go_at_call 81; refine (Clone_any (v := v) (xs := D.dirty) (N0 := N0) (ok := ok) (Kd.R_below HD.out.dirty (undrew MM.out.2.2)) hmm).mono ?_; rintro e w1 ⟨v1, rfl, hr1, _, hb1⟩; obtain ⟨A1, c1, rfl⟩ := Kd.R_slice hr1; have hB : Below w.heap.size w w1 := (undrew MM.out.2.2).trans (hb1.mono (undrew MM.out.2.2).size); have c0 : w1.cell? ⟨p, 0, none⟩ = some (.int .i64 D.s.1) := (hB.cell (p := ⟨p, 0, none⟩) LP.out).trans k0; have c1 : w1.cell? ⟨p, 1, none⟩ = some (.int .i64 D.s.2.1) := (hB.cell (p := ⟨p, 1, none⟩) LP.out).trans k1; have c2 : w1.cell? ⟨p, 2, none⟩ = some (.int .i64 D.s.2.2) := (hB.cell (p := ⟨p, 2, none⟩) LP.out).trans k2; have c3 : w1.cell? ⟨p, 3, none⟩ = some (.map (some m)) := (hB.cell (p := ⟨p, 3, none⟩) LP.out).trans k3; have c4 : w1.cell? ⟨p, 4, none⟩ = some (v) := (hB.cell (p := ⟨p, 4, none⟩) LP.out).trans k4; have RR := Aside0.mk (And.intro hr1 hb1); clear hr1 hb1 hB)
   | (go_at_call 81; refine (Clone_any (v := v) (xs := D.dirty) (N0 := N0) (ok := ok) (Kd.R_step (w1 := w.drew) HD.out.dirty (fun _ _ _ => rfl)) hmm).mono ?_; rintro e w1 ⟨v1, rfl, hr1, _, hb1⟩; obtain ⟨A1, c1, rfl⟩ := Kd.R_slice hr1; have hB : Below w.heap.size w w1 := undrew hb1; have c0 : w1.cell? ⟨p, 0, none⟩ = some (.int .i64 D.s.1) := (hB.cell (p := ⟨p, 0, none⟩) LP.out).trans k0; have c1 : w1.cell? ⟨p, 1, none⟩ = some (.int .i64 D.s.2.1) := (hB.cell (p := ⟨p, 1, none⟩) LP.out).trans k1; have c2 : w1.cell? ⟨p, 2, none⟩ = some (.int .i64 D.s.2.2) := (hB.cell (p := ⟨p, 2, none⟩) LP.out).trans k2; have c3 : w1.cell? ⟨p, 3, none⟩ = some (.map (some m)) := (hB.cell (p := ⟨p, 3, none⟩) LP.out).trans k3; have c4 : w1.cell? ⟨p, 4, none⟩ = some (v) := (hB.cell (p := ⟨p, 4, none⟩) LP.out).trans k4; have RR := Aside0.mk (And.intro hr1 hb1); clear hr1 hb1 hB))
 ·go_wp2
  go_ret
  have hb2 : Below w.heap.size w _ := (undrew MM.out.2.2).trans (RR.out.2.mono (undrew MM.out.2.2).size)
  have hr2 := Kd.R_mono (Kd.R_lower RR.out.1 (undrew MM.out.2.2).size) (fun k hk => Nat.le_trans (undrew MM.out.2.2).size hk)
  exact ⟨_, rfl, hb2.size, copy_end HD.out MM.out.1 (RR.out.2.block _ (blt MM.out.2.1) |>.trans MM.out.2.1) hr2 hb2⟩
end
end Go.Proofs.YtmbiebdcnadhkaaGreat.Fl
namespace Go.Proofs.YtmbiebdcnadhkaaGreat.Fl
open Go.RowKit Go.Proofs.YtmbiebdcnadhkaaGreatW.PrintWords Go.Proofs.YtmbiebdcnadhkaaGreatW.PrintMore Go.Maps
def Tri (K : Nat → Prop) (N0 p x c : Nat) (D : PD) (s : Int × Int × Int) (ps : List Pg) (E : PD) (w : World) : Prop :=
 ∃ okD okX okC : Nat → Prop, DevIs N0 p D okD w ∧ RefIs N0 x s ps okX w ∧ DevIs N0 c E okC w ∧ (∀ k, okD k → okX k → False) ∧ (∀ k, okC k → okX k → False) ∧ (∀ k, okC k → okD k → ∃ cs fr, w.heap[k]? = some (.cells cs TB fr)) ∧
  (∀ k, okD k → N0 ≤ k ∧ k < w.heap.size) ∧ (∀ k, okX k → N0 ≤ k ∧ k < w.heap.size) ∧ (∀ k, okC k → N0 ≤ k ∧ k < w.heap.size) ∧ N0 ≤ w.heap.size ∧ (∀ k, K k → k < w.heap.size ∧ ¬ okD k ∧ ¬ okX k ∧ ¬ okC k)
section
variable {K : Nat → Prop} {N0 p x c : Nat} {D E D' : PD} {s : Int × Int × Int} {ps : List Pg} {w w' : World} {f : FuncId} {args : Array Value} {res : Ending}
theorem Tri.dev (h : Tri K N0 p x c D s ps E w) (hc : ∀ ok, DevIs N0 p D ok w → Calls Tryz.prog f args w fun e w' => e = res ∧ DevIs N0 p D' (fun k => ok k ∨ w.heap.size ≤ k) w' ∧ Upd (Mut ok w) w w') :
  Calls Tryz.prog f args w fun e w' => e = res ∧ Tri K N0 p x c D' s ps E w' ∧ Below N0 w w' ∧ Kept K w w' := by
 obtain ⟨okD, okX, okC, hD, hX, hC, d1, d2, d3, n1, n2, n3, h0, hK⟩ := h
 refine (hc okD hD).mono fun e w1 ⟨he, hD1, hu⟩ => ⟨he, ⟨_, okX, okC, hD1.bound, hX.upd hu (fun k hk hm => d1 k hm.1 hk), hC.step (fun k hk hlt => hu.block k hlt (fun hm => ?_)), ?_, d2, ?_, ?_, ?_, ?_, ?_, ?_⟩, upd_below hu h0 (fun k h => (n1 k h).1), fun k hk => hu.block k (hK k hk).1 (fun h => (hK k hk).2.1 h.1)⟩
 ·obtain ⟨cs, fr, e⟩ := d3 k hk hm.1
  exact hm.2 cs fr e
 ·exact fun k hk hx => hk.1.elim (fun h => d1 k h hx) (fun h => by have := (n2 k hx).2; omega)
 ·intro k hk hd
  rcases hd.1 with h | h
  ·obtain ⟨cs, fr, e⟩ := d3 k hk h
   exact ⟨cs, fr, (hu.block k (blt e) (fun hm => hm.2 cs fr e)).trans e⟩
  ·have := (n3 k hk).2; omega
 ·exact fun k hk => hk.2
 ·exact fun k hk => ⟨(n2 k hk).1, Nat.lt_of_lt_of_le (n2 k hk).2 hu.size⟩
 ·exact fun k hk => ⟨(n3 k hk).1, Nat.lt_of_lt_of_le (n3 k hk).2 hu.size⟩
 ·exact Nat.le_trans h0 hu.size
 ·exact fun k hk => ⟨Nat.lt_of_lt_of_le (hK k hk).1 hu.size, fun h => h.1.elim (hK k hk).2.1 (fun h => by have := (hK k hk).1; omega), (hK k hk).2.2⟩
theorem Tri.beside {S : Nat → Prop} (h : Tri K N0 p x c D s ps E w) (hu : Upd S w w') (hS : ∀ k, S k → k < w.heap.size → K k) : Tri K N0 p x c D s ps E w' := by
 obtain ⟨okD, okX, okC, hD, hX, hC, d1, d2, d3, n1, n2, n3, h0, hK⟩ := h
 have hs := hu.size
 refine ⟨okD, okX, okC, hD.step (fun k hk hlt => hu.block k hlt (fun h => (hK k (hS k h hlt)).2.1 hk)), hX.step (fun k hk hlt => hu.block k hlt (fun h => (hK k (hS k h hlt)).2.2.1 hk)), hC.step (fun k hk hlt => hu.block k hlt (fun h => (hK k (hS k h hlt)).2.2.2 hk)), d1, d2, fun k h1 h2 => ?_, fun k h => ⟨(n1 k h).1, Nat.lt_of_lt_of_le (n1 k h).2 hs⟩, fun k h => ⟨(n2 k h).1, Nat.lt_of_lt_of_le (n2 k h).2 hs⟩, fun k h => ⟨(n3 k h).1, Nat.lt_of_lt_of_le (n3 k h).2 hs⟩, Nat.le_trans h0 hs, fun k hk => ⟨Nat.lt_of_lt_of_le (hK k hk).1 hs, (hK k hk).2⟩⟩
 obtain ⟨cs, fr, e⟩ := d3 k h1 h2
 exact ⟨cs, fr, (hu.block k (blt e) (fun h => (hK k (hS k h (blt e))).2.1 h2)).trans e⟩
theorem Tri.below (h : Tri K N0 p x c D s ps E w) (hb : Below w.heap.size w w') : Tri K N0 p x c D s ps E w' := h.beside (Upd.ofBelow hb (fun _ => False)) (fun _ h _ => h.elim)
theorem Tri.keep (h : Tri K N0 p x c D s ps E w) (hb : Below w.heap.size w w') : Tri (fun k => w.heap.size ≤ k ∧ k < w'.heap.size) N0 p x c D s ps E w' := by
 have hs := hb.size
 obtain ⟨okD, okX, okC, hD, hX, hC, d1, d2, d3, n1, n2, n3, h0, hK⟩ := h
 refine ⟨okD, okX, okC, hD.below hb, hX.below hb, hC.below hb, d1, d2, fun k h1 h2 => ?_, fun k h => ⟨(n1 k h).1, Nat.lt_of_lt_of_le (n1 k h).2 hs⟩, fun k h => ⟨(n2 k h).1, Nat.lt_of_lt_of_le (n2 k h).2 hs⟩, fun k h => ⟨(n3 k h).1, Nat.lt_of_lt_of_le (n3 k h).2 hs⟩, Nat.le_trans h0 hs, fun k hk => ⟨hk.2, fun h => ?_, fun h => ?_, fun h => ?_⟩⟩
 ·obtain ⟨cs, fr, e⟩ := d3 k h1 h2
  exact ⟨cs, fr, (hb.block k (blt e)).trans e⟩
 ·have := (n1 k h).2; omega
 ·have := (n2 k h).2; omega
 ·have := (n3 k h).2; omega
theorem Tri.cx (h : Tri K N0 p x c D s ps E w) : Two (fun _ => False) N0 c x E s ps w := by
 obtain ⟨okD, okX, okC, hD, hX, hC, d1, d2, d3, n1, n2, n3, h0, hK⟩ := h
 exact ⟨okC, okX, hC, hX, d2, fun k h => (n3 k h).1, fun k h => (n2 k h).1, h0, fun k h => h.elim⟩
theorem Tri.keepAll (h : Tri K N0 p x c D s ps E w) (hb : Below w.heap.size w w') : Tri (fun k => K k ∨ (w.heap.size ≤ k ∧ k < w'.heap.size)) N0 p x c D s ps E w' := by
 have hs := hb.size
 obtain ⟨okD, okX, okC, hD, hX, hC, d1, d2, d3, n1, n2, n3, h0, hK⟩ := h
 refine ⟨okD, okX, okC, hD.below hb, hX.below hb, hC.below hb, d1, d2, fun k h1 h2 => ?_, fun k h => ⟨(n1 k h).1, Nat.lt_of_lt_of_le (n1 k h).2 hs⟩, fun k h => ⟨(n2 k h).1, Nat.lt_of_lt_of_le (n2 k h).2 hs⟩, fun k h => ⟨(n3 k h).1, Nat.lt_of_lt_of_le (n3 k h).2 hs⟩, Nat.le_trans h0 hs, fun k hk => ?_⟩
 ·obtain ⟨cs, fr, e⟩ := d3 k h1 h2
  exact ⟨cs, fr, (hb.block k (blt e)).trans e⟩
 ·rcases hk with hk | hk
  ·exact ⟨Nat.lt_of_lt_of_le (hK k hk).1 hs, (hK k hk).2⟩
  ·exact ⟨hk.2, fun h => by have := (n1 k h).2; omega, fun h => by have := (n2 k h).2; omega, fun h => by have := (n3 k h).2; omega⟩
theorem Tri.less {K' : Nat → Prop} (h : Tri K N0 p x c D s ps E w) (hk : ∀ k, K' k → K k) : Tri K' N0 p x c D s ps E w := by
 obtain ⟨okD, okX, okC, hD, hX, hC, d1, d2, d3, n1, n2, n3, h0, hK⟩ := h
 exact ⟨okD, okX, okC, hD, hX, hC, d1, d2, d3, n1, n2, n3, h0, fun k h => hK k (hk k h)⟩
end
theorem Tri.drewT {K : Nat → Prop} {N0 p x c : Nat} {D E : PD} {s : Int × Int × Int} {ps : List Pg} {w : World} (h : Tri K N0 p x c D s ps E w) : Tri K N0 p x c D s ps E w.drew := h.below ((Below.refl _ w).drew)
theorem tri_frame (N0 p x c : Nat) (s : Int × Int × Int) (ps : List Pg) (E : PD) : DevFrame N0 p (fun K D w => Tri K N0 p x c D s ps E w) where
 dev := fun h => by
  obtain ⟨okD, _, _, hD, _⟩ := h
  exact ⟨okD, hD⟩
 keep := fun h hb => h.keepAll hb
 less := fun h hk => h.less hk
 upd := fun h hc => h.dev hc
 size := fun h => by
  obtain ⟨okD, okX, okC, hD, hX, hC, d1, d2, d3, n1, n2, n3, h0, hK⟩ := h
  exact h0
 lt := fun h k hk => by
  obtain ⟨okD, okX, okC, hD, hX, hC, d1, d2, d3, n1, n2, n3, h0, hK⟩ := h
  exact (hK k hk).1
theorem tri_stays (N0 p x c : Nat) (s : Int × Int × Int) (ps : List Pg) (E D : PD) : Stays (fun K w => Tri K N0 p x c D s ps E w) := fun K w w' q o o' T h hq hb hb' hT hu => h.beside hu (fun k hk _ => by rw [hk]; exact hq)
theorem Two.copyK {K : Nat → Prop} {N0 p x : Nat} {D : PD} {s : Int × Int × Int} {ps : List Pg} {w : World} (h : Two K N0 p x D s ps w) (hm : D.dirty.length < 1000000) (hT : ∀ k, K k → ∃ cs T fr, w.heap[k]? = some (.cells cs T fr) ∧ T ≠ TB) :
  Calls Tryz.prog 41 #[.pointer (some ⟨p, 0, none⟩)] w fun e w' => ∃ c, e = .returned (.pointer (some ⟨c, 0, none⟩)) ∧ Tri K N0 p x c D s ps D w' ∧ Below w.heap.size w w' := by
 obtain ⟨okD, okX, hD, hX, hd, h1, h2, h0, hK⟩ := h
 refine (Copy_any hD.bound hm).mono fun e w' ⟨c, he, _, hC, hb⟩ => ⟨c, he, ⟨_, _, _, hD.bound.below hb, hX.bound.below hb, hC.bound, fun k h1 h2 => hd k h1.1 h2.1, fun k h1 h2 => ?_, fun k h1 h2 => ?_, fun k h => ⟨h.2.1, Nat.lt_of_lt_of_le h.2.2 hb.size⟩, fun k h => ⟨h.2.1, Nat.lt_of_lt_of_le h.2.2 hb.size⟩, fun k h => h.2, Nat.le_trans h0 hb.size, fun k hk => ?_⟩, hb⟩
 ·rcases h1.1 with h | ⟨h, _⟩
  ·have := h2.2.2; omega
  ·exact hd k h.1 h2.1
 ·rcases h1.1 with h | ⟨_, cs, fr, e⟩
  ·have := h2.2.2; omega
  ·exact ⟨cs, fr, (hb.block k (blt e)).trans e⟩
 ·obtain ⟨hlt, hor⟩ := hK k hk
  obtain ⟨cs, T, fr, e, hne⟩ := hT k hk
  have hno : ¬ okD k ∧ ¬ okX k := hor.elim id (fun ⟨cs2, fr2, e2⟩ => by
   rw [e] at e2
   injection e2 with e2
   injection e2 with _ e2 _
   exact absurd e2 hne)
  refine ⟨Nat.lt_of_lt_of_le hlt hb.size, fun h => hno.1 h.1, fun h => hno.2 h.1, fun h => ?_⟩
  rcases h.1 with h | ⟨h, _⟩
  ·omega
  ·exact hno.1 h.1
def K4 (P : Pl) (q2 k : Nat) : Prop := k = P.q ∨ k = P.r ∨ k = P.t ∨ k = q2
def logV (p : Nat) (g : LG) : Value := .agg (logC p g).toArray
theorem logC_size {p : Nat} {g : LG} (h : g.st.length = 16) : (logC p g).toArray.size = 20 := by simp [logC, h]
theorem logC_one {p : Nat} {g : LG} : (logC p g).toArray.all (·.oneCell') = true := by
 rw [Array.all_eq_true_iff_forall_mem]
 intro x hx
 simp only [logC, List.mem_toArray, List.mem_cons, List.mem_append, List.mem_map, List.not_mem_nil, or_false] at hx
 rcases hx with rfl | ⟨b, _, rfl⟩ | rfl | rfl | rfl <;> rfl
theorem info_log : (Tryz.prog.info? TL).map (·.size) = some 20 := by kernel_rfl
theorem setRow_updL {w : World} {g : Nat} (cs : Array Value) : Upd (fun k => k = g) w (w.setRow g cs) :=
 ⟨rfl, rfl, rfl, by simp [World.setRow], fun k _ hn => by
  have hne : ¬ g = k := fun e => hn e.symm
  simp only [World.setRow, Array.getElem?_modify, if_neg hne]⟩
theorem setRow_blkL {w : World} {g : Nat} {old cs : Array Value} {t : TypeId} (h : w.heap[g]? = some (.cells old t (0, 0))) : (w.setRow g cs).heap[g]? = some (.cells cs t (0, 0)) := by
 simp [World.setRow, Array.getElem?_modify, h]
section
variable {ops : Array Oper} {o : Oper} {rest : List Oper} {a : Act} {X : World} {Q : Exit → Act → World → Prop} {p : Nat} {gg : LG}
theorem wl_loadL (hgd : o.guard = none) {x : Operand} (ho : o.op = .load TL x) {g : Nat} (hx : a.eval x = .pointer (some ⟨g, 0, none⟩)) (hg : X.heap[g]? = some (.cells (logC p gg).toArray TL (0, 0))) (h16 : gg.st.length = 16)
  (h : wpList Tryz.prog ops Q rest (a.put o.dst (logV p gg)) X) : wpList Tryz.prog ops Q (o :: rest) a X :=
 wpList_plain hgd fun K hK => wp_load_row TL x ho g hx TL _ (0, 0) _ hg Tryz.underlying96 rfl (by rw [info_log, logC_size h16]) (hK _ _ h)
theorem wl_storeL (hgd : o.guard = none) {x y : Operand} (ho : o.op = .store TL x y) {g : Nat} (hx : a.eval x = .pointer (some ⟨g, 0, none⟩)) (hy : a.eval y = logV p gg) {old : Array Value} (hg : X.heap[g]? = some (.cells old TL (0, 0))) (hold : old.size = 20) (h16 : gg.st.length = 16)
  (h : ∀ Y, Y.heap[g]? = some (.cells (logC p gg).toArray TL (0, 0)) → Upd (fun k => k = g) X Y → wpList Tryz.prog ops Q rest (a.put o.dst undef) Y) : wpList Tryz.prog ops Q (o :: rest) a X :=
 wpList_plain hgd fun K hK => wp_store_row TL x y ho g _ hx hy TL old hg (by rw [info_log, logC_size h16]) (by rw [hold, logC_size h16]) logC_one (hK _ _ (h _ (setRow_blkL hg) (setRow_updL _)))
end
set_option maxHeartbeats 4000000 in
set_option maxRecDepth 100000 in
theorem LT.copy {K : Nat → Prop} {N0 : Nat} {P : Pl} {s : Int × Int × Int} {D : PD} {g : LG} {ps : List Pg} {gr : LG} {w : World} (h : LT K N0 P s D g ps gr w) (hdl : D.dirty.length < 1000000) :
  Calls Tryz.prog 19 #[.pointer (some ⟨P.q, 0, none⟩)] w fun e w' => ∃ q2 c, e = .returned (.pointer (some ⟨q2, 0, none⟩)) ∧ Tri (K4 P q2) N0 P.p P.x c D s ps D w' ∧ LogIs q2 c g w' ∧ N0 ≤ q2 ∧ P.q ≠ q2 ∧ Below w.heap.size w w' := by
 have hl := h.log
 have hOK := Lib.hid (Lok_any hl)
 have hlen := hl.len
 have hcp := fun (Y : World) (hb : Below w.heap.size w Y) (q2b : ∃ cs, Y.heap[w.heap.size]? = some (.cells cs TL (0, 0))) => Two.copyK ((h.two.keep hb).less (K' := K4 P w.heap.size) (fun k hk => by
   rcases hk with rfl | rfl | rfl | rfl
   ·exact .inl h.kq
   ·exact .inl h.kr
   ·exact .inl h.kt
   ·exact .inr ⟨Nat.le_refl _, by obtain ⟨cs, e⟩ := q2b; exact blt e⟩)) hdl (fun k hk => by
   rcases hk with rfl | rfl | rfl | rfl
   ·exact ⟨_, _, _, (hl.below hb).blk, by decide⟩
   ·exact ⟨_, _, _, (h.rlog.below hb).blk, by decide⟩
   ·exact ⟨_, _, _, (h.rlog.below hb).row, by decide⟩
   ·obtain ⟨cs, e⟩ := q2b; exact ⟨_, _, _, e, by decide⟩)
 have hc0 := fun (Y : World) (hb : Below w.heap.size w Y) => (hl.below hb).c0
 have hne : P.q ≠ w.heap.size := by have := h.lt _ h.kq; omega
 have HCP := Lib.hid hcp
 have HC0 := Lib.hid hc0
 have HBLK := Lib.hid hl.blk
 have HSZ := Lib.hid h.size
 have HGL := Lib.hid hlen
 clear hl hcp h hc0 hlen
 go_enter Tryz.func19, Tryz.ntmps19
 go_wp2_with (first
  | (go_at_call 46; (with_reducible refine hOK.out.mono ?_); rintro e w1 ⟨rfl, rfl⟩)
  | ((with_reducible refine gate_dst (N := 9) rfl ?_); refine wl_loadL rfl rfl rfl HBLK.out HGL.out ?_)
  | ((with_reducible refine gate_store (t := TL) (p := 3) rfl ?_); refine wl_storeL rfl rfl rfl rfl (blk_new _ _) rfl HGL.out ?_; intro Y hY hu; have HB1 := Aside0.mk (show Below w.heap.size w Y from (below_alloc (Below.refl _ w) _).trans (hu.below (below_alloc (Below.refl _ w) _).size (fun k hk => by rw [hk]; exact Nat.le_refl _))); have HY := Lib.hid hY; have y0 := HC0.out Y HB1.out; clear hY hu)
  | (go_at_call 41; (with_reducible refine (HCP.out _ HB1.out ⟨_, HY.out⟩).mono ?_); rintro e w2 ⟨c, rfl, hT, hb⟩; have x2 := (hb.block _ (blt HY.out)).trans HY.out; have x0 : w2.cell? ⟨w.heap.size, 0, none⟩ = some (.pointer (some ⟨P.p, 0, none⟩)) := bcell x2 0; have xf : ∀ j, w2.frozen? ⟨w.heap.size, j, none⟩ = false := (fun j => bfrozen x2 j); have X2 := Lib.hid x2; have HT2 := Aside0.mk hT; have HB2 := Aside0.mk hb; clear hT hb x2)
  | fail)
 go_ret
 have hb9 := setCell_blk X2.out 0 (.pointer (some ⟨c, 0, none⟩))
 have hu : Upd (fun k => k = w.heap.size) w2 (w2.setCell ⟨w.heap.size, 0, none⟩ (.pointer (some ⟨c, 0, none⟩))) := Upd.setCell w2 (p := ⟨w.heap.size, 0, none⟩) (S := fun k => k = w.heap.size) rfl _
 exact ⟨w.heap.size, c, rfl, HT2.out.beside hu (fun k hk _ => .inr (.inr (.inr hk))), ⟨HGL.out, by rw [hb9]; simp [logC]⟩, HSZ.out, hne, (HB1.out.trans (HB2.out.mono HB1.out.size)).setCell (p := ⟨w.heap.size, 0, none⟩) (Nat.le_refl _) _⟩
end Go.Proofs.YtmbiebdcnadhkaaGreat.Fl
namespace Go.Proofs.YtmbiebdcnadhkaaGreat.Fl
open Go.RowKit Go.Proofs.YtmbiebdcnadhkaaGreatW.PrintWords Go.Proofs.YtmbiebdcnadhkaaGreatW.PrintMore Go.Maps
structure FV (α : Type) where
 seg : Int
 seq : Int
 A : Option Addr
 c : Nat
 l : List α
end Go.Proofs.YtmbiebdcnadhkaaGreat.Fl
namespace Go.Proofs.YtmbiebdcnadhkaaGreat.Fl
open Go.RowKit Go.Proofs.YtmbiebdcnadhkaaGreatW.PrintWords Go.Proofs.YtmbiebdcnadhkaaGreatW.PrintMore Go.Maps
instance : Inhabited (FV En) := ⟨⟨0, 0, none, 0, []⟩⟩
end Go.Proofs.YtmbiebdcnadhkaaGreat.Fl
namespace Go.Proofs.YtmbiebdcnadhkaaGreat.Fl
open Go.RowKit Go.Proofs.YtmbiebdcnadhkaaGreatW.PrintWords Go.Proofs.YtmbiebdcnadhkaaGreatW.PrintMore Go.Maps
structure FCell (w : World) (g i : Nat) (x : FV En) : Prop where
 c0 : w.cell? ⟨g, i * 3, none⟩ = some (.int .i64 x.seg)
 c1 : w.cell? ⟨g, i * 3 + 1, none⟩ = some (.int .u64 x.seq)
 c2 : w.cell? ⟨g, i * 3 + 2, none⟩ = some (.slice x.A x.l.length x.c)
theorem FCell.below {w w' : World} {g i : Nat} {x : FV En} (h : FCell w g i x) (hb : Below w.heap.size w w') : FCell w' g i x :=
 have f : ∀ {a : Addr} {v : Value}, w.cell? a = some v → w'.cell? a = some v := fun h => (hb.cell (blt_of_cell h)).trans h
 ⟨f h.c0, f h.c1, f h.c2⟩
def FRow (w : World) (A : Option Addr) (l : List (FV En)) : Prop := ∀ (i : Nat) (x : FV En), l[i]? = some x → ∃ g, A = some ⟨g, 0, none⟩ ∧ FCell w g i x
theorem FRow.below {w w' : World} {A : Option Addr} {l : List (FV En)} (h : FRow w A l) (hb : Below w.heap.size w w') : FRow w' A l := fun i e hi => by
 obtain ⟨g, h1, h2⟩ := h i e hi
 exact ⟨g, h1, h2.below hb⟩
def FEnt (base : Nat) (w : World) (z : FV En) : Prop := kEnt.R TE w base (fun k => base ≤ k) (.slice z.A z.l.length z.c) z.l
theorem FEnt.typed {base : Nat} {w w' : World} {z : FV En} (h : FEnt base w z) (hm : ∀ (k : Nat) (cs : Array Value) (q : TypeId), (q = TE ∨ q = TB) → w.heap[k]? = some (.cells cs q (0, 0)) → w'.heap[k]? = w.heap[k]?) : FEnt base w' z := by
 refine Kd.R_mono (Kd.R_move (Kd.R_bound h) (fun k hk => ?_)) (fun k hk => hk.1)
 obtain ⟨_, _, _, q, hq, cs, hc⟩ := hk
 refine hm k cs q ?_ hc
 simpa [kEnt] using hq
theorem FEnt.below {base : Nat} {w w' : World} {z : FV En} (h : FEnt base w z) (hb : Below w.heap.size w w') : FEnt base w' z := Kd.R_below h hb
theorem FEnt.lower {base base' : Nat} {w : World} {z : FV En} (h : FEnt base w z) (hb : base' ≤ base) : FEnt base' w z := Kd.R_mono (Kd.R_lower h hb) (fun k hk => Nat.le_trans hb hk)
end Go.Proofs.YtmbiebdcnadhkaaGreat.Fl
namespace Go.Proofs.YtmbiebdcnadhkaaGreat.Fl
open Go.RowKit Go.Proofs.YtmbiebdcnadhkaaGreatW.PrintWords Go.Proofs.YtmbiebdcnadhkaaGreatW.PrintMore Go.Maps
section
variable {N0 p : Nat} {D : PD} {w : World} {ok : Nat → Prop}
end
end Go.Proofs.YtmbiebdcnadhkaaGreat.Fl
namespace Go.Proofs.YtmbiebdcnadhkaaGreat.Fl
open Go.RowKit Go.Proofs.YtmbiebdcnadhkaaGreatW.PrintWords Go.Proofs.YtmbiebdcnadhkaaGreatW.PrintMore Go.Maps
end Go.Proofs.YtmbiebdcnadhkaaGreat.Fl
namespace Go.Proofs.YtmbiebdcnadhkaaGreat.Fl
open Go.RowKit Go.Proofs.YtmbiebdcnadhkaaGreatW.PrintWords Go.Proofs.YtmbiebdcnadhkaaGreatW.PrintMore Go.Maps
def IRow (w : World) (A : Option Addr) (l : List Int) : Prop := ∀ (i : Nat) (x : Int), l[i]? = some x → ∃ g, A = some ⟨g, 0, none⟩ ∧ w.cell? ⟨g, i, none⟩ = some (.int .i64 x)
theorem IRow.below {w w' : World} {A : Option Addr} {l : List Int} (h : IRow w A l) (hb : Below w.heap.size w w') : IRow w' A l := fun i x hi => by
 obtain ⟨g, h1, h2⟩ := h i x hi
 exact ⟨g, h1, (hb.cell (blt_of_cell h2)).trans h2⟩
theorem IRow.nil (w : World) (A : Option Addr) : IRow w A [] := fun i x hi => by simp at hi
theorem IRow.ofR {w : World} {base : Nat} {ok : Nat → Prop} {v : Value} {l : List Int} (h : kI.R TNi w base ok v l) : ∃ A c, v = .slice A l.length c ∧ IRow w A l := by
 by_cases h0 : 0 < l.length
 ·obtain ⟨g, cap, rest, hv, _, _, _, hb⟩ := row_blk h h0
  refine ⟨_, _, hv, fun i x hi => ⟨g, rfl, ?_⟩⟩
  have hl := (List.getElem?_eq_some_iff.1 hi).1
  rw [bcell hb]
  simp only [List.getElem?_toArray]
  rw [List.getElem?_append_left (by simpa using hl), List.getElem?_map, hi]
  rfl
 ·obtain rfl : l = [] := List.eq_nil_of_length_eq_zero (by omega)
  obtain ⟨A, c, hv⟩ := Kd.R_slice h
  exact ⟨A, c, hv, IRow.nil _ _⟩
set_option maxHeartbeats 1000000 in
set_option maxRecDepth 100000 in
theorem Index_any {w : World} {A : Option Addr} {c : Nat} {l : List Int} (h : IRow w A l) (hl : l.length ≤ 1000) (a : Int) : Calls Tryz.prog 99 #[.slice A l.length c, .int .i64 a] w (IndexPost l a w) := by
 obtain ⟨n, hn⟩ : ∃ n, n = l.length := ⟨_, rfl⟩
 have HC := Lib.hid h
 have HNN := Lib.hid hn
 rw [← hn] at hl
 rw [← hn]
 clear h hn
 go_enter Tryz.func99, Tryz.ntmps99
 go_wp2
 go_loopw [5, 8] (fun v5 v8 wr => ∃ k : Nat, k ≤ n ∧ v8 = .int .i64 (k : Int) ∧ (∀ i, i < k → l[i]? ≠ some a) ∧ w = wr) (fun _ v8 _ => n - (intOf v8).toNat)
 case atStart => exact ⟨0, Nat.zero_le _, rfl, fun i hi => by omega, rfl⟩
 case round =>
  obtain ⟨k, hk, rfl, hn, rfl⟩ := hrel
  have HN := Lib.hid hn
  clear hn
  by_cases hlt : k < n
  ·obtain ⟨x, hx⟩ : ∃ x, l[k]? = some x := ⟨_, List.getElem?_eq_getElem (by have := HNN.out; omega)⟩
   obtain ⟨g, hA, kc⟩ := HC.out k x hx
   subst hA
   have HX := Lib.hid hx
   have k0 : (0 : Int) ≤ (k : Int) := by omega
   have k1 : (k : Int) < (n : Int) := by omega
   clear hx
   by_cases hxa : a = x
   ·have e1 : (a == x) = true := by simpa using hxa
    have HXA := Lib.hid hxa
    clear hxa
    go_wp2
    go_ret
    exact ⟨_, rfl, .inr ⟨k, rfl, by have := HNN.out; omega, by rw [HX.out, HXA.out], HN.out⟩, rfl⟩
   ·have e1 : (a == x) = false := by simpa using hxa
    have HXA := Lib.hid hxa
    clear hxa
    go_wp2
    refine ⟨⟨k + 1, by omega, by go_num, ?_⟩, by simp [intOf]; omega⟩
    refine (show (∀ i, i < k + 1 → l[i]? ≠ some a) ∧ True from ⟨fun i hi => ?_, trivial⟩)
    by_cases hik : i = k
    ·rw [hik, HX.out]
     exact fun he => HXA.out (Option.some.inj he).symm
    ·exact HN.out i (by omega)
  ·obtain rfl : k = n := by omega
   go_wp2
   go_ret
   exact ⟨_, rfl, .inl ⟨rfl, fun i hi => HN.out i (by have := HNN.out; omega)⟩, rfl⟩
theorem firstAt_mem {l : List Int} {a r : Int} (h : FirstAt l a r) : decide (r ≥ 0) = decide (a ∈ l) := by
 rw [decide_eq_decide]
 rcases h with ⟨rfl, h⟩ | ⟨n, rfl, h1, h2, _⟩
 ·constructor
  ·intro h; omega
  ·intro hm
   obtain ⟨i, hi⟩ := List.mem_iff_getElem?.1 hm
   exact absurd hi (h i (List.getElem?_eq_some_iff.1 hi).1)
 ·exact ⟨fun _ => List.mem_of_getElem? h2, fun _ => by omega⟩
set_option maxHeartbeats 1000000 in
set_option maxRecDepth 100000 in
theorem Contains_any {w : World} {A : Option Addr} {c : Nat} {l : List Int} (h : IRow w A l) (hl : l.length ≤ 1000) (a : Int) : Calls Tryz.prog 66 #[.slice A l.length c, .int .i64 a] w fun e w' => e = .returned (.bool (decide (a ∈ l))) ∧ w = w' := by
 have hi := Index_any (c := c) h hl a
 have HI := Lib.hid hi
 clear hi h hl
 go_enter Tryz.func66, Tryz.ntmps66
 go_wp2_with (first
  | (go_at_call 99; (with_reducible refine HI.out.mono ?_); rintro e w1 ⟨r, rfl, hf, rfl⟩; have HF := Lib.hid hf; clear hf)
  | fail)
 go_ret
 exact ⟨by rw [← firstAt_mem HF.out]; rfl, rfl⟩
def loadSt (l : List Int) (k : Nat) : List Int := (List.range 16).map (fun i => if i < k ∧ (i : Int) ∈ l then 2 else 0)
def loadG (l : List Int) (k : Nat) (nx : Int) : LG := ⟨loadSt l k, -1, 0, nx⟩
theorem loadG_zero (l : List Int) (nx : Int) : loadG l 0 nx = newG nx := by
 unfold loadG loadSt newG
 simp [List.range, List.range.loop, List.replicate]
theorem loadSt_in {l : List Int} {k : Nat} (hk : k < 16) (h : (k : Int) ∈ l) : (loadSt l k).set k 2 = loadSt l (k + 1) := by
 apply List.ext_getElem?
 intro i
 unfold loadSt
 rw [List.getElem?_set]
 simp only [List.length_map, List.length_range, List.getElem?_map]
 by_cases hi : i < 16
 ·rw [List.getElem?_range hi]
  simp only [Option.map_some]
  by_cases e : k = i
  ·subst e
   rw [if_pos rfl, if_pos hi, if_pos ⟨by omega, h⟩]
  ·rw [if_neg e]
   congr 1
   by_cases h2 : i < k
   ·have : (i < k ∧ (i : Int) ∈ l) = (i < k + 1 ∧ (i : Int) ∈ l) := propext ⟨fun h => ⟨by omega, h.2⟩, fun h => ⟨h2, h.2⟩⟩
    simp only [this]
   ·rw [if_neg (fun h => h2 h.1), if_neg (fun h => by omega)]
 ·have : (List.range 16)[i]? = none := by rw [List.getElem?_eq_none_iff]; simp; omega
  rw [this]
  simp
  intro e
  omega
theorem loadSt_out {l : List Int} {k : Nat} (h : (k : Int) ∉ l) : loadSt l k = loadSt l (k + 1) := by
 unfold loadSt
 refine List.map_congr_left (fun i _ => ?_)
 by_cases e : i = k
 ·subst e
  rw [if_neg (fun hh => h hh.2), if_neg (fun hh => h hh.2)]
 ·have : (i < k ∧ (i : Int) ∈ l) = (i < k + 1 ∧ (i : Int) ∈ l) := propext ⟨fun h => ⟨by omega, h.2⟩, fun h => ⟨by omega, h.2⟩⟩
  simp only [this]
def loadOk (D : PD) (l : List Int) : Bool := (List.range D.s.1.toNat).all (fun i => decide ((i : Int) ∈ l) || cleanD D (i : Int))
def LoadPost (w : World) (D : PD) (p : Nat) (l : List Int) (nx : Int) (e : Ending) (w' : World) : Prop :=
 (loadOk D l = true ∧ ∃ q, e = .returned (.tuple #[.pointer (some ⟨q, 0, none⟩), .int .i64 0]) ∧ w.heap.size ≤ q ∧ LogIs q p (loadG l D.s.1.toNat nx) w' ∧ Below w.heap.size w w') ∨ (loadOk D l = false ∧ e = .returned (.tuple #[.pointer none, .int .i64 1]) ∧ Below w.heap.size w w')
section
variable {N0 p : Nat} {D : PD} {w : World} {ok : Nat → Prop}
set_option maxHeartbeats 4000000 in
set_option maxRecDepth 100000 in
theorem Load_any (hD : DevIs N0 p D ok w) (h4 : 4 ≤ D.s.1) {A : Option Addr} {c : Nat} {l : List Int} (hI : IRow w A l) (hl : l.length ≤ 1000) (nx : Int) :
  Calls Tryz.prog 24 #[.pointer (some ⟨p, 0, none⟩), .slice A l.length c, .int .u64 nx] w (LoadPost w D p l nx) := by
 have hs := hD.sound.sh
 obtain ⟨n, hn⟩ := Int.eq_ofNat_of_zero_le (show 0 ≤ D.s.1 by have := hs.a0; omega)
 have n2 : n ≤ 16 := by have := hs.a1; omega
 have hfr := fresh_any hD h4 nx
 have hsh := fun (X : World) (hX : Below w.heap.size w X) => Shape_any (hD.below hX)
 have hcl := fun (X : World) (hX : Below w.heap.size w X) (a : Int) => Clean_any (hD.below hX) a
 have hco := fun (X : World) (hX : Below w.heap.size w X) (a : Int) => Contains_any (c := c) (hI.below hX) hl a
 simp only [hn] at hsh
 have rs := fun (X : World) => run_shape1 X (n : Int) D.s.2.1 D.s.2.2
 obtain ⟨m, hm⟩ : ∃ m, m = l.length := ⟨_, rfl⟩
 rw [← hm] at hco ⊢
 have HFR := Lib.hid hfr
 have HSH := Lib.hid hsh
 have HCL := Lib.hid hcl
 have HCO := Lib.hid hco
 have HN := Lib.hid (show D.s.1.toNat = n by omega)
 clear hD hs hfr hsh hcl hco hn hI hl hm h4
 go_enter Tryz.func24, Tryz.ntmps24
 go_wp2_with (first
  | (go_at_call 65; (with_reducible refine HFR.out.mono ?_); rintro e w1 ⟨q, rfl, hq, hl, hb⟩; have HQ := Lib.hid hq; have HL1 := Aside0.mk hl; have HB1 := Aside0.mk hb; clear hq hl hb)
  | (go_at_call 58; (with_reducible refine (HSH.out _ HB1.out).mono ?_); rintro e w2 ⟨rfl, hb⟩; have HL2 := Aside0.mk (HL1.out.below hb); have HB2 := Aside0.mk (HB1.out.trans (hb.mono HB1.out.size)); clear hb)
  | fail)
 go_loopw [10, 23] (fun v10 v23 wr => ∃ (k : Nat), k ≤ n ∧ v23 = .int .i64 (k : Int) ∧ LogIs q p (loadG l k nx) wr ∧ (∀ i : Nat, i < k → (decide ((i : Int) ∈ l) || cleanD D (i : Int)) = true) ∧ Below w.heap.size w wr) (fun _ v23 _ => n - (intOf v23).toNat)
 case atStart => exact ⟨0, Nat.zero_le _, rfl, by rw [loadG_zero]; exact HL2.out, fun i hi => by omega, HB2.out⟩
 case round =>
  obtain ⟨k, hk, rfl, hl, ha, hb⟩ := hrel
  have HL := Aside0.mk hl
  have HA := Lib.hid ha
  have HB := Aside0.mk hb
  clear hl ha hb
  by_cases hlt : k < n
  ·have q1 : (k : Int) < (n : Int) := by omega
   have q0 : (0 : Int) ≤ (k : Int) := by omega
   have q16 : (k : Int) < 16 := by omega
   have hcw := HCO.out wr HB.out (k : Int)
   by_cases hin : (k : Int) ∈ l
   ·rw [decide_eq_true hin] at hcw
    have HCW := Lib.hid hcw
    have HIN := Lib.hid hin
    obtain ⟨x, hx⟩ : ∃ x, (loadG l k nx).st[k]? = some x := ⟨_, List.getElem?_eq_getElem (by rw [HL.out.len]; omega)⟩
    have c1 := HL.out.cst hx
    have f1 := HL.out.frozen (1 + k)
    clear hcw hin hx
    go_wp2_with (first
     | (go_at_call 66; (with_reducible refine HCW.out.mono ?_); rintro e w3 ⟨rfl, rfl⟩)
     | fail)
    have hl3 := HL.out.setSt (show k < 16 by omega) 2
    have e3 : ({ loadG l k nx with st := (loadG l k nx).st.set k 2 } : LG) = loadG l (k + 1) nx := by
     show (⟨(loadSt l k).set k 2, -1, 0, nx⟩ : LG) = _
     rw [loadSt_in (by omega) HIN.out]
     rfl
    rw [e3] at hl3
    refine ⟨⟨k + 1, by omega, by go_num, hl3, fun i hi => ?_, HB.out.setCell (p := ⟨q, 1 + k, none⟩) HQ.out _⟩, by simp [intOf]; omega⟩
    by_cases e : i = k
    ·rw [e, decide_eq_true HIN.out]; rfl
    ·exact HA.out i (by omega)
   ·rw [decide_eq_false hin] at hcw
    have HCW := Lib.hid hcw
    have HIN := Lib.hid hin
    have hcc := fun (X : World) (hX : Below w.heap.size w X) => HCL.out X hX (k : Int)
    cases hcl : cleanD D (k : Int) with
    | true =>
     rw [hcl] at hcc
     have HCC := Lib.hid hcc
     have HX := Lib.hid hcl
     clear hcw hin hcc hcl
     go_wp2_with (first
      | (go_at_call 66; (with_reducible refine HCW.out.mono ?_); rintro e w3 ⟨rfl, rfl⟩)
      | (go_at_call 67; (with_reducible refine (HCC.out _ HB.out).mono ?_); rintro e w4 ⟨rfl, hb⟩; have HL4 := Aside0.mk (HL.out.below hb); have HB4 := Aside0.mk (HB.out.trans (hb.mono HB.out.size)); clear hb)
      | fail)
     refine ⟨⟨k + 1, by omega, by go_num, ?_, fun i hi => ?_, HB4.out⟩, by simp [intOf]; omega⟩
     ·have e3 : loadG l (k + 1) nx = loadG l k nx := by
       unfold loadG
       rw [loadSt_out HIN.out]
      rw [e3]
      exact HL4.out
     ·by_cases e : i = k
      ·rw [e, HX.out, Bool.or_true]
      ·exact HA.out i (by omega)
    | false =>
     rw [hcl] at hcc
     have HCC := Lib.hid hcc
     have HX := Lib.hid hcl
     clear hcw hin hcc hcl
     go_wp2_with (first
      | (go_at_call 66; (with_reducible refine HCW.out.mono ?_); rintro e w3 ⟨rfl, rfl⟩)
      | (go_at_call 67; (with_reducible refine (HCC.out _ HB.out).mono ?_); rintro e w4 ⟨rfl, hb⟩; have HB4 := Aside0.mk (HB.out.trans (hb.mono HB.out.size)); clear hb)
      | fail)
     (try rw [Exit.noGoto_ret])
     go_ret2
     refine .inr ⟨?_, rfl, HB4.out⟩
     unfold loadOk
     rw [List.all_eq_false]
     exact ⟨k, by rw [List.mem_range, HN.out]; exact hlt, by rw [HX.out, decide_eq_false HIN.out]; decide⟩
  ·obtain rfl : k = n := by omega
   go_wp2
   go_ret2
   refine .inl ⟨?_, q, rfl, HQ.out, by rw [HN.out]; exact HL.out, HB.out⟩
   unfold loadOk
   rw [List.all_eq_true]
   exact fun i hi => HA.out i (by rw [List.mem_range, HN.out] at hi; exact hi)
end
end Go.Proofs.YtmbiebdcnadhkaaGreat.Fl
namespace Go.Proofs.YtmbiebdcnadhkaaGreat.Fl
open Go.RowKit Go.Proofs.YtmbiebdcnadhkaaGreatW.PrintWords Go.Proofs.YtmbiebdcnadhkaaGreatW.PrintMore Go.Maps
def LowA (B n : Nat) (A : Option Addr) : Prop := ∀ ad, A = some ad → 0 < n → B ≤ ad.block
end Go.Proofs.YtmbiebdcnadhkaaGreat.Fl
namespace Go.Proofs.YtmbiebdcnadhkaaGreat.Fl
open Go.RowKit Go.Proofs.YtmbiebdcnadhkaaGreatW.PrintWords Go.Proofs.YtmbiebdcnadhkaaGreatW.PrintMore Go.Maps
theorem LowA.mono {B B' n : Nat} {A : Option Addr} (h : LowA B n A) (hb : B' ≤ B) : LowA B' n A := fun ad hA h0 => Nat.le_trans hb (h ad hA h0)
end Go.Proofs.YtmbiebdcnadhkaaGreat.Fl
namespace Go.Proofs.YtmbiebdcnadhkaaGreat.Fl
structure LaidS (D : PD) (a sq : Int) (rs : List (Int × List Int)) (e : Int) : Prop where
 head : Holds D a 0 1 sq []
 chain : Chain D a sq 1 rs e
 free : ∀ d, e ≤ d → usedB D a d = false
theorem LaidS.move {D E : PD} (hs : E.s = D.s) {a sq : Int} {rs : List (Int × List Int)} {e : Int} (h : LaidS D a sq rs e) (hg : ∀ d, gotD E a d = gotD D a d) (hu : ∀ d, usedB E a d = usedB D a d) : LaidS E a sq rs e :=
 ⟨h.head.move hs (fun d _ _ => hg d), h.chain.move hs (fun d _ _ => hg d), fun d hd => by rw [hu]; exact h.free d hd⟩
theorem LaidS.keep {D : PD} (hs : ShapeOk D.s) {a sq : Int} {rs : List (Int × List Int)} {e : Int} (h : LaidS D a sq rs e) {c b kd sq2 : Int} {l : List Int} (h0 : (appE D c b l.length).2 = 0) (hne : a ≠ c) : LaidS (appD D c b l.length (Fl.rec kd sq2 l)) a sq rs e :=
 h.move (appD_s _ _ _ _ _) (fun d => app_got hs h0 (fun hh => hne hh.1)) (fun d => by rw [app_used hs h0, decide_eq_false (fun hh => hne hh.1), Bool.false_or])
def upd {α : Type} (f : Int → α) (m : Int) (x : α) (i : Int) : α := if i = m then x else f i
section
variable {D : PD} {g : LG} {sq : Int → Int} {rs : Int → List (Int × List Int)} {e : Int → Int}
end
end Go.Proofs.YtmbiebdcnadhkaaGreat.Fl
namespace Go.Proofs.YtmbiebdcnadhkaaGreat.Fl
open Go.RowKit Go.Proofs.YtmbiebdcnadhkaaGreatW.PrintWords Go.Proofs.YtmbiebdcnadhkaaGreatW.PrintMore Go.Maps
end Go.Proofs.YtmbiebdcnadhkaaGreat.Fl
namespace Go.Proofs.YtmbiebdcnadhkaaGreat.Fl
open Go.RowKit Go.Proofs.YtmbiebdcnadhkaaGreatW.PrintWords Go.Proofs.YtmbiebdcnadhkaaGreatW.PrintMore Go.Maps
theorem filter_both {α : Type} (q : α → Bool) (l : List α) : (l.filter q).length + (l.filter (fun x => !q x)).length = l.length := by
 induction l with
 | nil => rfl
 | cons x l ih =>
  rw [List.filter_cons, List.filter_cons]
  cases q x <;> simp <;> omega
theorem loadSt_take {l : List Int} {n : Nat} (hn : n ≤ 16) : (loadSt l n).take n = (List.range n).map (fun i : Nat => if (i : Int) ∈ l then 2 else 0) := by
 unfold loadSt
 rw [← List.map_take, List.take_range, Nat.min_eq_left hn]
 refine List.map_congr_left (fun i hi => ?_)
 have : i < n := by simpa using hi
 have e : (i < n ∧ (i : Int) ∈ l) = ((i : Int) ∈ l) := propext ⟨fun h => h.2, fun h => ⟨this, h⟩⟩
 simp only [e]
section
variable {p N0 : Nat} {w : World} {D : PD} {ok : Nat → Prop}
end
end Go.Proofs.YtmbiebdcnadhkaaGreat.Fl
namespace Go.Proofs.YtmbiebdcnadhkaaGreat.Fl
theorem used_hasU {D : PD} {c d : Int} (h : usedB D c d = true) : hasB D.s c d = true := by
 unfold usedB at h
 rw [Bool.and_eq_true] at h
 exact h.1
theorem got_of_memU {q : Pg} : ∀ {ps : List Pg}, Nd ps → q ∈ ps → got q.1 ps = some q.2.1
 | p :: ps, hd, h => by
  obtain ⟨h1, h2⟩ := List.pairwise_cons.1 hd
  rw [got_cons]
  rcases List.mem_cons.1 h with rfl | h
  ·rw [if_pos rfl]
  ·rw [if_neg (h1 q h), got_of_memU h2 h]
theorem Sim.usedOfU {D : PD} {s : Int × Int × Int} {ps : List Pg} (h : Sim D s ps) {q : Pg} (hq : q ∈ ps) : usedB D q.1.1 q.1.2 = true := by
 unfold usedB
 rw [h.lk, show (q.1.1, q.1.2) = q.1 from rfl, got_of_memU h.nd hq, h.sh, h.has q hq]
 rfl
section
variable {D : PD} {s : Int × Int × Int} {ps : List Pg}
theorem Sim.usedUff (h : Sim D s ps) (x : Adr) : usedB D x.1 x.2 = true ↔ ∃ p ∈ ps, p.1 = x := by
 constructor
 ·intro hu
  rw [h.used, findI_iff] at hu
  cases hg : got (x.1, x.2) ps with
  | none => rw [hg] at hu; cases hu
  | some l =>
   obtain ⟨p, hp, h1, _⟩ := got_mem hg
   exact ⟨p, hp, h1⟩
 ·rintro ⟨p, hp, rfl⟩
  exact h.usedOfU hp
end
end Go.Proofs.YtmbiebdcnadhkaaGreat.Fl
namespace Go.Proofs.YtmbiebdcnadhkaaGreat.Fl
open Go.RowKit Go.Proofs.YtmbiebdcnadhkaaGreatW.PrintWords Go.Proofs.YtmbiebdcnadhkaaGreatW.PrintMore Go.Maps
def nz (st : List Int) (i : Nat) : Bool := decide (st[i]? ≠ some 0)
def selK (st : List Int) (k : Nat) : List Int := ((List.range k).filter (nz st)).map (fun i : Nat => (i : Int))
theorem selK_succ {st : List Int} {k : Nat} {x : Int} (h : st[k]? = some x) : selK st (k + 1) = if x = 0 then selK st k else selK st k ++ [(k : Int)] := by
 have hn : nz st k = decide (x ≠ 0) := by
  unfold nz
  rw [h, decide_eq_decide]
  exact ⟨fun h e => h (by rw [e]), fun h e => h (by injection e)⟩
 unfold selK
 rw [List.range_succ, List.filter_append, List.map_append]
 by_cases e : x = 0
 ·rw [if_pos e, List.filter_cons, hn, e]; simp
 ·rw [if_neg e, List.filter_cons, hn]; simp [e]
theorem selK_len (st : List Int) (k : Nat) : (selK st k).length ≤ k := by
 unfold selK
 rw [List.length_map]
 exact Nat.le_trans (List.length_filter_le _ _) (by simp)
theorem selK_mem {st : List Int} {n i : Nat} (hi : i < n) : (i : Int) ∈ selK st n ↔ nz st i = true := by
 unfold selK
 rw [List.mem_map]
 constructor
 ·rintro ⟨j, hj, e⟩
  have : j = i := by omega
  rw [this] at hj
  exact (List.mem_filter.1 hj).2
 ·intro h
  exact ⟨i, List.mem_filter.2 ⟨by simpa using hi, h⟩, rfl⟩
theorem sel_counts (st : List Int) {n : Nat} (hn : n ≤ 16) (nx : Int) : cnt 2 ((loadG (selK st n) n nx).st.take n) = (selK st n).length ∧ (cnt 0 ((loadG (selK st n) n nx).st.take n) : Int) = (n : Int) - (selK st n).length := by
 have hst : (loadG (selK st n) n nx).st.take n = (List.range n).map (fun i : Nat => if nz st i = true then (2 : Int) else 0) := by
  show (loadSt _ _).take _ = _
  rw [loadSt_take hn]
  refine List.map_congr_left (fun i hi => ?_)
  have hi : i < n := by simpa using hi
  have e : ((i : Int) ∈ selK st n) = (nz st i = true) := propext (selK_mem hi)
  simp only [e]
 have hf : ∀ (a : Int) (q : Nat → Bool), (∀ i, ((if nz st i = true then (2 : Int) else 0) == a) = q i) → cnt a ((List.range n).map (fun i : Nat => if nz st i = true then (2 : Int) else 0)) = ((List.range n).filter q).length := fun a q hq => by
  unfold cnt
  rw [List.filter_map, List.length_map]
  congr 1
  refine List.filter_congr (fun i _ => ?_)
  exact hq i
 have h2 := hf 2 (nz st) (fun i => by cases nz st i <;> decide)
 have h0 := hf 0 (fun i => !nz st i) (fun i => by cases nz st i <;> decide)
 have hb := filter_both (nz st) (List.range n)
 rw [List.length_range] at hb
 have hl : (selK st n).length = ((List.range n).filter (nz st)).length := by unfold selK; rw [List.length_map]
 rw [hst, h2, h0, hl]
 exact ⟨rfl, by omega⟩
theorem clean_of {D : PD} (hs : ShapeOk D.s) {i : Nat} (hi : i < D.s.1.toNat) (h : ∀ b, usedB D (i : Int) b = false) : cleanD D (i : Int) = true := by
 unfold cleanD
 rw [show hasB D.s (i : Int) 0 = true from (hasB_iff _ _ _).2 ⟨by omega, by omega, Int.le_refl _, by have := hs.b0; omega⟩, Bool.true_and, List.all_eq_true]
 intro b _
 rw [h]
 rfl
theorem LInv.loads {D : PD} {g : LG} (h : LInv D g) : loadOk D (selK (grOf D.s g).st D.s.1.toNat) = true := by
 unfold loadOk
 rw [List.all_eq_true]
 intro i hi
 rw [List.mem_range] at hi
 by_cases hm : (i : Int) ∈ selK (grOf D.s g).st D.s.1.toNat
 ·rw [decide_eq_true hm]; rfl
 ·have h1 : nz (grOf D.s g).st i = false := by
   cases hz : nz (grOf D.s g).st i with
   | false => rfl
   | true => exact absurd ((selK_mem hi).2 hz) hm
  have h2 : (grOf D.s g).st[i]? = some 0 := by
   unfold nz at h1
   simpa using h1
  have h3 : g.st[i]? = some 0 := by
   have : (g.st.take D.s.1.toNat)[i]? = some 0 := h2
   rw [List.getElem?_take_of_lt hi] at this
   exact this
  rw [clean_of h.sh hi (h.free i (by omega) h3), Bool.or_true]
theorem Sim.loads_none {D : PD} {ps : List Pg} (h : Sim D D.s ps) (hs : ShapeOk D.s) : loadOk D [] = decide (¬ 0 < ps.length) := by
 by_cases h0 : 0 < ps.length
 ·rw [decide_eq_false (fun hh => hh h0)]
  obtain ⟨p, hp⟩ : ∃ p, p ∈ ps := by
   cases ps with
   | nil => simp at h0
   | cons p ps => exact ⟨p, List.mem_cons_self⟩
  have hu := h.usedOfU hp
  have hh := (hasB_iff _ _ _).1 (used_hasU hu)
  unfold loadOk
  rw [List.all_eq_false]
  refine ⟨p.1.1.toNat, by rw [List.mem_range]; omega, ?_⟩
  have e1 : ((p.1.1.toNat : Nat) : Int) = p.1.1 := by omega
  have hc : cleanD D p.1.1 = false := by
   unfold cleanD
   rw [Bool.and_eq_false_iff]
   refine .inr ?_
   rw [List.all_eq_false]
   refine ⟨p.1.2.toNat, by rw [List.mem_range]; omega, ?_⟩
   have e2 : ((p.1.2.toNat : Nat) : Int) = p.1.2 := by omega
   rw [e2, hu]
   decide
  rw [e1, hc]
  simp
 ·rw [decide_eq_true h0]
  have hps : ps = [] := by
   cases ps with
   | nil => rfl
   | cons p ps => simp at h0
  unfold loadOk
  rw [List.all_eq_true]
  intro i hi
  rw [List.mem_range] at hi
  rw [clean_of hs hi (fun b => ?_), Bool.or_true]
  cases hb : usedB D (i : Int) b with
  | false => rfl
  | true =>
   exfalso
   obtain ⟨p, hp, _⟩ := (h.usedUff ((i : Int), b)).1 hb
   rw [hps] at hp
   cases hp
theorem Tri.cdev {K : Nat → Prop} {N0 p x c : Nat} {D : PD} {s : Int × Int × Int} {ps : List Pg} {E : PD} {w : World} (h : Tri K N0 p x c D s ps E w) : ∃ ok, DevIs N0 c E ok w := by
 obtain ⟨okD, okX, okC, hD, hX, hC, _⟩ := h
 exact ⟨okC, hC⟩
theorem Tri.xref {K : Nat → Prop} {N0 p x c : Nat} {D : PD} {s : Int × Int × Int} {ps : List Pg} {E : PD} {w : World} (h : Tri K N0 p x c D s ps E w) : ∃ A c, w.cell? ⟨x, 3, none⟩ = some (.slice A ps.length c) := by
 obtain ⟨okD, okX, okC, hD, ⟨_, _, v, hx, hR⟩, hC, _⟩ := h
 obtain ⟨A, c, rfl⟩ := Kd.R_slice hR
 exact ⟨A, c, bcell hx 3⟩
end Go.Proofs.YtmbiebdcnadhkaaGreat.Fl
namespace Go.Proofs.YtmbiebdcnadhkaaGreat.Fl
open Go.RowKit Go.Proofs.YtmbiebdcnadhkaaGreatW.PrintWords Go.Proofs.YtmbiebdcnadhkaaGreatW.PrintMore Go.Maps
set_option maxHeartbeats 8000000 in
set_option maxRecDepth 100000 in
theorem SeglogOwn_any {w : World} {A B : Option Addr} {c d : Nat} (s : Int × Int × Int) {ds : List SDeed} {l : List Int} (hr : LRow w A ds) (h0 : ds.length ≤ 9223372036854775807) (hp : ∀ d ∈ ds, SDeedOk d) (kind : Int) (hkk : KindOk kind) (hC : kB.C w B l.length l) (hcd : l.length ≤ d) (hl0 : l.length ≤ 9223372036854775807) (hBl : Byt l) (nx : Int) :
  Calls Tryz.prog 3 #[.agg #[.int .i64 s.1, .int .i64 s.2.1, .int .i64 s.2.2], .slice A ds.length c, .int .u8 kind, .slice B l.length d, .int .u64 nx] w fun e w' => e = .returned (.bool true) ∧ Below w.heap.size w w' := by
 obtain ⟨n, hn⟩ : ∃ n, n = ds.length := ⟨_, rfl⟩
 obtain ⟨m, hm⟩ : ∃ m, m = l.length := ⟨_, rfl⟩
 obtain ⟨W, hW⟩ : ∃ W, W = w.alloc (.cells #[.int .i64 s.1, .int .i64 s.2.1, .int .i64 s.2.2] 23) := ⟨_, rfl⟩
 have q0 : W.heap[w.heap.size]? = some (.cells #[.int .i64 s.1, .int .i64 s.2.1, .int .i64 s.2.2] 23 (0, 0)) := by rw [hW]; exact blk_new w _
 have qb : Below w.heap.size w W := by rw [hW]; exact below_alloc (Below.refl _ _) _
 have hbox : ∀ V : World, Below W.heap.size W V → V.cell? ⟨w.heap.size, 0, none⟩ = some (.int .i64 s.1) ∧ V.cell? ⟨w.heap.size, 1, none⟩ = some (.int .i64 s.2.1) ∧ V.cell? ⟨w.heap.size, 2, none⟩ = some (.int .i64 s.2.2) := fun V hV => by
  have := (hV.block w.heap.size (blt q0)).trans q0
  exact ⟨bcell this 0, bcell this 1, bcell this 2⟩
 have hfew : ∀ V : World, Below W.heap.size W V → Calls Tryz.prog 20 #[.slice A n c] V fun e w' => e = .returned (.bool (fewS ds)) ∧ Below W.heap.size W w' := fun V hV => by
  rw [hn]
  exact (Few15_any ((hr.below qb).below hV) h0).mono fun e w' ⟨h1, h2⟩ => ⟨h1, hV.trans (h2.mono hV.size)⟩
 have hmade : mayB s = true → fewS ds = true → ∀ V : World, Below W.heap.size W V → Calls Tryz.prog 22 #[.agg #[.int .i64 s.1, .int .i64 s.2.1, .int .i64 s.2.2], .slice A n c] V (MadePost V s ds.length) := fun hs hf V hV => by
  rw [hn]
  exact Made15_any hs ((hr.below qb).below hV) hf hp
 have hdat : ∀ V : World, Below W.heap.size W V → kB.C V B l.length l := fun V hV => Kd.C_below (Kd.C_below hC qb) hV
 have hlen : fewS ds = true → ds.length ≤ 60 := fun h => (fewS_ok h).1
 have HBOX := Lib.hid hbox
 have HFEW := Lib.hid hfew
 have HMADE := Lib.hid hmade
 have HLEN := Lib.hid hlen
 have HDAT := Lib.hid hdat
 have HBL := Lib.hid hBl
 have HKK := Lib.hid hkk
 have HW := Lib.hid hW
 have QB := Aside0.mk qb
 have HN := Lib.hid hn
 have HM := Lib.hid hm
 rw [← hn] at h0
 rw [← hn]
 rw [← hm] at hcd hl0
 rw [← hm]
 clear hr hn hp hbox hfew hmade hW q0 qb hlen hC hm hdat hBl hkk
 go_enter Tryz.func3, Tryz.ntmps3
 go_wp2_with fail
 rw [← HW.out]
 go_wp2_with (first
  | (go_at_call 6; (with_reducible refine (Awake15_any _).mono ?_); rintro e w1 ⟨rfl, hb⟩; have HB1 := Aside0.mk hb; clear hb)
  | (go_at_call 7; (with_reducible refine (LAppend_nil _ _ ⟨_, _, _, rfl⟩ _).mono ?_); rintro e w2 ⟨rfl, hb⟩; have HB2 := Aside0.mk (HB1.out.trans (hb.mono HB1.out.size)); clear hb)
  | (go_at_call 8; (with_reducible refine (LMove_nil _ _ ⟨_, _, _, rfl⟩ _).mono ?_); rintro e w3 ⟨rfl, hb⟩; have HB3 := Aside0.mk ((below_alloc HB2.out _).trans (hb.mono (below_alloc HB2.out _).size)); clear hb)
  | (go_at_call 9; (with_reducible refine (LRead_nil _ _ _).mono ?_); rintro e w4 ⟨rfl, hb⟩; have HB4 := Aside0.mk ((below_alloc HB3.out _).trans (hb.mono (below_alloc HB3.out _).size)); clear hb)
  | (go_at_call 10; (with_reducible refine (LOpen_nil _).mono ?_); rintro e w5 ⟨rfl, rfl⟩)
  | (go_at_call 11; (with_reducible refine (LSeal_nil _).mono ?_); rintro e w5 ⟨rfl, rfl⟩)
  | (go_at_call 12; (with_reducible refine (LSync_nil _).mono ?_); rintro e w5 ⟨rfl, rfl⟩)
  | (go_at_call 13; (with_reducible refine (LErase_nil _ _).mono ?_); rintro e w5 ⟨rfl, rfl⟩)
  | (go_at_call 14; (with_reducible refine (LState_nil _ _).mono ?_); rintro e w5 ⟨rfl, rfl⟩)
  | (go_at_call 15; (with_reducible refine (LCount_nil _ _).mono ?_); rintro e w5 ⟨rfl, rfl⟩)
  | (go_at_call 16; (with_reducible refine (LNext_nil _).mono ?_); rintro e w5 ⟨rfl, rfl⟩)
  | (go_at_call 17; (with_reducible refine (LEntries_nil _ _).mono ?_); rintro e w5 ⟨rfl, rfl⟩)
  | (go_at_call 18; (with_reducible refine (LDevice_nil _).mono ?_); rintro e w5 ⟨rfl, rfl⟩)
  | (go_at_call 19; (with_reducible refine (LCopy_nil _).mono ?_); rintro e w5 ⟨rfl, rfl⟩)
  | fail)
 have hFEW4 := HFEW.out (w4.alloc (.cells #[.int .i64 0, .int .i64 0, .int .u64 0, .int .i64 0, .int .u8 0, .slice none 0 0] TE)) (below_alloc HB4.out _)
 cases hf : fewS ds with
 | false =>
  rw [hf] at hFEW4
  have HFW := Lib.hid hFEW4
  clear hf hFEW4
  go_wp2_with (first
   | (go_at_call 20; (with_reducible refine HFW.out.mono ?_); rintro e w6 ⟨rfl, hb⟩; obtain ⟨k1, k2, k3⟩ := HBOX.out _ hb; have HB6 := Aside0.mk hb; clear hb)
   | fail)
  go_ret
  exact ⟨rfl, QB.out.trans (HB6.out.mono QB.out.size)⟩
 | true =>
  rw [hf] at hFEW4
  have HFW := Lib.hid hFEW4
  have HF := Lib.hid hf
  clear hf hFEW4
  cases hmy : mayB s with
  | false =>
   have HMY := Lib.hid hmy
   clear hmy
   go_wp2_with (first
    | (go_at_call 20; (with_reducible refine HFW.out.mono ?_); rintro e w6 ⟨rfl, hb⟩; obtain ⟨k1, k2, k3⟩ := HBOX.out _ hb; have HB6 := Aside0.mk hb; clear hb)
    | (go_at_call 21; (with_reducible refine (May_any _ _).mono ?_); rw [HMY.out]; rintro e w7 ⟨rfl, hb⟩; have HB7 := Aside0.mk (HB6.out.trans (hb.mono HB6.out.size)); clear hb)
    | fail)
   go_ret
   exact ⟨rfl, QB.out.trans (HB7.out.mono QB.out.size)⟩
  | true =>
   have HMD := Lib.hid (HMADE.out hmy HF.out)
   have HMY := Lib.hid hmy
   have hsh : ShapeOk s := by
    unfold mayB at hmy
    rw [Bool.and_eq_true] at hmy
    exact shapeB_ok hmy.1
   have h4 : 4 ≤ s.1 := by
    unfold mayB at hmy
    rw [Bool.and_eq_true] at hmy
    have := hmy.2
    simp at this
    omega
   have HSH := Lib.hid hsh
   have H4 := Lib.hid h4
   clear hmy HMADE hsh h4
   by_cases hbig : 400 < m
   ·have e_b : decide ((m : Int) > 400) = true := decide_eq_true (by omega)
    clear hbig
    go_wp2_with (first
     | (go_at_call 20; (with_reducible refine HFW.out.mono ?_); rintro e w6 ⟨rfl, hb⟩; obtain ⟨k1, k2, k3⟩ := HBOX.out _ hb; have HB6 := Aside0.mk hb; clear hb)
     | (go_at_call 21; (with_reducible refine (May_any _ _).mono ?_); rw [HMY.out]; rintro e w7 ⟨rfl, hb⟩; have HB7 := Aside0.mk (HB6.out.trans (hb.mono HB6.out.size)); clear hb)
     | fail)
    go_ret
    exact ⟨rfl, QB.out.trans (HB7.out.mono QB.out.size)⟩
   ·have e_b : decide ((m : Int) > 400) = false := decide_eq_false (by omega)
    have HM400 := Lib.hid (show l.length ≤ 400 by have := HM.out; omega)
    clear hbig
    go_wp2_with (first
     | (go_at_call 20; (with_reducible refine HFW.out.mono ?_); rintro e w6 ⟨rfl, hb⟩; obtain ⟨k1, k2, k3⟩ := HBOX.out _ hb; have HB6 := Aside0.mk hb; clear hb)
     | (go_at_call 21; (with_reducible refine (May_any _ _).mono ?_); rw [HMY.out]; rintro e w7 ⟨rfl, hb⟩; clear k1 k2 k3; have HB7 := Aside0.mk (HB6.out.trans (hb.mono HB6.out.size)); obtain ⟨k1, k2, k3⟩ := HBOX.out _ HB7.out; clear hb)
     | (go_at_call 22; (with_reducible refine (HMD.out _ HB7.out).mono ?_); clear k1 k2 k3; rintro e w8 ⟨P, D, g, ps, rfl, hat⟩; have hdi := hat.ds.keep HSH.out (by have := HLEN.out HF.out; omega); obtain rfl : D.s = s := hdi.sim.sh; have HDI := Aside0.mk hdi; have HT8 := Aside0.mk hat.lt; have HB8 := Aside0.mk hat.bel; have HPL := Lib.hid (show ps.length < 800000 ∧ g.nx < 900000 ∧ D.dirty.length < 1000000 by have := HLEN.out HF.out; have := hdi.len; have := hdi.nx; have h3 := hdi.sim.dirtyLe; omega); clear hat hdi)
     | fail)
    have hcp := HT8.out.copy HPL.out.2.2
    have HCP := Lib.hid hcp
    clear hcp
    go_wp2_with (first
     | (go_at_call 19; (with_reducible refine HCP.out.mono ?_); rintro e w9 ⟨q2, c5, rfl, hT, hl, hN2, hne, hb⟩; have HT9 := Aside0.mk hT; have HC9 := Aside0.mk hl; have HL9 := Aside0.mk (HT8.out.log.below hb); have HR9 := Aside0.mk (HT8.out.rlog.below hb); have HNQ2 := Lib.hid hN2; have HNE := Lib.hid hne; have HB9 := Aside0.mk (HB8.out.trans (hb.mono HB8.out.size)); clear hT hl hN2 hne hb)
     | fail)
    have hP := HPL.out
    have hI := HDI.out.inv
    obtain ⟨at_, er, D2, g2, ps2, hps⟩ := put_total (need := 2) hI (by omega) ps kind l
    have hkp := hps.keep hI HDI.out.sim (by have := HM400.out; omega) HKK.out HBL.out hP.2.1
    have hap := LAppend_F (tri_frame w7.heap.size P.p P.x c5 D.s ps D) (tri_stays w7.heap.size P.p P.x c5 D.s ps D) HT9.out HL9.out (.inl rfl) (v := .slice B l.length d) (kind := kind) (at_ := at_) (er := er) (D2 := D2) (g2 := g2)
     (fun K2 X hK hX hlX hb => hps.driver hI HDI.out.sim hP.1 hP.2.1 HKK.out HBL.out (by have := HM400.out; omega) (tri_frame w7.heap.size P.p P.x c5 D.s ps D) (tri_stays w7.heap.size P.p P.x c5 D.s ps D) hX hlX (hK _ (.inl rfl)) HT8.out.nq (by have := HM.out; omega) (fun Y hY _ => Kd.C_below (HDAT.out _ HB7.out) (HB9.out.trans ((hb.mono HB9.out.size).trans hY))))
    have hne2 := HT8.out.qr
    have hne3 := HT8.out.qt
    rw [← HM.out] at hap
    have HAP := Lib.hid hap
    have HKP := Aside0.mk hkp
    have HQR := Lib.hid hne2
    have HQT := Lib.hid hne3
    clear hP hI hps hkp hap hne2 hne3
    go_wp2_with (first
     | (go_at_call 7; (with_reducible refine HAP.out.mono ?_); rintro e w10 ⟨rfl, hT, hl, hb, hk⟩; have HT10 := Aside0.mk hT; have HL10 := Aside0.mk hl; have HC10 := Aside0.mk (show LogIs q2 c5 g w10 from ⟨HC9.out.len, (hk q2 ⟨.inr (.inr (.inr rfl)), HNE.out.symm⟩).trans HC9.out.blk⟩); have HR10 := Aside0.mk (HR9.out.step (hk _ ⟨.inr (.inl rfl), HQR.out.symm⟩) (hk _ ⟨.inr (.inr (.inl rfl)), HQT.out.symm⟩)); have HB10 := Aside0.mk (HB9.out.trans hb); clear hT hl hb hk)
     | fail)
    have hse := LSeal_F (N0 := w7.heap.size) (F := fun K D' w => Tri K w7.heap.size P.p P.x c5 D' D.s ps D w) (tri_stays w7.heap.size P.p P.x c5 D.s ps D) HT10.out HL10.out (.inl rfl) HT8.out.nq HB10.out.size ((tri_frame w7.heap.size P.p P.x c5 D.s ps D).lt HT10.out) (by have h1 := HKP.out.inv.hi; have h2 := HKP.out.sh; have h3 := HSH.out.a1; rw [h2] at h1; omega)
    have HSE := Lib.hid hse
    clear hse
    go_wp2_with (first
     | (go_at_call 11; (with_reducible refine HSE.out.mono ?_); rintro e w11 ⟨rfl, hT, hl, hb, hk⟩; have HT11 := Aside0.mk hT; have HC11 := Aside0.mk (show LogIs q2 c5 g w11 from ⟨HC10.out.len, (hk q2 ⟨.inr (.inr (.inr rfl)), HNE.out.symm⟩).trans HC10.out.blk⟩); have HR11 := Aside0.mk (HR10.out.step (hk _ ⟨.inr (.inl rfl), HQR.out.symm⟩) (hk _ ⟨.inr (.inr (.inl rfl)), HQT.out.symm⟩)); have HB11 := Aside0.mk (HB10.out.trans hb); clear hT hl hb hk)
     | fail)
    have HTD := Aside0.mk HT11.out.drewT
    have HCD := Aside0.mk (HC11.out.below ((Below.refl w11.heap.size w11).drew))
    have HRD := Aside0.mk (HR11.out.below ((Below.refl w11.heap.size w11).drew))
    have HBD := Aside0.mk ((Below.refl w11.heap.size w11).drew)
    have a0 := HRD.out.c0
    have a4 : w11.drew.cell? ⟨P.r, 4, none⟩ = some (.int .u64 g.nx) := HRD.out.c4
    have e_n : (g.nx == g.nx) = true := by simp
    go_region_held3 (fun w' => w'.cell? ⟨P.r, 0, none⟩ = some (.pointer (some ⟨P.x, 0, none⟩)) ∧ w'.cell? ⟨P.r, 4, none⟩ = some (.int .u64 g.nx)) (first | go_keep | exact ⟨a0, a4⟩)
     (first
      | (go_at_call 18; (with_reducible refine (LDevice_any HCD.out).mono ?_); rintro e z1 ⟨rfl, rfl⟩)
      | (go_at_call 23; clear a0 a4; (with_reducible refine (Like_any HTD.out.cx HDI.out.sim (by have := HPL.out.1; omega)).mono ?_); rintro e z2 ⟨rfl, hb⟩; have HTE := Aside0.mk (HTD.out.below hb); have HCE := Aside0.mk (HCD.out.below hb); have HRE := Aside0.mk (HRD.out.below hb); have HBE := Aside0.mk (HBD.out.trans (hb.mono HBD.out.size)); have a0 := HRE.out.c0; have a4 : z2.cell? ⟨P.r, 4, none⟩ = some (.int .u64 g.nx) := HRE.out.c4; clear hb)
      | (go_at_call 16; (with_reducible refine (LNext_any HCE.out).mono ?_); rintro e z3 ⟨rfl, rfl⟩)
      | fail)
    obtain ⟨st, hst⟩ : ∃ st, st = (grOf D.s g).st := ⟨_, rfl⟩
    have hnn : (grOf D.s g).st.length = D.s.1.toNat := by
     show (g.st.take D.s.1.toNat).length = _
     have := HSH.out.a1
     rw [List.length_take, HDI.out.inv.len]; omega
    obtain ⟨nn, hnd⟩ : ∃ nn, nn = D.s.1.toNat := ⟨_, rfl⟩
    have hn16 : nn ≤ 16 := by have := HSH.out.a1; omega
    have y1 := HRE.out.c1
    rw [hnn, ← hnd] at y1
    have hcs := fun (X : World) (hX : Below z2.heap.size z2 X) (i : Nat) (x : Int) (hx : st[i]? = some x) => (HRE.out.below hX).cst (by rw [← hst]; exact hx)
    have hsl : st.length = nn := by rw [hst, hnn, hnd]
    have HCS := Lib.hid hcs
    have HSL := Lib.hid hsl
    have HST := Lib.hid hst
    have HND := Lib.hid hnd
    clear hnn hnd hcs hsl hst
    go_wp2
    go_loopw [24, 168] (fun v24 v168 wr => ∃ (k : Nat), k ≤ nn ∧ v168 = .int .i64 (k : Int) ∧ kI.R TNi wr z2.heap.size (fun j => z2.heap.size ≤ j) v24 (selK st k) ∧ Below z2.heap.size z2 wr) (fun _ v168 _ => nn - (intOf v168).toNat)
    case atStart => exact ⟨0, Nat.zero_le _, rfl, Kd.R_nil _ _ _ _ _, Below.refl _ _⟩
    case round =>
     obtain ⟨k, hk, rfl, hR, hb⟩ := hrel
     have hsk := selK_len st k
     obtain ⟨A9, c9, hv9⟩ := Kd.R_slice hR
     obtain ⟨L, hL⟩ : ∃ L, L = selK st k := ⟨_, rfl⟩
     rw [← hL] at hR hsk hv9
     subst hv9
     have HLL := Lib.hid hL
     have HR := Aside0.mk hR
     have HB := Aside0.mk hb
     clear hR hb hL
     by_cases hlt : k < nn
     ·obtain ⟨x, hx⟩ : ∃ x, st[k]? = some x := ⟨_, List.getElem?_eq_getElem (by have := HSL.out; omega)⟩
      have hsu := selK_succ hx
      rw [← HLL.out] at hsu
      have d0 := HCS.out wr HB.out k x hx
      have HSU := Lib.hid hsu
      have k0 : (0 : Int) ≤ (k : Int) := by omega
      have k2 : (k : Int) < (nn : Int) := by omega
      clear hx hsu
      by_cases hx0 : x = 0
      ·have e_x : (x == 0) = true := by simpa using hx0
       have HX0 := Lib.hid hx0
       clear hx0
       go_wp2
       exact ⟨⟨k + 1, by omega, by go_num, by rw [HSU.out, if_pos HX0.out]; exact HR.out, HB.out⟩, by simp [intOf]; omega⟩
      ·have e_x : (x == 0) = false := by simpa using hx0
       have HX0 := Lib.hid hx0
       clear hx0
       go_wp2_with (first
        | (at_builtin; refine Kd.R_append kI (w0 := z2) z2.heap.size rfl (.tmp 175) (.tmp 177) 55 TNi (.int .i64 0) 8 rfl Tryz.underlying55 info_int rfl (by decide) (by decide) (.slice A9 L.length c9) L (k : Int) [.int .i64 (k : Int)] (fun j => z2.heap.size ≤ j) (fun _ => False) rfl rfl (kI_mk _ _ _ _) (fun _ h => h.elim) (fun j hj => Nat.le_trans HB.out.size hj) HR.out HB.out HB.out.size (by omega) ?_; intro v1 w5 hr1 hb5 hg hat; have HR5 := Aside0.mk hr1; have HB5 := Aside0.mk hb5; clear hr1 hb5 hg hat)
        | fail)
       exact ⟨⟨k + 1, by omega, by go_num, by rw [HSU.out, if_neg HX0.out]; exact HR5.out, HB5.out⟩, by simp [intOf]; omega⟩
     ·obtain rfl : k = nn := by omega
      have hlo : loadOk D L = true := by
       rw [HLL.out, HST.out, HND.out]
       exact HDI.out.inv.loads
      have hld : Calls Tryz.prog 24 #[.pointer (some ⟨c5, 0, none⟩), .slice A9 L.length c9, .int .u64 nx] wr fun e w' => ∃ q9, e = .returned (.tuple #[.pointer (some ⟨q9, 0, none⟩), .int .i64 0]) ∧ LogIs q9 c5 (loadG L k nx) w' ∧ Below wr.heap.size wr w' := by
       obtain ⟨okC, hDC⟩ := (HTE.out.below HB.out).cdev
       obtain ⟨A8, c8, hv8, hI⟩ := IRow.ofR HR.out
       injection hv8 with e1 e2 e3
       subst e1 e3
       refine (Load_any (c := c9) hDC H4.out hI (by omega) nx).mono fun e w' hh => ?_
       rcases hh with ⟨_, q9, h1, _, h2, h3⟩ | ⟨h, _⟩
       ·rw [← HND.out] at h2
        exact ⟨q9, h1, h2, h3⟩
       ·rw [hlo] at h
        cases h
      have hct := sel_counts st (by omega : k ≤ 16) nx
      rw [← HLL.out] at hct
      have hwz : Below W.heap.size W z2 := HB7.out.trans ((HB11.out.trans (HBE.out.mono HB11.out.size)).mono HB7.out.size)
      have HWZ := Aside0.mk hwz
      have HLD := Lib.hid hld
      obtain ⟨g9, hg9⟩ : ∃ g9, g9 = loadG L k nx := ⟨_, rfl⟩
      have hgn : g9.nx = nx := by rw [hg9]; rfl
      have hld2 := HLD.out
      rw [← hg9] at hct hld2
      have HLD3 := Lib.hid hld2
      have HCT := Lib.hid hct
      have HGN := Lib.hid hgn
      clear hlo hld hct hwz HLD hld2 hg9 hgn
      go_wp2_with (first
       | (go_at_call 18; (with_reducible refine (LDevice_any (HCE.out.below HB.out)).mono ?_); rintro e z3 ⟨rfl, rfl⟩)
       | (go_at_call 24; (with_reducible refine HLD3.out.mono ?_); rintro e z3 ⟨q9, rfl, hl, hb⟩; have HL9b := Aside0.mk hl; have HZ3 := Aside0.mk (HB.out.trans (hb.mono HB.out.size)); clear hl hb)
       | fail)
      have hcn := fun (X : World) (hX : Below z3.heap.size z3 X) (a v : Int) (hv : (cnt a (g9.st.take k) : Int) = v) => (show Calls Tryz.prog 15 #[.pointer (some ⟨q9, 0, none⟩), .int .i64 a] X fun e w' => e = .returned (.int .i64 v) ∧ Below X.heap.size X w' from by
       obtain ⟨okC, hDC⟩ := (HTE.out.below HZ3.out).cdev
       have := LCount_any (HL9b.out.below hX) (hDC.below hX) a
       rw [← HND.out, hv] at this
       exact this)
      have hc2 := fun (X : World) (hX : Below z3.heap.size z3 X) => hcn X hX 2 (L.length : Int) (by rw [HCT.out.1])
      have hc0 := fun (X : World) (hX : Below z3.heap.size z3 X) => hcn X hX 0 ((k : Int) - (L.length : Int)) HCT.out.2
      have hnx2 := fun (X : World) (hX : Below z3.heap.size z3 X) => LNext_any (HL9b.out.below hX)
      simp only [HGN.out] at hnx2
      have HC2 := Lib.hid hc2
      have HC0 := Lib.hid hc0
      have HNX := Lib.hid hnx2
      have hs1 : D.s.1 = (k : Int) := by have := HSH.out.a0; have := HND.out; omega
      have hbx := fun (X : World) (hX : Below z3.heap.size z3 X) => (HBOX.out X (HWZ.out.trans ((HZ3.out.trans (hX.mono HZ3.out.size)).mono HWZ.out.size))).1
      simp only [hs1] at hbx
      have HBX := Lib.hid hbx
      have e_w : IntKind.i64.wrap ((k : Int) - (L.length : Int)) = (k : Int) - (L.length : Int) := IntWalk.i64_in _ (by omega)
      have e_a : (nx == nx) = true := by simp
      have e_c : ((L.length : Int) == (L.length : Int)) = true := by simp
      have e_d : ((k : Int) - (L.length : Int) == (k : Int) - (L.length : Int)) = true := by simp
      have HDD := Aside0.mk ((Below.refl z3.heap.size z3).drew)
      have b0 := HBX.out _ HDD.out
      clear hcn hc2 hc0 hnx2 hs1 hbx
      go_region_held3 (fun w' => w'.cell? ⟨w.heap.size, 0, none⟩ = some (.int .i64 (k : Int))) (first | go_keep | exact b0)
       (first
        | (go_at_call 16; (with_reducible refine (HNX.out _ HDD.out).mono ?_); rintro e z4 ⟨rfl, rfl⟩)
        | (go_at_call 15; (with_reducible refine (HC2.out _ HDD.out).mono ?_); rintro e z5 ⟨rfl, hb⟩; have HZ5 := Aside0.mk (HDD.out.trans (hb.mono HDD.out.size)); clear b0; have b0 := HBX.out _ HZ5.out; clear hb)
        | (go_at_call 15; (with_reducible refine (HC0.out _ HZ5.out).mono ?_); rintro e z4 ⟨rfl, hb⟩; have HZ4a := Aside0.mk (HZ5.out.trans (hb.mono HZ5.out.size)); clear b0; have b0 := HBX.out _ HZ4a.out; clear hb)
        | fail)
      have HZ4 := Aside0.mk (HZ3.out.trans (HZ4a.out.mono HZ3.out.size))
      have hsn := HDI.out.sim.loads_none HSH.out
      obtain ⟨pn, hpn⟩ : ∃ pn, pn = ps.length := ⟨_, rfl⟩
      rw [← hpn] at hsn
      have HSN := Lib.hid hsn
      have HPN := Lib.hid hpn
      clear hsn hpn b0
      by_cases hpp : 0 < pn
      ·skip
       have e_p : decide ((pn : Int) > 0) = true := decide_eq_true (by omega)
       have e_p2 : decide ((0 : Int) < (pn : Int)) = true := decide_eq_true (by omega)
       have e_p3 : decide (0 < pn) = true := decide_eq_true (by omega)
       have e_p4 : 0 < pn := hpp
       have e_p5 : (0 : Int) < (pn : Int) := by omega
       have hld2 : Calls Tryz.prog 24 #[.pointer (some ⟨c5, 0, none⟩), .slice none 0 0, .int .u64 nx] z4 (fun e w' => e = .returned (.tuple #[.pointer none, .int .i64 1]) ∧ Below z4.heap.size z4 w') := by
        obtain ⟨okC, hDC⟩ := (HTE.out.below HZ4.out).cdev
        refine (Load_any (A := none) (c := 0) (l := []) hDC H4.out (fun i x hi => by simp at hi) (by simp) nx).mono fun e w' hh => ?_
        rcases hh with ⟨h, _⟩ | ⟨h, h1, h2⟩
        ·exfalso
         rw [HSN.out] at h
         exact absurd h (by rw [decide_eq_true_iff]; omega)
        ·exact ⟨h1, h2⟩
       have HLD2 := Lib.hid hld2
       clear hld2 hpp
       go_wp2_with (first
        | (go_at_call 18; (with_reducible refine (LDevice_any (HCE.out.below HZ4.out)).mono ?_); rintro e z5 ⟨rfl, rfl⟩)
        | (go_at_call 24; (with_reducible refine HLD2.out.mono ?_); rintro e z6 ⟨rfl, hb⟩; have x0 := (HRE.out.below (HZ4.out.trans (hb.mono HZ4.out.size))).c0; obtain ⟨A6, c6, x3⟩ := (HTE.out.below (HZ4.out.trans (hb.mono HZ4.out.size))).xref; (rw [← HPN.out] at x3); have HZ6 := Aside0.mk (HZ4.out.trans (hb.mono HZ4.out.size)); clear hb)
        | (go_at_call 25; (with_reducible refine (Ints_nil _).mono ?_); rintro e z7 ⟨rfl, rfl⟩)
        | fail)
       go_ret
       exact ⟨rfl, QB.out.trans ((HWZ.out.trans (HZ6.out.mono HWZ.out.size)).mono QB.out.size)⟩
      ·skip
       have e_p : decide ((pn : Int) > 0) = false := decide_eq_false (by omega)
       have e_p2 : decide ((0 : Int) < (pn : Int)) = false := decide_eq_false (by omega)
       have e_p3 : decide (0 < pn) = false := decide_eq_false (by omega)
       have e_p4 : ¬ 0 < pn := hpp
       have e_p5 : ¬ (0 : Int) < (pn : Int) := by omega
       have hld2 : Calls Tryz.prog 24 #[.pointer (some ⟨c5, 0, none⟩), .slice none 0 0, .int .u64 nx] z4 (fun e w' => ∃ q5, e = .returned (.tuple #[.pointer (some ⟨q5, 0, none⟩), .int .i64 0]) ∧ Below z4.heap.size z4 w') := by
        obtain ⟨okC, hDC⟩ := (HTE.out.below HZ4.out).cdev
        refine (Load_any (A := none) (c := 0) (l := []) hDC H4.out (fun i x hi => by simp at hi) (by simp) nx).mono fun e w' hh => ?_
        rcases hh with ⟨h, q5, h1, _, _, h2⟩ | ⟨h, _⟩
        ·exact ⟨q5, h1, h2⟩
        ·exfalso
         rw [HSN.out] at h
         exact absurd h (by rw [decide_eq_false_iff_not]; omega)
       have HLD2 := Lib.hid hld2
       clear hld2 hpp
       go_wp2_with (first
        | (go_at_call 18; (with_reducible refine (LDevice_any (HCE.out.below HZ4.out)).mono ?_); rintro e z5 ⟨rfl, rfl⟩)
        | (go_at_call 24; (with_reducible refine HLD2.out.mono ?_); rintro e z6 ⟨q5, rfl, hb⟩; have x0 := (HRE.out.below (HZ4.out.trans (hb.mono HZ4.out.size))).c0; obtain ⟨A6, c6, x3⟩ := (HTE.out.below (HZ4.out.trans (hb.mono HZ4.out.size))).xref; (rw [← HPN.out] at x3); have HZ6 := Aside0.mk (HZ4.out.trans (hb.mono HZ4.out.size)); clear hb)
        | (go_at_call 25; (with_reducible refine (Ints_nil _).mono ?_); rintro e z7 ⟨rfl, rfl⟩)
        | fail)
       go_ret
       exact ⟨rfl, QB.out.trans ((HWZ.out.trans (HZ6.out.mono HWZ.out.size)).mono QB.out.size)⟩
end Go.Proofs.YtmbiebdcnadhkaaGreat.Fl
namespace Go.Proofs.YtmbiebdcnadhkaaGreat.Fl
open Go.ChangeShapes Go.WideShapes Go.ChangeAt Go.RowKit Go.Joins Go.Deep Go.Proofs.YtmbiebdcnadhkaaGreatW.PrintWords Go.Proofs.YtmbiebdcnadhkaaGreat.Opens
section
variable {H : Type} {enc : TypeId × Value → H} {P : Program} {w : World} {base : Nat} {spare : Nat → Bool} {held : Bool}
theorem row_byts {t e : TypeId} {A : Option Addr} {len c : Nat} {d : DataW H} {p : List MemPlace} (ht : P.underlying t = some (.slice e)) (he : P.underlying e = some (.int .u8)) (hC : P.cellsOf e = 1)
  (h : DataW.Trod enc P w base spare held t (.slice A len c) d p) : ∃ l : List Int, len = l.length ∧ kB.C w A l.length l ∧ l.length ≤ c ∧ l.length ≤ 9223372036854775807 ∧ Byt l := by
 obtain ⟨l, h1, h2, h3, h4, h5⟩ := row_ints ht he hC h
 exact ⟨l, h1, h2, h3, by unfold maxLen at h4; omega, byt_of h5⟩
end
theorem kind_ok {k : Int} (h : (Lit.int .u8 k).wf = true) : KindOk k := by
 have hb : Byt [k] := byt_of (fun x hx => by
  rw [List.mem_singleton] at hx
  rw [hx]; exact h)
 have := hb k (List.mem_singleton.2 rfl)
 exact ⟨by omega, by omega⟩
theorem seglog_own_walk (a b c : Int) (A : Option Addr) (d : Nat) (ds : List SDeed) (k : Int) (B : Option Addr) (e : Nat) (bs : List Int) (nx : Int) (W : World) (_ : (Lit.int .i64 a).wf = true) (_ : (Lit.int .i64 b).wf = true) (_ : (Lit.int .i64 c).wf = true) (hr : LRow W A ds) (h0 : ds.length ≤ 9223372036854775807) (hp : ∀ d ∈ ds, SDeedOk d) (hk : (Lit.int .u8 k).wf = true) (hC : kB.C W B bs.length bs) (hc : bs.length ≤ e) (h1 : bs.length ≤ 9223372036854775807) (hb : Byt bs) (_ : (Lit.int .u64 nx).wf = true) :
  Calls Tryz.prog 3 #[.agg #[.int .i64 a, .int .i64 b, .int .i64 c], .slice A ds.length d, .int .u8 k, .slice B bs.length e, .int .u64 nx] W fun e w' => e = .returned (.bool true) ∧ Below W.heap.size W w' := SeglogOwn_any (a, b, c) hr h0 hp k (kind_ok hk) hC hc h1 hb nx
end Go.Proofs.YtmbiebdcnadhkaaGreat.Fl
