/- The parts of this proof, one after the other (wip/tools/packall.py, shake.py). -/
import Derived.Test.YtmbiebdcnadhkaaGreatPkSeglogOwnB
import Derived.Deep.RegionHeld3
import Derived.StillTailTactics
import Derived.Lib.SliceRun
import Derived.Deep.DeepCutAuto
import Derived.Test.YtmbiebdcnadhkaaGreatProg
import Derived.Lib.SlBytesConst
import Derived.WalkKit
import Derived.DataElems
import Derived.WalkSpells
import Derived.WalkLawsBesides
set_option linter.unusedVariables false
set_option linter.unusedSimpArgs false
namespace Go.Proofs.YtmbiebdcnadhkaaGreat.Fl
open Go.RowKit Go.Proofs.YtmbiebdcnadhkaaGreatW.PrintWords Go.Proofs.YtmbiebdcnadhkaaGreatW.PrintMore Go.Maps
def usedB (D : PD) (a b : Int) : Bool := hasB D.s a b && (look (a, b) D.mp).isSome
def numB (D : PD) : Nat := D.s.2.2.toNat
theorem TD_ne : TB ≠ TD ∧ TA ≠ TD ∧ TB ≠ TA := ⟨by decide, by decide, by decide⟩
theorem DevAt.setDirty {N0 p : Nat} {D : PD} {ok : Nat → Prop} {w : World} {m : Nat} {v : Value} {es : Array MapEntry} {ck : Nat} (h : DevAt N0 p D ok w m v es ck) {v2 : Value} {d2 : List Adr} (hd : kAddr.R TA (w.setCell ⟨p, 4, none⟩ v2) N0 ok v2 d2) (hi : ∀ a ∈ d2, InR a) :
  DevIs N0 p { D with dirty := d2 } ok (w.setCell ⟨p, 4, none⟩ v2) := by
 refine ⟨m, v2, es, ck, h.base, h.okp, by rw [bset h.blk]; rfl, h.okm, h.basem, ?_, ?_, hd, h.shape, hi, h.nodup, h.lens⟩
 ·rw [Below.heap_setCell _ _ _ _ (Ne.symm (map_ne h.blk h.map))]
  exact h.map
 ·exact h.ents.imp (fun _ _ hr => hr.typed (fun k cs hk _ => Below.heap_setCell _ _ _ _ (not_typ h.blk TD_ne.1 hk)))
section
variable {N0 p : Nat} {D : PD} {ok : Nat → Prop} {w : World}
set_option maxHeartbeats 1000000 in
set_option maxRecDepth 100000 in
theorem Used_any (hD : DevIs N0 p D ok w) (a b : Int) : Calls Tryz.prog 63 #[.pointer (some ⟨p, 0, none⟩), .int .i64 a, .int .i64 b] w fun e w' => e = .returned (.bool (usedB D a b)) ∧ w = w' := by
 obtain ⟨m, v, es, ck, hD⟩ := hD
 have HS := Lib.hid hD.shape
 have HP := Lib.hid hD.blk
 cases hb : hasB D.s a b with
 | true =>
  obtain ⟨v1, hr, _⟩ := run_look hD.map hD.ents hD.nodup (hasB_inr hD.shape hb) true
  have hL : (Instr.lookup TM (.map (some m)) (.agg #[.int .i64 a, .int .i64 b]) true).run Tryz.prog w = .ok (.tuple #[v1, .bool (look (a, b) D.mp).isSome]) w := hr
  have HR := Lib.hid (show usedB D a b = (look (a, b) D.mp).isSome by simp [usedB, hb])
  have hc3 : w.cell? ⟨p, 3, none⟩ = some (.map (some m)) := bcell hD.blk 3
  have HE := Lib.hid (show hasE D.s a b = 0 by simp [hasE, hb])
  clear hb hr hD
  go_enter Tryz.func63, Tryz.ntmps63
  go_wp2_with (go_at_call 92; (with_reducible refine (has_blk HS.out HP.out a b).mono ?_); rw [HE.out]; rintro e w' ⟨rfl, rfl⟩)
  go_ret
  exact ⟨by rw [HR.out]; rfl, rfl⟩
 | false =>
  have HR := Lib.hid (show usedB D a b = false by simp [usedB, hb])
  have HE := Lib.hid (show hasE D.s a b = 6 by simp [hasE, hb])
  clear hb hD
  go_enter Tryz.func63, Tryz.ntmps63
  go_wp2_with (go_at_call 92; (with_reducible refine (has_blk HS.out HP.out a b).mono ?_); rw [HE.out]; rintro e w' ⟨rfl, rfl⟩)
  go_ret
  exact ⟨by rw [HR.out]; rfl, rfl⟩
def readD (D : PD) (a b : Int) : List Int := full (numB D) ((look (a, b) D.mp).getD [])
def gotD (D : PD) (a b : Int) : List Int := if hasB D.s a b then readD D a b else []
theorem look_len (h : ∀ q ∈ D.mp, q.2.length = D.s.2.2.toNat) (c : Adr) : ((look c D.mp).getD []).length ≤ D.s.2.2.toNat := by
 cases hl : look c D.mp with
 | none => simp
 | some l => simpa using Nat.le_of_eq (h _ (look_mem hl))
set_option maxHeartbeats 1000000 in
set_option maxRecDepth 100000 in
theorem Read_any (hD : DevIs N0 p D ok w) (a b : Int) : Calls Tryz.prog 60 #[.pointer (some ⟨p, 0, none⟩), .int .i64 a, .int .i64 b] w fun e w' => ∃ v, e = .returned (.tuple #[v, .int .i64 (hasE D.s a b)]) ∧ Row w' w.heap.size (fun k => w.heap.size ≤ k) v (gotD D a b) ∧ Below w.heap.size w w' := by
 obtain ⟨m, v, es, ck, hD⟩ := hD
 have HS := Lib.hid hD.shape
 have HP := Lib.hid hD.blk
 cases hb : hasB D.s a b with
 | true =>
  obtain ⟨v1, hr, hrow⟩ := run_look hD.map hD.ents hD.nodup (hasB_inr hD.shape hb) false
  obtain ⟨A, c, rfl, hlc, hC⟩ := hrow.reads
  have hL : (Instr.lookup TM (.map (some m)) (.agg #[.int .i64 a, .int .i64 b]) false).run Tryz.prog w = .ok (.slice A ((look (a, b) D.mp).getD []).length c) w := hr
  have hc3 : w.cell? ⟨p, 3, none⟩ = some (.map (some m)) := bcell hD.blk 3
  have HE := Lib.hid (show hasE D.s a b = 0 by simp [hasE, hb])
  have HC := Aside0.mk hC
  have HL := Lib.hid (look_len hD.lens (a, b))
  obtain ⟨l, hl⟩ : ∃ l, l = (look (a, b) D.mp).getD [] := ⟨_, rfl⟩
  rw [← hl] at hL HC HL
  have hq : gotD D a b = full D.s.2.2.toNat l := by rw [gotD, if_pos hb, readD, ← hl]; rfl
  have HQ := Lib.hid hq
  clear hb hr hD hC hrow hlc hl hq
  go_enter Tryz.func60, Tryz.ntmps60
  go_wp2_with (first | (go_at_call 92; (with_reducible refine (has_blk HS.out HP.out a b).mono ?_); rw [HE.out]; rintro e w' ⟨rfl, rfl⟩) | (go_at_call 71; (with_reducible refine (filled_blk HS.out HP.out A c l HC.out HL.out).mono ?_); rintro e w1 ⟨v1, rfl, hrow, hbel⟩; have HR := Aside0.mk hrow; have HB := Aside0.mk hbel; clear hrow hbel))
  go_ret2
  exact ⟨v1, by rw [HE.out]; rfl, by rw [HQ.out]; exact HR.out, HB.out⟩
 | false =>
  have HE := Lib.hid (show hasE D.s a b = 6 by simp [hasE, hb])
  have HQ := Lib.hid (show gotD D a b = [] by simp [gotD, hb])
  clear hb hD
  go_enter Tryz.func60, Tryz.ntmps60
  go_wp2_with (go_at_call 92; (with_reducible refine (has_blk HS.out HP.out a b).mono ?_); rw [HE.out]; rintro e w' ⟨rfl, rfl⟩)
  go_ret2
  exact ⟨.slice none 0 0, by rw [HE.out]; rfl, by rw [HQ.out]; exact Row.nil _ _ _, Below.refl _ _⟩
set_option maxHeartbeats 1000000 in
set_option maxRecDepth 100000 in
theorem Dirty_any (hD : DevIs N0 p D ok w) : Calls Tryz.prog 29 #[.pointer (some ⟨p, 0, none⟩)] w fun e w' => e = .returned (.int .i64 (D.dirty.length : Int)) ∧ w = w' := by
 obtain ⟨m, v, es, ck, hD⟩ := hD
 have HP := Lib.hid hD.blk
 obtain ⟨A, c, rfl⟩ := Kd.R_slice hD.dirty
 have hc4 : w.cell? ⟨p, 4, none⟩ = some (.slice A D.dirty.length c) := bcell hD.blk 4
 clear hD
 go_enter Tryz.func29, Tryz.ntmps29
 go_wp2_with (go_at_call 69; (with_reducible refine (ok_blk HP.out).mono ?_); rintro e w' ⟨rfl, rfl⟩)
 go_ret
 exact ⟨rfl, rfl⟩
theorem Shape_any (hD : DevIs N0 p D ok w) : Calls Tryz.prog 58 #[.pointer (some ⟨p, 0, none⟩)] w fun e w' => e = .returned (.agg #[.int .i64 D.s.1, .int .i64 D.s.2.1, .int .i64 D.s.2.2]) ∧ Below w.heap.size w w' := by
 obtain ⟨m, v, es, ck, hD⟩ := hD
 exact Shape_blk hD.blk
set_option maxHeartbeats 1000000 in
set_option maxRecDepth 100000 in
theorem Sync_any (hD : DevIs N0 p D ok w) : Calls Tryz.prog 48 #[.pointer (some ⟨p, 0, none⟩)] w fun e w' => e = .returned (.tuple #[]) ∧ DevIs N0 p { D with dirty := [] } ok w' ∧ Upd (Mut ok w) w w' := by
 obtain ⟨m, v, es, ck, hD⟩ := hD
 have HP := Lib.hid hD.blk
 have HD := Aside0.mk hD
 have hc4 : w.cell? ⟨p, 4, none⟩ = some v := bcell hD.blk 4
 have hf4 : w.frozen? ⟨p, 4, none⟩ = false := bfrozen hD.blk 4
 clear hD
 go_enter Tryz.func48, Tryz.ntmps48
 go_wp2_with (go_at_call 69; (with_reducible refine (ok_blk HP.out).mono ?_); rintro e w' ⟨rfl, rfl⟩)
 go_end0
 have hD := HD.out
 exact ⟨rfl, hD.setDirty (Kd.R_nil _ _ _ _ _) (by simp), Upd.setCell w hD.mutp _⟩
def writeE (D : PD) (a b : Int) (l : List Int) : Int := if hasB D.s a b = false then 6 else if D.s.2.2 < (l.length : Int) then 10 else if usedB D a b then 7 else 0
def writeD (D : PD) (a b : Int) (l : List Int) : PD := if writeE D a b l = 0 then { D with mp := put (a, b) (full (numB D) l) D.mp, dirty := D.dirty ++ [(a, b)] } else D
theorem own_TA {v : Value} {xs : List Adr} (h : kAddr.R TA w N0 ok v xs) {k : Nat} (hk : v.ownBlock = some k) : ok k ∧ N0 ≤ k ∧ k < w.heap.size ∧ ∃ cs, w.heap[k]? = some (.cells cs TA (0, 0)) := by
 obtain ⟨h1, h2, h3, q, hq, cs, hc⟩ := (Kd.R_bound h).1 k hk
 have : q = TA := by simpa [kAddr, Kd.pair, Kd.int, Kd.scalar] using hq
 subst this
 exact ⟨h1, h2, h3, cs, hc⟩
theorem write_end {m : Nat} {v v3 : Value} {es es' : Array MapEntry} {ck ck' : Nat} {w1 w3 : World} {a b : Int} {L : List Int} (hD : DevAt N0 p D ok w m v es ck) (ha : InR (a, b)) (hb1 : Below w.heap.size w w1)
  (hents : Ents N0 (fun k => ok k ∨ w.heap.size ≤ k) (putMap w1 m es' ck') es'.toList (put (a, b) L D.mp)) (hL : L.length = D.s.2.2.toNat) (hR3 : kAddr.R TA w3 N0 (fun k => ok k ∨ w.heap.size ≤ k) v3 (D.dirty ++ [(a, b)]))
  (hg : (putMap w1 m es' ck').grownBy w3 v.ownBlock) :
  DevIs N0 p { D with mp := put (a, b) L D.mp, dirty := D.dirty ++ [(a, b)] } (fun k => ok k ∨ w.heap.size ≤ k) (w3.setCell ⟨p, 4, none⟩ v3) ∧ Upd (Mut ok w) w (w3.setCell ⟨p, 4, none⟩ v3) := by
 have lp := blt hD.blk
 have lm := blt hD.map
 have pm := map_ne hD.blk hD.map
 have ho := fun {k : Nat} => own_TA hD.dirty (k := k)
 have np : some p ≠ v.ownBlock := fun e => by
  obtain ⟨_, _, _, cs, hc⟩ := ho e.symm
  exact typ_ne hD.blk hc (Ne.symm TD_ne.2.1) rfl
 have nm : some m ≠ v.ownBlock := fun e => by
  obtain ⟨_, _, _, cs, hc⟩ := ho e.symm
  exact map_ne hc hD.map rfl
 have hs1 := hb1.size
 have hs2 : (putMap w1 m es' ck').heap.size = w1.heap.size := putMap_size _ _ _ _
 have bp : w3.heap[p]? = some (.cells #[.int .i64 D.s.1, .int .i64 D.s.2.1, .int .i64 D.s.2.2, .map (some m), v] TD (0, 0)) :=
  (hg.block p (by omega) np).trans ((putMap_other w1 pm es' ck').trans ((hb1.block p lp).trans hD.blk))
 have bm : w3.heap[m]? = some (.map es' ck') := (hg.block m (by omega) nm).trans (putMap_same ((hb1.block m lm).trans hD.map) _ _)
 refine ⟨⟨m, v3, es', ck', hD.base, .inl hD.okp, by rw [bset bp]; rfl, .inl hD.okm, hD.basem, ?_, ?_, ?_, hD.shape, ?_, nodup_put hD.nodup, ?_⟩, ?_⟩
 ·rw [Below.heap_setCell _ _ _ _ (Ne.symm pm)]
  exact bm
 ·refine hents.imp (fun _ _ hr => Row.typed (w := w3) (Row.typed hr (fun k cs hk _ => ?_)) (fun k cs hk _ => Below.heap_setCell _ _ _ _ (not_typ bp TD_ne.1 hk)))
  refine hg.block k (blt hk) (fun e => ?_)
  obtain ⟨_, _, lk, cs', hc⟩ := ho e.symm
  have h2 : (putMap w1 m es' ck').heap[k]? = some (.cells cs' TA (0, 0)) := by
   rw [putMap_other w1 (map_ne hc hD.map) es' ck', hb1.block k lk]
   exact hc
  exact typ_ne hk h2 TD_ne.2.2 rfl
 ·exact A_typed hR3 (fun k cs hk _ => Below.heap_setCell _ _ _ _ (not_typ bp TD_ne.2.1 hk))
 ·intro x hx
  rcases List.mem_append.1 hx with hx | hx
  ·exact hD.inr x hx
  ·rw [List.mem_singleton.1 hx]; exact ha
 ·intro q hq
  rcases put_keys hq with rfl | hq
  ·exact hL
  ·exact hD.lens q hq
 ·have u1 : Upd (Mut ok w) w w1 := Upd.ofBelow hb1 _
  have u2 : Upd (Mut ok w) w1 (putMap w1 m es' ck') := putMap_upd w1 hD.mutm es' ck'
  have u3 : Upd (Mut ok w) (putMap w1 m es' ck') w3 := Upd.grown hg (fun k hk => by
   obtain ⟨h1, _, _, cs, hc⟩ := ho hk
   exact mut_of h1 hc (Ne.symm TD_ne.2.2))
  exact ((u1.trans u2 (fun _ h _ => h)).trans u3 (fun _ h _ => h)).trans (Upd.setCell w3 hD.mutp v3) (fun _ h _ => h)
theorem putMap_cell {w1 : World} {m k o : Nat} {x : Option Value} (h : w1.cell? ⟨k, o, none⟩ = x) (hk : k ≠ m) (es : Array MapEntry) (ck : Nat) : (putMap w1 m es ck).cell? ⟨k, o, none⟩ = x := by
 rw [← h]
 exact World.cell?_of_block (w := w1) (a := ⟨k, o, none⟩) (putMap_other w1 hk es ck)
theorem undrew {W w1 : World} (h : Below W.drew.heap.size W.drew w1) : Below W.heap.size W w1 := ((Below.refl W.heap.size W).drew).trans h
theorem write_mid {m : Nat} {v v1 : Value} {es : Array MapEntry} {ck : Nat} {W w1 : World} {a b : Int} {L : List Int} (hD : DevAt N0 p D ok w m v es ck) (hW : Below w.heap.size w W) (ha : InR (a, b)) (hrow : Row w1 W.drew.heap.size (fun k => W.drew.heap.size ≤ k) v1 L) (hb : Below W.drew.heap.size W.drew w1) :
  ∃ es' ck', (Instr.mapUpdate TM (.map (some m)) (kv (a, b)) v1).run Tryz.prog w1 = .ok () (putMap w1 m es' ck') ∧ Ents N0 (fun k => ok k ∨ w.heap.size ≤ k) (putMap w1 m es' ck') es'.toList (put (a, b) L D.mp) := by
 have hs : w.heap.size ≤ W.heap.size := hW.size
 have hb2 : Below w.heap.size w w1 := hW.trans (Below.mono (undrew hb) hs)
 refine run_update ((hb2.block m (blt hD.map)).trans hD.map) (hD.ents.imp (fun _ _ hr => (hr.step (fun k _ hlt => hb2.block k hlt)).mono (fun _ h => .inl h))) hD.nodup ha ((hrow.lower ?_).mono (fun k hk => .inr ?_))
 ·have := hD.base; have := blt hD.blk; show N0 ≤ W.heap.size; omega
 ·exact Nat.le_trans hs hk
theorem info_addr : (Tryz.prog.info? TA).map (fun i => (i.zero, i.size, i.bytes)) = some (some (.agg #[.int .i64 0, .int .i64 0]), 2, 16) := by kernel_rfl
theorem kAddr_mk (w : World) (base : Nat) (ok : Nat → Prop) (a b : Int) : kAddr.M w base ok (a, b) [.int .i64 a, .int .i64 b] := ⟨[.int .i64 a], [.int .i64 b], rfl, rfl, rfl⟩
set_option maxHeartbeats 2000000 in
set_option maxRecDepth 100000 in
theorem Write_ok (hD : DevIs N0 p D ok w) (a b : Int) (A : Option Addr) (c : Nat) (l : List Int) (hl : kB.C w A l.length l) (h0 : writeE D a b l = 0) (hm : D.dirty.length < 1000000) :
  Calls Tryz.prog 113 #[.pointer (some ⟨p, 0, none⟩), .int .i64 a, .int .i64 b, .slice A l.length c] w fun e w' => e = .returned (.int .i64 0) ∧ DevIs N0 p (writeD D a b l) (fun k => ok k ∨ w.heap.size ≤ k) w' ∧ Upd (Mut ok w) w w' := by
 have hb : hasB D.s a b = true := by
  unfold writeE at h0
  split at h0
  ·cases h0
  ·rename_i hx; simpa using hx
 have h1 : (l.length : Int) ≤ D.s.2.2 := by
  unfold writeE at h0
  rw [if_neg (by simp [hb])] at h0
  split at h0
  ·cases h0
  ·omega
 have h2 : usedB D a b = false := by
  unfold writeE at h0
  rw [if_neg (by simp [hb]), if_neg (by omega)] at h0
  split at h0
  ·cases h0
  ·rename_i hx; simpa using hx
 have hDI := hD
 obtain ⟨m, v, es, ck, hD⟩ := hD
 have HS := Lib.hid hD.shape
 have HP := Lib.hid hD.blk
 have HDI := Aside0.mk hDI
 have HD := Aside0.mk hD
 have HE := Lib.hid (show hasE D.s a b = 0 by simp [hasE, hb])
 have HU := Lib.hid h2
 have HIn := Lib.hid (hasB_inr hD.shape hb)
 have HWD := Lib.hid (show writeD D a b l = { D with mp := put (a, b) (full D.s.2.2.toNat l) D.mp, dirty := D.dirty ++ [(a, b)] } by rw [writeD, if_pos h0]; rfl)
 have HL := Aside0.mk hl
 have hc2 : w.cell? ⟨p, 2, none⟩ = some (.int .i64 D.s.2.2) := bcell hD.blk 2
 clear hb h2 hDI hl h0
 go_enter Tryz.func113, Tryz.ntmps113
 go_wp2_with (first | (go_at_call 92; (with_reducible refine (has_blk HS.out HP.out a b).mono ?_); rw [HE.out]; rintro e w' ⟨rfl, rfl⟩) | (go_at_call 63; (with_reducible refine (Used_any HDI.out a b).mono ?_); rw [HU.out]; rintro e w' ⟨rfl, rfl⟩))
 obtain ⟨W, hW⟩ : ∃ W, W = w.alloc (.cells #[.int .i64 a, .int .i64 b] TA) := ⟨_, rfl⟩
 have hlp := blt HP.out
 have q1 : W.heap[p]? = some (.cells #[.int .i64 D.s.1, .int .i64 D.s.2.1, .int .i64 D.s.2.2, .map (some m), v] TD (0, 0)) := by rw [hW]; exact (Below.heap_alloc _ _ _ hlp).trans HP.out
 have q2 : W.heap[w.heap.size]? = some (.cells #[.int .i64 a, .int .i64 b] TA (0, 0)) := by rw [hW]; exact blk_new w _
 have q3 : Below w.heap.size w W := by rw [hW]; exact below_alloc (Below.refl _ _) _
 have q4 : kB.C W A l.length l := Kd.C_below HL.out q3
 have Q1 := Lib.hid q1; have Q2 := Lib.hid q2; have Q3 := Aside0.mk q3; have Q4 := Aside0.mk q4
 have k1 : W.cell? ⟨p, 3, none⟩ = some (.map (some m)) := bcell q1 3
 have k2 : W.cell? ⟨w.heap.size, 0, none⟩ = some (.int .i64 a) := bcell q2 0
 have k3 : W.cell? ⟨w.heap.size, 1, none⟩ = some (.int .i64 b) := bcell q2 1
 have hsz : W.heap.size = w.heap.size + 1 := by rw [hW]; simp
 rw [← hW]
 have HSZ := Lib.hid hsz
 have hn : l.length ≤ D.s.2.2.toNat := by omega
 have hIn : InR (a, b) := HIn.out
 clear hW q1 q2 q3 q4 hsz hc2
 go_region_held3 (fun w' => w'.cell? ⟨p, 3, none⟩ = some (.map (some m)) ∧ w'.cell? ⟨w.heap.size, 0, none⟩ = some (.int .i64 a) ∧ w'.cell? ⟨w.heap.size, 1, none⟩ = some (.int .i64 b)) (first | go_keep | exact ⟨k4, k5, k6⟩ | exact ⟨k7, k8, k9⟩)
  ((go_at_call 71; refine (filled_blk (w := W.drew) HS.out Q1.out A c l Q4.out hn).mono ?_; rintro e w1 ⟨v1, rfl, hrow, hbel⟩; obtain ⟨es', ck', hrun, hen⟩ := write_mid HD.out Q3.out hIn hrow hbel; have hU : (Instr.mapUpdate TM (.map (some m)) (.agg #[.int .i64 a, .int .i64 b]) v1).run Tryz.prog w1 = .ok () (putMap w1 m es' ck') := hrun; have HEN := Aside0.mk hen; have hB0 : Below w.heap.size w w1 := Q3.out.trans (Below.mono (undrew hbel) Q3.out.size); have HB0 := Aside0.mk hB0; clear hrun hen hB0; have k4 : w1.cell? ⟨p, 3, none⟩ = some (.map (some m)) := (hbel.cell (p := ⟨p, 3, none⟩) (blt Q1.out)).trans k1; have k5 : w1.cell? ⟨w.heap.size, 0, none⟩ = some (.int .i64 a) := (hbel.cell (p := ⟨w.heap.size, 0, none⟩) (blt Q2.out)).trans k2; have k6 : w1.cell? ⟨w.heap.size, 1, none⟩ = some (.int .i64 b) := (hbel.cell (p := ⟨w.heap.size, 1, none⟩) (blt Q2.out)).trans k3; have k7 := putMap_cell k4 (map_ne HP.out HD.out.map) es' ck'; have k8 := putMap_cell k5 (Nat.ne_of_gt (blt HD.out.map)) es' ck'; have k9 := putMap_cell k6 (Nat.ne_of_gt (blt HD.out.map)) es' ck'; have HV4 := Lib.hid hrow; clear hrow hbel))
 clear k1 k2 k3 k4 k5 k6 hU
 obtain ⟨W2, hW2⟩ : ∃ W2, W2 = putMap w1 m es' ck' := ⟨_, rfl⟩
 have r1 : W2.cell? ⟨p, 4, none⟩ = some v := by
  rw [hW2]
  refine putMap_cell ?_ (map_ne HP.out HD.out.map) es' ck'
  rw [bcell ((HB0.out.block p hlp).trans HP.out)]
  rfl
 rw [← hW2] at k7 k8 k9
 have hlt2 : W2.heap.size = w1.heap.size := by rw [hW2]; exact putMap_size _ _ _ _
 have hR2 : kAddr.R TA W2 N0 (fun k => ok k ∨ w.heap.size ≤ k) v D.dirty := by
  rw [hW2]
  exact Kd.R_mono (R_putMap ⟨_, _, (HB0.out.block m (blt HD.out.map)).trans HD.out.map⟩ (Kd.R_below HD.out.dirty HB0.out) es' ck') (fun _ h => .inl h)
 have HR2 := Aside0.mk hR2
 have HW2 := Lib.hid hW2
 have hp2 : p < W2.heap.size := by have := HB0.out.size; omega
 have np : ∀ k, v.ownBlock = some k → k < w.heap.size := fun k hk => (own_TA HD.out.dirty hk).2.2.1
 have NP := Lib.hid np
 have HB2 : Aside0 (Upd ok w W2) := Aside0.mk (by rw [hW2]; exact (Upd.ofBelow HB0.out ok).trans (putMap_upd w1 HD.out.okm es' ck') (fun _ h _ => h))
 have hne : v.ownBlock ≠ some p := fun e => by
  obtain ⟨_, _, _, cs, hc⟩ := own_TA HD.out.dirty e
  exact typ_ne HP.out hc (Ne.symm TD_ne.2.1) rfl
 have HNE := Lib.hid hne
 clear hlt2 hR2 np hne
 rw [← hW2]
 clear hW2
 go_wp2
 have hf1 : ∀ w3 : World, W2.drew.grownBy w3 v.ownBlock → w3.cell? ⟨p, 4, none⟩ = some v ∧ w3.cell? ⟨w.heap.size, 0, none⟩ = some (.int .i64 a) ∧ w3.cell? ⟨w.heap.size, 1, none⟩ = some (.int .i64 b) := fun w3 hg => by
  refine ⟨hg.cell (a := ⟨p, 4, none⟩) r1 (fun e => HNE.out e.symm), hg.cell (a := ⟨w.heap.size, 0, none⟩) k8 (fun e => ?_), hg.cell (a := ⟨w.heap.size, 1, none⟩) k9 (fun e => ?_)⟩
  ·exact Nat.lt_irrefl _ (NP.out _ e.symm)
  ·exact Nat.lt_irrefl _ (NP.out _ e.symm)
 have HF1 := Lib.hid hf1
 have hp2b : W2.heap[p]? = some (.cells #[.int .i64 D.s.1, .int .i64 D.s.2.1, .int .i64 D.s.2.2, .map (some m), v] TD (0, 0)) := by
  rw [HW2.out]
  exact (putMap_other w1 (map_ne HP.out HD.out.map) es' ck').trans ((HB0.out.block p hlp).trans HP.out)
 have hf2 : ∀ w3 : World, W2.drew.grownBy w3 v.ownBlock → w3.frozen? ⟨p, 4, none⟩ = false := fun w3 hg => by
  rw [World.frozen?_of_block (w := W2) (a := ⟨p, 4, none⟩) (hg.block p hp2 (fun e => HNE.out e.symm))]
  exact bfrozen hp2b 4
 have HF2 := Lib.hid hf2
 clear hf2 hp2b
 clear hf1
 go_region_law
  ((refine Kd.R_append_step kAddr (w0 := W2.drew) (W := W2.drew) N0 (by rfl) (.tmp 48) (.tmp 50) 114 TA (.agg #[.int .i64 0, .int .i64 0]) 16 (by rfl) Tryz.underlying114 info_addr rfl (by decide) (by decide) v D.dirty (a, b) [.int .i64 a, .int .i64 b] (fun k => ok k ∨ w.heap.size ≤ k) (fun _ => False) (by rfl) (by rfl) (kAddr_mk _ _ _ _ _) (fun _ hk => hk.elim) (fun k hk => .inr (Nat.le_trans HB2.out.size hk)) (Kd.R_step HR2.out (fun _ _ _ => rfl)) (Below.refl _ _) (Nat.le_trans (Nat.le_of_lt (Nat.lt_of_le_of_lt HD.out.base hlp)) HB2.out.size) (by omega) ?_; intro v3 w3 hr3 hb3 hg3 hat3; obtain ⟨A3, c3, rfl⟩ := Kd.R_slice hr3; have hf4 : w3.frozen? ⟨p, 4, none⟩ = false := HF2.out _ hg3; have hc4 : w3.cell? ⟨p, 4, none⟩ = some v := (HF1.out _ hg3).1; have HR3 := Aside0.mk hr3; have HG3 := Aside0.mk hg3; clear hr3 hb3 hat3))
 all_goals
  go_wp2
  go_ret
  have hG : (putMap w1 m es' ck').grownBy w3 v.ownBlock := by
   rw [← HW2.out]
   exact ⟨HG3.out.os, HG3.out.tape, HG3.out.output, HG3.out.size, HG3.out.block⟩
  rw [HWD.out]
  have hR := HR3.out
  rw [List.length_append, List.length_singleton] at hR
  exact ⟨rfl, write_end HD.out HIn.out HB0.out HEN.out (full_length hn) hR hG⟩
theorem writeE_cases (D : PD) (a b : Int) (l : List Int) : (hasB D.s a b = false ∧ writeE D a b l = 6) ∨ (hasB D.s a b = true ∧ D.s.2.2 < (l.length : Int) ∧ writeE D a b l = 10) ∨ (hasB D.s a b = true ∧ (l.length : Int) ≤ D.s.2.2 ∧ usedB D a b = true ∧ writeE D a b l = 7) ∨ writeE D a b l = 0 := by
 cases h1 : hasB D.s a b with
 | false => exact .inl ⟨rfl, by simp [writeE, h1]⟩
 | true =>
  by_cases h2 : D.s.2.2 < (l.length : Int)
  ·exact .inr (.inl ⟨rfl, h2, by simp [writeE, h1, h2]⟩)
  ·cases h3 : usedB D a b with
   | true => exact .inr (.inr (.inl ⟨rfl, by omega, rfl, by simp [writeE, h1, h2, h3]⟩))
   | false => exact .inr (.inr (.inr (by simp [writeE, h1, h2, h3])))
set_option maxHeartbeats 2000000 in
set_option maxRecDepth 100000 in
theorem Write_no (hD : DevIs N0 p D ok w) (a b : Int) (A : Option Addr) (c : Nat) (l : List Int) (h0 : writeE D a b l ≠ 0) :
  Calls Tryz.prog 113 #[.pointer (some ⟨p, 0, none⟩), .int .i64 a, .int .i64 b, .slice A l.length c] w fun e w' => e = .returned (.int .i64 (writeE D a b l)) ∧ w = w' := by
 have hDI := hD
 obtain ⟨m, v, es, ck, hD⟩ := hD
 have HS := Lib.hid hD.shape
 have HP := Lib.hid hD.blk
 have HDI := Aside0.mk hDI
 have hc2 : w.cell? ⟨p, 2, none⟩ = some (.int .i64 D.s.2.2) := bcell hD.blk 2
 clear hDI hD
 rcases writeE_cases D a b l with ⟨h1, h2⟩ | ⟨h1, h2, h3⟩ | ⟨h1, h2, h3, h4⟩ | h1
 ·have HE := Lib.hid (show hasE D.s a b = 6 by simp [hasE, h1])
  have HW := Lib.hid h2
  clear h1 h2 h0
  go_enter Tryz.func113, Tryz.ntmps113
  go_wp2_with (go_at_call 92; (with_reducible refine (has_blk HS.out HP.out a b).mono ?_); rw [HE.out]; rintro e w' ⟨rfl, rfl⟩)
  go_ret
  exact ⟨by rw [HW.out]; rfl, rfl⟩
 ·have HE := Lib.hid (show hasE D.s a b = 0 by simp [hasE, h1])
  have HW := Lib.hid h3
  clear h1 h3 h0
  go_enter Tryz.func113, Tryz.ntmps113
  go_wp2_with (go_at_call 92; (with_reducible refine (has_blk HS.out HP.out a b).mono ?_); rw [HE.out]; rintro e w' ⟨rfl, rfl⟩)
  go_ret
  exact ⟨by rw [HW.out]; rfl, rfl⟩
 ·have HE := Lib.hid (show hasE D.s a b = 0 by simp [hasE, h1])
  have HU := Lib.hid h3
  have HW := Lib.hid h4
  clear h1 h3 h4 h0
  go_enter Tryz.func113, Tryz.ntmps113
  go_wp2_with (first | (go_at_call 92; (with_reducible refine (has_blk HS.out HP.out a b).mono ?_); rw [HE.out]; rintro e w' ⟨rfl, rfl⟩) | (go_at_call 63; (with_reducible refine (Used_any HDI.out a b).mono ?_); rw [HU.out]; rintro e w' ⟨rfl, rfl⟩))
  go_ret
  exact ⟨by rw [HW.out]; rfl, rfl⟩
 ·exact absurd h1 h0
theorem Write_any (hD : DevIs N0 p D ok w) (a b : Int) (A : Option Addr) (c : Nat) (l : List Int) (hl : kB.C w A l.length l) (hm : D.dirty.length < 1000000) :
  Calls Tryz.prog 113 #[.pointer (some ⟨p, 0, none⟩), .int .i64 a, .int .i64 b, .slice A l.length c] w fun e w' => e = .returned (.int .i64 (writeE D a b l)) ∧ DevIs N0 p (writeD D a b l) (fun k => ok k ∨ w.heap.size ≤ k) w' ∧ Upd (Mut ok w) w w' := by
 by_cases h0 : writeE D a b l = 0
 ·refine (Write_ok hD a b A c l hl h0 hm).mono fun e w' ⟨h1, h2⟩ => ⟨by rw [h0]; exact h1, h2⟩
 ·refine (Write_no hD a b A c l h0).mono fun e w' ⟨h1, h2⟩ => ?_
  subst h2
  exact ⟨h1, by rw [writeD, if_neg h0]; exact hD.mono (fun _ h => .inl h), Upd.refl _ _⟩
set_option maxHeartbeats 1000000 in
set_option maxRecDepth 100000 in
theorem Right_any (s : Int × Int × Int) (w : World) : Calls Tryz.prog 82 #[.agg #[.int .i64 s.1, .int .i64 s.2.1, .int .i64 s.2.2]] w fun e w' => e = .returned (.bool (fitsB s.1 1 16 && fitsB s.2.1 1 64 && fitsB s.2.2 16 256)) ∧ Below w.heap.size w w' := by
 obtain ⟨s1, s2, s3⟩ := s
 obtain ⟨r, hr⟩ : ∃ r, r = (fitsB s1 1 16 && fitsB s2 1 64 && fitsB s3 16 256) := ⟨_, rfl⟩
 simp only
 cases h1 : fitsB s1 1 16 with
 | false =>
  go_enter Tryz.func82, Tryz.ntmps82
  go_wp2_with (go_at_call 91; (with_reducible refine (Fits_any _ _ _ _).mono ?_); (try rw [h1]); rintro e w' ⟨rfl, rfl⟩)
  go_ret
  exact ⟨rfl, below_alloc (Below.refl _ _) _⟩
 | true =>
  cases h2 : fitsB s2 1 64 with
  | false =>
   go_enter Tryz.func82, Tryz.ntmps82
   go_wp2_with (go_at_call 91; (with_reducible refine (Fits_any _ _ _ _).mono ?_); (try rw [h1]); (try rw [h2]); rintro e w' ⟨rfl, rfl⟩)
   go_ret
   exact ⟨rfl, below_alloc (Below.refl _ _) _⟩
  | true =>
   go_enter Tryz.func82, Tryz.ntmps82
   go_wp2_with (go_at_call 91; (with_reducible refine (Fits_any _ _ _ _).mono ?_); (try rw [h1]); (try rw [h2]); rintro e w' ⟨rfl, rfl⟩)
   go_ret
   exact ⟨rfl, below_alloc (Below.refl _ _) _⟩
end
end Go.Proofs.YtmbiebdcnadhkaaGreat.Fl
namespace Go.Proofs.YtmbiebdcnadhkaaGreat.Fl
open Go.RowKit Go.Proofs.YtmbiebdcnadhkaaGreatW.PrintWords Go.Proofs.YtmbiebdcnadhkaaGreatW.PrintMore Go.Maps
def flat : List Adr → List Value
 | [] => []
 | a :: l => .int .i64 a.1 :: .int .i64 a.2 :: flat l
theorem flat_length : ∀ l, (flat l).length = l.length * 2
 | [] => rfl
 | a :: l => by simp only [flat, List.length_cons, flat_length l]; omega
theorem flat_one : ∀ l, ∀ u ∈ flat l, u.oneCell' = true
 | [], u, h => by cases h
 | a :: l, u, h => by
  simp only [flat, List.mem_cons] at h
  rcases h with rfl | rfl | h
  ·rfl
  ·rfl
  ·exact flat_one l u h
theorem flat_at : ∀ (l : List Adr) (i : Nat) (a : Adr), l[i]? = some a → (flat l)[i * 2]? = some (.int .i64 a.1) ∧ (flat l)[i * 2 + 1]? = some (.int .i64 a.2)
 | [], i, a, h => by simp at h
 | b :: l, 0, a, h => by
  simp at h
  subst h
  exact ⟨rfl, rfl⟩
 | b :: l, i + 1, a, h => by
  rw [List.getElem?_cons_succ] at h
  have := flat_at l i a h
  rw [show (i + 1) * 2 = i * 2 + 1 + 1 by omega, show i * 2 + 1 + 1 + 1 = (i * 2 + 1) + 1 + 1 by omega]
  simp only [flat, List.getElem?_cons_succ]
  exact this
theorem flat_set : ∀ (l : List Adr) (i : Nat) (a : Adr), ((flat l).set (i * 2) (.int .i64 a.1)).set (i * 2 + 1) (.int .i64 a.2) = flat (l.set i a)
 | [], i, a => rfl
 | b :: l, 0, a => rfl
 | b :: l, i + 1, a => by
  rw [show (i + 1) * 2 = i * 2 + 1 + 1 by omega, show i * 2 + 1 + 1 + 1 = (i * 2 + 1) + 1 + 1 by omega]
  simp only [flat, List.set_cons_succ, flat_set l i a]
theorem flat_take : ∀ (l : List Adr) (n : Nat), flat (l.take n) = (flat l).take (n * 2)
 | [], n => by simp [flat]
 | a :: l, 0 => rfl
 | a :: l, n + 1 => by
  rw [show (n + 1) * 2 = n * 2 + 1 + 1 by omega]
  simp only [List.take_succ_cons, flat, flat_take l n]
section
variable {N0 : Nat} {ok : Nat → Prop} {w : World} {v : Value} {xs : List Adr}
theorem reps_flat : ∀ {xs : List Adr} {inner : List Value} {w : World} {base : Nat} {ok : Nat → Prop}, Reps (kAddr.M w base ok) 2 xs inner → inner = flat xs := by
 intro xs inner w base ok h
 have hl : inner.length = xs.length * 2 := h.1
 apply List.ext_getElem?
 intro j
 rcases Nat.lt_or_ge j inner.length with hj | hj
 ·have hi : j / 2 < xs.length := by omega
  obtain ⟨c0, c1, hc, h0, h1⟩ := h.2 (j / 2) _ (List.getElem?_eq_getElem hi)
  have h0' : c0 = [.int .i64 xs[j / 2].1] := h0
  have h1' : c1 = [.int .i64 xs[j / 2].2] := h1
  subst h0' h1'
  have hf := flat_at xs (j / 2) _ (List.getElem?_eq_getElem hi)
  have e : ∀ i, i < 2 → inner[j / 2 * 2 + i]? = ([Value.int .i64 xs[j / 2].1] ++ [Value.int .i64 xs[j / 2].2])[i]? := fun i hi2 => by
   rw [← hc, List.getElem?_take, if_pos hi2, List.getElem?_drop]
  rcases Nat.mod_two_eq_zero_or_one j with hm | hm
  ·have hj2 : j = j / 2 * 2 := by omega
   have := e 0 (by omega)
   rw [Nat.add_zero, ← hj2] at this
   rw [this]
   have h3 := hf.1
   rw [← hj2] at h3
   rw [h3]
   rfl
  ·have hj2 : j = j / 2 * 2 + 1 := by omega
   have := e 1 (by omega)
   rw [← hj2] at this
   rw [this]
   have h3 := hf.2
   rw [← hj2] at h3
   rw [h3]
   rfl
 ·rw [List.getElem?_eq_none hj, List.getElem?_eq_none (by rw [flat_length]; omega)]
theorem flat_reps (w : World) (base : Nat) (ok : Nat → Prop) (xs : List Adr) : Reps (kAddr.M w base ok) 2 xs (flat xs) := by
 refine ⟨flat_length xs, fun j p hj => ?_⟩
 have := flat_at xs j p hj
 have e : ((flat xs).drop (j * 2)).take 2 = [.int .i64 p.1, .int .i64 p.2] := by
  apply List.ext_getElem?
  intro i
  rw [List.getElem?_take]
  split
  ·rename_i h2
   rw [List.getElem?_drop]
   have : i = 0 ∨ i = 1 := by omega
   rcases this with rfl | rfl
   ·simpa using this.1
   ·simpa using this.2
  ·rw [List.getElem?_eq_none (by simp; omega)]
 rw [e]
 exact kAddr_mk w base ok p.1 p.2
theorem R_flat (h : kAddr.R TA w N0 ok v xs) : (∀ k, v.ownBlock = some k → ok k) ∧ w.ownsRow N0 TA 2 v xs.length (flat xs) := by
 obtain ⟨h0, inner, ho, hr⟩ := h
 obtain rfl := reps_flat hr
 exact ⟨h0, ho⟩
theorem flat_R (h0 : ∀ k, v.ownBlock = some k → ok k) (ho : w.ownsRow N0 TA 2 v xs.length (flat xs)) : kAddr.R TA w N0 ok v xs := ⟨h0, flat xs, ho, flat_reps _ _ _ _⟩
structure ARow (w : World) (g cap : Nat) (xs : List Adr) : Prop where mk' ::
 ex : ∃ cur : Array Value, w.heap[g]? = some (.cells cur TA (0, 0)) ∧ cur.size = cap * 2 ∧ cur.toList.take (xs.length * 2) = flat xs
 le : xs.length ≤ cap
 mx : cap ≤ 9223372036854775807
theorem ARow.of_R (h : kAddr.R TA w N0 ok v xs) (hv : v ≠ .slice none 0 0) : ∃ g cap, v = .slice (some ⟨g, 0, none⟩) xs.length cap ∧ N0 ≤ g ∧ ok g ∧ ARow w g cap xs := by
 obtain ⟨h0, ho⟩ := R_flat h
 rcases ho.2 with ⟨e, _⟩ | ⟨g, cap, cur, rfl, hg, hh, hle, hm, hs, ht⟩
 ·exact absurd e hv
 ·exact ⟨g, cap, rfl, hg, h0 g (by simp [Value.ownBlock]), ⟨cur, hh, hs, ht⟩, hle, hm⟩
theorem ARow.to_R {g cap : Nat} (h : ARow w g cap xs) (hg : N0 ≤ g) (ho : ok g) : kAddr.R TA w N0 ok (.slice (some ⟨g, 0, none⟩) xs.length cap) xs := by
 obtain ⟨cur, hh, hs, ht⟩ := h.ex
 refine flat_R (fun k hk => ?_) ⟨flat_length xs, .inr ⟨g, cap, cur, rfl, hg, hh, h.le, h.mx, hs, ht⟩⟩
 have : g = k := by simpa [Value.ownBlock] using hk
 exact this ▸ ho
theorem ARow.step {g cap : Nat} {w' : World} (h : ARow w g cap xs) (hg : w'.heap[g]? = w.heap[g]?) : ARow w' g cap xs := by
 obtain ⟨cur, hh, hs, ht⟩ := h.ex
 exact ⟨⟨cur, hg.trans hh, hs, ht⟩, h.le, h.mx⟩
theorem ARow.lt {g cap : Nat} (h : ARow w g cap xs) : g < w.heap.size := by
 obtain ⟨cur, hh, _⟩ := h.ex
 exact blt hh
theorem ARow.cell {g cap : Nat} (h : ARow w g cap xs) {i : Nat} {a : Adr} (hi : xs[i]? = some a) : w.cell? ⟨g, i * 2, none⟩ = some (.int .i64 a.1) ∧ w.cell? ⟨g, i * 2 + 1, none⟩ = some (.int .i64 a.2) ∧ w.frozen? ⟨g, i * 2, none⟩ = false ∧ w.frozen? ⟨g, i * 2 + 1, none⟩ = false := by
 obtain ⟨cur, hh, hs, ht⟩ := h.ex
 have hl := (List.getElem?_eq_some_iff.1 hi).1
 have hf := flat_at xs i a hi
 rw [← ht, List.getElem?_take, List.getElem?_take, if_pos (by omega), if_pos (by omega)] at hf
 refine ⟨?_, ?_, bfrozen hh _, bfrozen hh _⟩
 ·rw [bcell hh]; simpa using hf.1
 ·rw [bcell hh]; simpa using hf.2
theorem ARow.set {g cap : Nat} (h : ARow w g cap xs) (i : Nat) (a : Adr) (hi : i < xs.length) : ARow ((w.setCell ⟨g, i * 2, none⟩ (.int .i64 a.1)).setCell ⟨g, i * 2 + 1, none⟩ (.int .i64 a.2)) g cap (xs.set i a) := by
 obtain ⟨cur, hh, hs, ht⟩ := h.ex
 refine ⟨⟨_, bset (bset hh _ _) _ _, by simp [hs], ?_⟩, by simpa using h.le, h.mx⟩
 rw [List.length_set, ← flat_set, ← ht]
 simp only [Array.toList_setIfInBounds]
 rw [List.take_set, List.take_set]
theorem ARow.take {g cap : Nat} (h : ARow w g cap xs) (n : Nat) (hn : n ≤ xs.length) : ARow w g cap (xs.take n) := by
 obtain ⟨cur, hh, hs, ht⟩ := h.ex
 refine ⟨⟨cur, hh, hs, ?_⟩, by have := h.le; simp; omega, h.mx⟩
 rw [flat_take, ← ht, List.take_take, List.length_take]
 congr 1
 omega
set_option maxHeartbeats 1000000 in
set_option maxRecDepth 100000 in
theorem Clone_any (h : kAddr.R TA w N0 ok v xs) (hl : xs.length < 1000000) : Calls Tryz.prog 81 #[v] w fun e w' => ∃ v', e = .returned v' ∧ kAddr.R TA w' w.heap.size (fun k => w.heap.size ≤ k) v' xs ∧ (v' = .slice none 0 0 → xs = []) ∧ Below w.heap.size w w' := by
 have en := fun (w : World) (a : Option Addr) (n c : Nat) => Lib.run_eql_slice_nil (P := Tryz.prog) w 114 TA a n c 0 0 Tryz.underlying114
 by_cases hv : v = .slice none 0 0
 ·subst hv
  have hx : xs = [] := by
   obtain ⟨A, c, he⟩ := Kd.R_slice h
   injection he with _ h2 _
   exact List.eq_nil_of_length_eq_zero h2.symm
  clear h
  go_enter Tryz.func81, Tryz.ntmps81
  go_wp2
  go_ret
  exact ⟨_, rfl, by rw [hx]; exact Kd.R_nil _ _ _ _ _, fun _ => hx, Below.refl _ _⟩
 ·obtain ⟨g, cap, rfl, hg, ho, hr⟩ := ARow.of_R h hv
  obtain ⟨n, hn⟩ : ∃ n, n = xs.length := ⟨_, rfl⟩
  have HR := Aside0.mk hr
  have HN := Lib.hid hn
  have HB := Aside0.mk (below_alloc (Below.refl w.heap.size w) (.cells #[] TA (0, 0)))
  have HC : Hid (∀ W : World, Below w.heap.size w W → ∀ j u, (flat xs)[j]? = some u → W.cell? ((⟨g, 0, none⟩ : Addr).add j) = some u) := Lib.hid (fun W hW j u hj => by
   rw [Addr.add_lit, Nat.zero_add]
   obtain ⟨cur, hh, hs, ht⟩ := hr.ex
   have hl2 := (List.getElem?_eq_some_iff.1 hj).1
   rw [flat_length] at hl2
   rw [← ht, List.getElem?_take, if_pos hl2] at hj
   rw [bcell ((hW.block g (blt hh)).trans hh)]
   simpa using hj)
  obtain ⟨i0, hi, hz0, hz1, hz2⟩ := info_parts info_addr
  rw [← hn]
  clear h hr hn
  go_enter Tryz.func81, Tryz.ntmps81
  have HO : Hid ((w.alloc (.cells #[] TA)).ownsRow w.heap.size TA 2 (.slice (some ⟨w.heap.size, 0, none⟩) 0 0) 0 []) := Lib.hid ⟨rfl, .inr ⟨w.heap.size, 0, #[], rfl, Nat.le_refl _, blk_new w _, Nat.le_refl _, Nat.zero_le _, rfl, rfl⟩⟩
  have HFL : Hid ((flat xs).length = n * 2) := Lib.hid (by rw [flat_length, HN.out])
  have HM : Hid (n < 1000000) := Lib.hid (by rw [HN.out]; exact hl)
  clear hl
  go_wp2_with (at_builtin; refine wpList_append_own _ rfl (.tmp 5) (.tmp 6) 114 rfl w.heap.size TA i0 _ 2 16 Tryz.underlying114 hi hz0 hz1 hz2 rfl (by decide) _ 0 [] rfl HO.out ⟨g, 0, none⟩ n cap (flat xs) rfl HFL.out (HC.out _ HB.out) (flat_one xs) (by have := HM.out; simp only [maxLen]; omega) (by have := HM.out; omega) (by simp) ?_; intro v' w' ho' hg' hn'; have HO' := Aside0.mk ho'; have HG' := Aside0.mk hg'; have HN' := Lib.hid hn'; clear ho' hg' hn')
  go_ret
  refine ⟨v', rfl, ?_, fun e => absurd (HN'.out.1 e).1 (fun h => by injection h with h; cases h), ?_⟩
  ·have h1 := HO'.out
   rw [Nat.zero_add, List.nil_append, HN.out] at h1
   exact flat_R (fun k hk => own_base h1 k hk) h1
  ·have h2 : Below w.heap.size w w' := HB.out.grown HG'.out (by simp) (fun k hk => Nat.le_of_eq (Option.some.inj hk))
   exact h2
end
structure CloFn (f : FuncId) : Prop where
 ex : ∃ fn, Tryz.prog.funcs[f]? = some fn ∧ (fn.name == "runtime.NumGoroutine") = false ∧ fn.body.isSome = true
theorem closL {ops : Array Oper} {Q : Exit → Act → World → Prop} {rest : List Oper} {oi : Oper} {a : Act} {w : World} (N : Option Tmp) (hd : oi.dst = N) (hg : oi.guard = none) (t : Tmp) {f : FuncId} {caps : Array Value} {as_ : Array Operand} {ts : Array TypeId} (hf : CloFn f) (args : Array Value)
  (hop : oi.op = .call { callee := .value (.tmp t), args := as_, argTypes := ts }) (ht : a.eval (.tmp t) = .func (.func f) #[] caps) (hargs : as_.map a.eval = args)
  (h : Calls Tryz.prog f (args ++ caps) w fun e w' => ∃ v, e = .returned v ∧ wpList Tryz.prog ops Q rest (a.put N v) w') : wpList Tryz.prog ops Q (oi :: rest) a w := by
 obtain ⟨fn, hf, hname, hb⟩ := hf
 refine wpList_plain hg fun K hK => ?_
 have he := Go.Proofs.YtmbiebdcnadhkaaGreatW.PrintLast.enters_ hf hname hb (args ++ caps) w
 have hrun : (execOp a.eval oi).run Tryz.prog w = .ok (.enter f (args ++ caps)) w := by
  unfold execOp
  simp [hop, resolve, Deferred.ofValue, invoke, ht, hargs, he]
 unfold Oper.wp
 rw [hrun, Oper.upon_enter]
 refine h.mono fun e w'' hh => ?_
 obtain ⟨v, rfl, hk⟩ := hh
 rw [hd]
 exact hK _ _ hk
def idxOf {α : Type} (q : α → Bool) : List α → Option Nat
 | [] => none
 | a :: l => if q a then some 0 else (idxOf q l).map (· + 1)
def idxI {α : Type} (q : α → Bool) (l : List α) : Int := match idxOf q l with | some i => (i : Int) | none => -1
theorem idxOf_none {α : Type} {q : α → Bool} : ∀ {l : List α}, (∀ a ∈ l, q a = false) → idxOf q l = none
 | [], _ => rfl
 | a :: l, h => by
  unfold idxOf
  rw [if_neg (by rw [h a (by simp)]; decide), idxOf_none (fun x hx => h x (by simp [hx]))]
  rfl
theorem idxOf_some {α : Type} {q : α → Bool} : ∀ {l : List α} {i : Nat} {a : α}, l[i]? = some a → q a = true → (∀ j b, j < i → l[j]? = some b → q b = false) → idxOf q l = some i
 | [], i, a, h, _, _ => by simp at h
 | b :: l, 0, a, h, hq, _ => by
  simp at h
  subst h
  unfold idxOf
  rw [if_pos hq]
 | b :: l, i + 1, a, h, hq, hn => by
  rw [List.getElem?_cons_succ] at h
  unfold idxOf
  rw [if_neg (by rw [hn 0 b (by omega) rfl]; decide), idxOf_some h hq (fun j c hj hc => hn (j + 1) c (by omega) (by rw [List.getElem?_cons_succ]; exact hc))]
  rfl
section
variable {N0 : Nat} {ok : Nat → Prop} {w : World} {v : Value} {xs : List Adr}
set_option maxHeartbeats 1000000 in
set_option maxRecDepth 100000 in
theorem IndexFunc_any (h : kAddr.R TA w N0 ok v xs) (hl : xs.length < 1000000) {f : FuncId} {caps : Array Value} (hf : CloFn f) (I : World → Prop) (hI : ∀ W W', I W → Below W.heap.size W W' → I W') (q : Adr → Bool)
  (hq : ∀ W a, I W → a ∈ xs → Calls Tryz.prog f (#[.agg #[.int .i64 a.1, .int .i64 a.2]] ++ caps) W fun e W' => e = .returned (.bool (q a)) ∧ Below W.heap.size W W') (h0 : I w) :
  Calls Tryz.prog 117 #[v, .func (.func f) #[] caps] w fun e w' => e = .returned (.int .i64 (idxI q xs)) ∧ Below w.heap.size w w' := by
 by_cases hv : v = .slice none 0 0
 ·subst hv
  have hx : xs = [] := by
   obtain ⟨A, c, he⟩ := Kd.R_slice h
   injection he with _ h2 _
   exact List.eq_nil_of_length_eq_zero h2.symm
  clear h hq
  have HX := Lib.hid hx
  clear hx
  go_enter Tryz.func117, Tryz.ntmps117
  go_wp2
  go_loop [8] (fun v8 => v8 = .int .i64 0) (fun _ => 0)
  case atStart => rfl
  case round =>
   subst hrel
   go_wp2
   go_ret
   exact ⟨by rw [HX.out]; rfl, Below.refl _ _⟩
 ·obtain ⟨g, cap, rfl, hg, ho, hr⟩ := ARow.of_R h hv
  obtain ⟨n, hn⟩ : ∃ n, n = xs.length := ⟨_, rfl⟩
  have HR := Aside0.mk hr
  have HN := Lib.hid hn
  have HQ := Lib.hid hq
  have HI := Lib.hid hI
  have HI0 := Lib.hid h0
  have hM : n < 1000000 := by omega
  rw [← hn]
  clear h hr hn hl hq hI h0
  go_enter Tryz.func117, Tryz.ntmps117
  go_wp2
  go_loopw [8] (fun v8 wr => ∃ k : Nat, k ≤ n ∧ v8 = .int .i64 (k : Int) ∧ Below w.heap.size w wr ∧ ∀ j b, j < k → xs[j]? = some b → q b = false) (fun v8 _ => n - (intOf v8).toNat)
  case atStart => exact ⟨0, Nat.zero_le _, rfl, Below.refl _ _, fun j b hj => by omega⟩
  case round =>
   obtain ⟨k, hk, rfl, hb, hpre⟩ := hrel
   have HB := Aside0.mk hb
   have HPRE := Lib.hid hpre
   clear hb hpre
   by_cases hlt : k < n
   ·obtain ⟨a, ha⟩ : ∃ a, xs[k]? = some a := ⟨_, List.getElem?_eq_getElem (by have := HN.out; omega)⟩
    have hc := (HR.out.step (HB.out.block g HR.out.lt)).cell ha
    have c1 := hc.1
    have c2 := hc.2.1
    have HA := Lib.hid ha
    have k0 : (0 : Int) ≤ (k : Int) := by omega
    have k1 : (k : Int) < (n : Int) := by omega
    clear hc ha
    go_wp2_with ((with_reducible refine gate_dst (N := 16) rfl ?_); (refine closL (some 16) rfl rfl 11 hf #[.agg #[.int .i64 a.1, .int .i64 a.2]] rfl rfl (by simp only [List.map_toArray, List.map_cons, List.map_nil]; rfl) ?_; refine (HQ.out _ a (HI.out _ _ HI0.out HB.out) (List.mem_of_getElem? HA.out)).mono ?_; rintro e w1 ⟨rfl, hb1⟩; refine ⟨_, rfl, ?_⟩; have HB1 := Aside0.mk (HB.out.trans (hb1.mono HB.out.size)); clear hb1))
    ·have hqa : q a = true := by assumption
     go_ret
     have hi : idxI q xs = (k : Int) := by rw [idxI, idxOf_some HA.out hqa HPRE.out]
     exact ⟨by rw [hi]; rfl, HB1.out⟩
    ·have hqa : q a = false := by assumption
     refine ⟨⟨k + 1, by omega, by go_num, HB1.out, fun j b hj hb => ?_⟩, by simp [intOf]; omega⟩
     rcases Nat.lt_or_ge j k with h2 | h2
     ·exact HPRE.out j b h2 hb
     ·obtain rfl : j = k := by omega
      rw [HA.out] at hb
      rw [← Option.some.inj hb]
      exact hqa
   ·obtain rfl : k = n := by omega
    go_wp2
    go_ret
    have hi : idxI q xs = -1 := by
     rw [idxI, idxOf_none (fun a ha => ?_)]
     obtain ⟨j, hj, e⟩ := List.getElem_of_mem ha
     exact HPRE.out j a (by have := HN.out; omega) (by rw [← e, List.getElem?_eq_getElem hj])
    exact ⟨by rw [hi]; rfl, HB.out⟩
end
end Go.Proofs.YtmbiebdcnadhkaaGreat.Fl
namespace Go.Proofs.YtmbiebdcnadhkaaGreat.Fl
open Go.RowKit Go.Proofs.YtmbiebdcnadhkaaGreatW.PrintWords Go.Proofs.YtmbiebdcnadhkaaGreatW.PrintMore Go.Maps
theorem zero_addr (w : World) : (zeroValue TA).run Tryz.prog w = .ok (.agg #[.int .i64 0, .int .i64 0]) w := by kernel_rfl
theorem zeros_one (n : Nat) : ∀ u ∈ (Builtin.zeroCells (Value.agg #[.int .i64 0, .int .i64 0]).cells n).toList, u.oneCell' = true := by
 intro u hu
 simp only [Builtin.zeroCells, Value.cells, Array.toList_map, List.mem_map] at hu
 obtain ⟨i, _, rfl⟩ := hu
 have : i % 2 = 0 ∨ i % 2 = 1 := by omega
 rcases this with h | h <;> simp [h, Value.oneCell']
set_option maxRecDepth 20000 in
theorem run_clear_row {w : World} {g cap : Nat} {xs : List Adr} (hr : ARow w g cap xs) (i m c : Nat) (ty : TypeId) (hm : 0 < m) (him : i + m ≤ cap) :
  ∃ w', (Builtin.clear_ #[114] ty #[.slice (some ⟨g, i * 2, none⟩) m c]).run Tryz.prog w = .ok (.tuple #[]) w' ∧ (∀ k, k ≤ i → k ≤ xs.length → ARow w' g cap (xs.take k)) ∧ Upd (fun k => k = g) w w' := by
 obtain ⟨cur, hh, hs, ht⟩ := hr.ex
 obtain ⟨vs, hvs⟩ : ∃ vs, vs = (Builtin.zeroCells (Value.agg #[.int .i64 0, .int .i64 0]).cells m).toList := ⟨_, rfl⟩
 have hl : vs.length = m * 2 := by rw [hvs]; simp [Builtin.zeroCells, Value.cells]
 have h1 : ∀ u ∈ vs, u.oneCell' = true := by rw [hvs]; exact zeros_one m
 have hst := run_storeCells_at Tryz.prog g (i * 2) TA vs 0 cur w hh (by rw [hl, hs]; omega) h1
 obtain ⟨m', rfl⟩ : ∃ m', m = m' + 1 := ⟨m - 1, by omega⟩
 have hz := zero_addr w
 have hst2 := hst
 rw [hvs] at hst2
 simp only [Nat.add_zero] at hst2
 refine ⟨w.setRow g (cur.toList.take (i * 2) ++ vs ++ cur.toList.drop (i * 2 + vs.length)).toArray, ?_, ?_, ?_⟩
 ·rw [hvs]
  simp [Builtin.clear_, run_underlying Tryz.underlying114, hz, hst2]
 ·intro k hk hk2
  have hlen : (cur.toList.take (i * 2) ++ vs ++ cur.toList.drop (i * 2 + vs.length)).length = cap * 2 := by
   rw [List.length_append, List.length_append, List.length_take, List.length_drop, hl, Array.length_toList, hs]
   omega
  have htk : (cur.toList.take (i * 2) ++ vs ++ cur.toList.drop (i * 2 + vs.length)).take (k * 2) = cur.toList.take (k * 2) := by
   rw [List.append_assoc, List.take_append_of_le_length (by rw [List.length_take, Array.length_toList, hs]; omega), List.take_take]
   congr 1
   omega
  refine ⟨⟨_, setRow_heap w g cur _ TA _ hh, by rw [List.size_toArray]; exact hlen, ?_⟩, by have := hr.le; rw [List.length_take]; omega, hr.mx⟩
  rw [flat_take, ← ht, List.take_take, List.length_take, Nat.min_eq_left hk2, Nat.min_eq_left (by omega)]
  exact htk
 ·exact ⟨rfl, rfl, rfl, by simp [World.setRow], fun k _ hk => setRow_other w g k _ hk⟩
def keepF (q : Adr → Bool) (xs : List Adr) : List Adr := xs.filter (fun a => !q a)
theorem keepF_pre {q : Adr → Bool} {xs : List Adr} {i : Nat} (h : ∀ j b, j < i → xs[j]? = some b → q b = false) : keepF q (xs.take i) = xs.take i := by
 unfold keepF
 rw [List.filter_eq_self]
 intro a ha
 obtain ⟨j, hj, e⟩ := List.getElem_of_mem ha
 rw [List.length_take] at hj
 rw [List.getElem_take] at e
 rw [h j a (by omega) (by rw [← e]; exact List.getElem?_eq_getElem (by omega))]
 rfl
theorem idxI_spec {α : Type} (q : α → Bool) : ∀ (xs : List α), (idxI q xs = -1 ∧ ∀ a ∈ xs, q a = false) ∨ ∃ (i : Nat) (a : α), idxI q xs = (i : Int) ∧ xs[i]? = some a ∧ q a = true ∧ ∀ j b, j < i → xs[j]? = some b → q b = false := by
 have key : ∀ xs : List α, (idxOf q xs = none ∧ ∀ a ∈ xs, q a = false) ∨ ∃ (i : Nat) (a : α), idxOf q xs = some i ∧ xs[i]? = some a ∧ q a = true ∧ ∀ j b, j < i → xs[j]? = some b → q b = false := by
  intro xs
  induction xs with
  | nil => exact .inl ⟨rfl, fun a ha => by cases ha⟩
  | cons x l ih =>
   cases hx : q x with
   | true => exact .inr ⟨0, x, by simp [idxOf, hx], rfl, hx, fun j b hj => by omega⟩
   | false =>
    rcases ih with ⟨h1, h2⟩ | ⟨i, a, h1, h2, h3, h4⟩
    ·refine .inl ⟨by simp [idxOf, hx, h1], fun a ha => ?_⟩
     rcases List.mem_cons.1 ha with rfl | ha
     ·exact hx
     ·exact h2 a ha
    ·refine .inr ⟨i + 1, a, by simp [idxOf, hx, h1], by rw [List.getElem?_cons_succ]; exact h2, h3, fun j b hj hb => ?_⟩
     cases j with
     | zero => simp at hb; rw [← hb]; exact hx
     | succ j => rw [List.getElem?_cons_succ] at hb; exact h4 j b (by omega) hb
 intro xs
 rcases key xs with ⟨h1, h2⟩ | ⟨i, a, h1, h2⟩
 ·exact .inl ⟨by simp [idxI, h1], h2⟩
 ·exact .inr ⟨i, a, by simp [idxI, h1], h2⟩
structure DelAt (q : Adr → Bool) (xs ys : List Adr) (i j : Nat) : Prop where
 len : ys.length = xs.length
 lt : i < j
 le : j ≤ xs.length
 kept : ys.take i = keepF q (xs.take j)
 rest : ys.drop j = xs.drop j
theorem DelAt.skip {q : Adr → Bool} {xs ys : List Adr} {i j : Nat} (h : DelAt q xs ys i j) {a : Adr} (ha : xs[j]? = some a) (hq : q a = true) : DelAt q xs ys i (j + 1) := by
 have hj := (List.getElem?_eq_some_iff.1 ha).1
 refine ⟨h.len, by have := h.lt; omega, by omega, ?_, ?_⟩
 ·rw [h.kept, List.take_add_one, ha]
  simp [keepF, hq]
 ·have := congrArg (List.drop 1) h.rest
  rwa [List.drop_drop, List.drop_drop] at this
theorem DelAt.put {q : Adr → Bool} {xs ys : List Adr} {i j : Nat} (h : DelAt q xs ys i j) {a : Adr} (ha : xs[j]? = some a) (hq : q a = false) : DelAt q xs (ys.set i a) (i + 1) (j + 1) := by
 have hj := (List.getElem?_eq_some_iff.1 ha).1
 have hi := h.lt
 have hl := h.len
 refine ⟨by rw [List.length_set]; exact h.len, by omega, by omega, ?_, ?_⟩
 ·rw [List.take_add_one, List.getElem?_set_self (by omega), List.take_set, List.set_eq_of_length_le (by simp; omega), h.kept, List.take_add_one, ha]
  simp [keepF, hq]
 ·rw [List.drop_set_of_lt (by omega)]
  have := congrArg (List.drop 1) h.rest
  rwa [List.drop_drop, List.drop_drop] at this
theorem DelAt.start {q : Adr → Bool} {xs : List Adr} {i : Nat} {a : Adr} (ha : xs[i]? = some a) (hq : q a = true) (hp : ∀ j b, j < i → xs[j]? = some b → q b = false) : DelAt q xs xs i (i + 1) := by
 have hi := (List.getElem?_eq_some_iff.1 ha).1
 refine ⟨rfl, by omega, by omega, ?_, rfl⟩
 rw [List.take_add_one, ha]
 have := keepF_pre hp
 unfold keepF at this ⊢
 rw [List.filter_append, this]
 simp [hq]
theorem DelAt.at {q : Adr → Bool} {xs ys : List Adr} {i j : Nat} (h : DelAt q xs ys i j) {a : Adr} (ha : xs[j]? = some a) : ys[j]? = some a := by
 have := congrArg (fun l => l[0]?) h.rest
 simp only [List.getElem?_drop, Nat.add_zero] at this
 rw [this, ha]
theorem ARow.set_other {w : World} {g cap k : Nat} {ys : List Adr} {b : Adr} {x : Value} (h : ARow w g cap ys) (hb : ys[k]? = some b) : (w.setCell ⟨g, k * 2, none⟩ x).cell? ⟨g, k * 2 + 1, none⟩ = some (.int .i64 b.2) := by
 have hc := (h.cell hb).2.1
 obtain ⟨cur, hh, hs, ht⟩ := h.ex
 rw [bcell hh] at hc
 rw [bcell (bset hh _ _), Array.getElem?_setIfInBounds_ne (by omega)]
 exact hc
theorem ARow.set_frozen {w : World} {g cap k : Nat} {ys : List Adr} {x : Value} (h : ARow w g cap ys) : (w.setCell ⟨g, k * 2, none⟩ x).frozen? ⟨g, k * 2 + 1, none⟩ = false := by
 obtain ⟨cur, hh, hs, ht⟩ := h.ex
 exact bfrozen (bset hh _ _) _
section
variable {N0 : Nat} {ok : Nat → Prop} {w : World} {v : Value} {xs : List Adr}
set_option maxHeartbeats 2000000 in
set_option maxRecDepth 100000 in
theorem DeleteFunc_any (h : kAddr.R TA w N0 ok v xs) (hl : xs.length < 1000000) {f : FuncId} {caps : Array Value} (hf : CloFn f) (I : World → Prop) (hI : ∀ W W', I W → Upd (fun k => some k = v.ownBlock) W W' → I W') (q : Adr → Bool)
  (hq : ∀ W a, I W → a ∈ xs → Calls Tryz.prog f (#[.agg #[.int .i64 a.1, .int .i64 a.2]] ++ caps) W fun e W' => e = .returned (.bool (q a)) ∧ Below W.heap.size W W') (h0 : I w) :
  Calls Tryz.prog 94 #[v, .func (.func f) #[] caps] w fun e w' => ∃ v', e = .returned v' ∧ kAddr.R TA w' N0 ok v' (keepF q xs) ∧ Upd (fun k => some k = v.ownBlock) w w' := by
 have hIB : ∀ W W', I W → Below W.heap.size W W' → I W' := fun W W' h1 h2 => hI W W' h1 (Upd.ofBelow h2 _)
 have hcall := IndexFunc_any h hl hf I hIB q hq h0
 rcases idxI_spec q xs with ⟨e1, e2⟩ | ⟨i, a0, e1, e2, e3, e4⟩
 ·rw [e1] at hcall
  obtain ⟨A, c, rfl⟩ := Kd.R_slice h
  have HR := Aside0.mk h
  have HC := Aside0.mk hcall
  have hk : keepF q xs = xs := by
   have := keepF_pre (q := q) (xs := xs) (i := xs.length) (fun j b _ hb => e2 b (List.mem_of_getElem? hb))
   rwa [List.take_length] at this
  have HK := Lib.hid hk
  clear h hcall e1 e2 hk hq hI hIB h0
  go_enter Tryz.func94, Tryz.ntmps94
  go_wp2_with (go_at_call 117; (with_reducible refine HC.out.mono ?_); rintro e w1 ⟨rfl, hb⟩; have HB := Aside0.mk hb; clear hb)
  go_ret
  exact ⟨_, rfl, by rw [HK.out]; exact Kd.R_below HR.out HB.out, Upd.ofBelow HB.out _⟩
 ·rw [e1] at hcall
  have hv : v ≠ .slice none 0 0 := by
   rintro rfl
   obtain ⟨A, c, he⟩ := Kd.R_slice h
   injection he with _ h2 _
   have := (List.getElem?_eq_some_iff.1 e2).1
   omega
  obtain ⟨g, cap, rfl, hg, ho, hr⟩ := ARow.of_R h hv
  have hs0 := DelAt.start e2 e3 e4
  obtain ⟨n, hn⟩ : ∃ n, n = xs.length := ⟨_, rfl⟩
  have HR := Aside0.mk hr
  have HN := Lib.hid hn
  have HS := Aside0.mk hs0
  have HC := Aside0.mk hcall
  have HQ := Lib.hid hq
  have HI := Lib.hid hI
  have HI0 := Lib.hid h0
  have hM : n < 1000000 := by omega
  have hi2 : i < n := by have := hs0.lt; have := hs0.le; omega
  have hcap : n ≤ cap := by have := hr.le; omega
  rw [← hn]
  rw [← hn] at HC HI
  clear h hcall e1 e2 e3 e4 hq hI hIB h0 hs0 hr hn hv hl
  go_enter Tryz.func94, Tryz.ntmps94
  have j0 : (0 : Int) ≤ (i : Int) := by omega
  have j1 : (i : Int) < (n : Int) := by omega
  have j2 : (n : Int) < 1000000 := by omega
  have j3 : ((i : Int) == -1) = false := by simp
  go_wp2_with (go_at_call 117; (with_reducible refine HC.out.mono ?_); rintro e w1 ⟨rfl, hb⟩; have HB := Aside0.mk hb; clear hb)
  clear j0 j1 j3
  have hB1 := HB.out
  go_loopw [5, 6] (fun v5 v6 wr => ∃ (k1 k2 : Nat) (ys : List Adr), v5 = .int .i64 (k1 : Int) ∧ v6 = .int .i64 (k2 : Int) ∧ DelAt q xs ys k1 k2 ∧ ARow wr g cap ys ∧ Upd (fun k => some k = (Value.slice (some ⟨g, 0, none⟩) n cap).ownBlock) w wr) (fun _ v6 _ => n - (intOf v6).toNat)
  case atStart => exact ⟨i, i + 1, xs, rfl, by go_num, HS.out, HR.out.step (hB1.block g HR.out.lt), Upd.ofBelow hB1 _⟩
  case round =>
   obtain ⟨k1, k2, ys, rfl, rfl, hd, hrow, hup⟩ := hrel
   have HD := Aside0.mk hd
   have HW := Aside0.mk hrow
   have HU := Aside0.mk hup
   have m1 := hd.lt
   have m2 : k2 ≤ n := by have := hd.le; have := HN.out; omega
   have m3 : (0 : Int) ≤ (k1 : Int) := by omega
   have m4 : (k1 : Int) < (k2 : Int) := by omega
   have m5 : (k2 : Int) ≤ (n : Int) := by omega
   clear hd hrow hup hB1
   by_cases hlt : k2 < n
   ·obtain ⟨a, ha⟩ : ∃ a, xs[k2]? = some a := ⟨_, List.getElem?_eq_getElem (by have := HN.out; omega)⟩
    have hcl := HW.out.cell (HD.out.at ha)
    have c1 := hcl.1
    have c2 := hcl.2.1
    have HA := Lib.hid ha
    have m6 : (k2 : Int) < (n : Int) := by omega
    clear hcl ha
    obtain ⟨b, hb⟩ : ∃ b, ys[k1]? = some b := ⟨_, List.getElem?_eq_getElem (by have := HN.out; have := HD.out.len; omega)⟩
    have HBB := Lib.hid hb
    have hIr : I (wr.alloc (.cells #[.int .i64 a.1, .int .i64 a.2] TA)) := HI.out _ _ HI0.out (HU.out.trans (Upd.alloc _ wr _) (fun _ h _ => h))
    have HIR := Lib.hid hIr
    have glt : g < wr.heap.size := HW.out.lt
    clear hb hIr
    cases hqa : q a with
    | true =>
     have HQA := Lib.hid hqa
     clear hqa
     go_wp2_with ((with_reducible refine gate_dst (N := 28) rfl ?_); (refine closL (some 28) rfl rfl 26 hf #[.agg #[.int .i64 a.1, .int .i64 a.2]] rfl rfl (by simp only [List.map_toArray, List.map_cons, List.map_nil]; rfl) ?_; refine (HQ.out _ a HIR.out (List.mem_of_getElem? HA.out)).mono ?_; rw [HQA.out]; rintro e w1 ⟨rfl, hb1⟩; refine ⟨_, rfl, ?_⟩; have hb2 := below_then (below_alloc (Below.refl _ _) _) (by simp) hb1; have HB2 : Aside0 (Below wr.heap.size wr w1) := Aside0.mk hb2; have hbx : w1.heap[wr.heap.size]? = some (.cells #[.int .i64 a.1, .int .i64 a.2] TA (0, 0)) := (hb1.block _ (by simp)).trans (blk_new wr _); have d1 : w1.cell? ⟨wr.heap.size, 0, none⟩ = some (.int .i64 a.1) := bcell hbx 0; have d2 : w1.cell? ⟨wr.heap.size, 1, none⟩ = some (.int .i64 a.2) := bcell hbx 1; have hrw := HW.out.step (hb2.block g glt); have hce := hrw.cell HBB.out; have e1 := hce.1; have e2 := hce.2.1; have e3 := hce.2.2.1; have e4 := hce.2.2.2; have HRW := Aside0.mk hrw; clear hb1 hb2 hbx hrw hce))
     refine ⟨⟨k1, k2 + 1, ys, rfl, by go_num, HD.out.skip HA.out HQA.out, HRW.out, HU.out.trans (Upd.ofBelow HB2.out _) (fun _ h _ => h)⟩, by simp [intOf]; omega⟩
    | false =>
     have HQA := Lib.hid hqa
     clear hqa
     go_wp2_with ((with_reducible refine gate_dst (N := 28) rfl ?_); (refine closL (some 28) rfl rfl 26 hf #[.agg #[.int .i64 a.1, .int .i64 a.2]] rfl rfl (by simp only [List.map_toArray, List.map_cons, List.map_nil]; rfl) ?_; refine (HQ.out _ a HIR.out (List.mem_of_getElem? HA.out)).mono ?_; rw [HQA.out]; rintro e w1 ⟨rfl, hb1⟩; refine ⟨_, rfl, ?_⟩; have hb2 := below_then (below_alloc (Below.refl _ _) _) (by simp) hb1; have HB2 : Aside0 (Below wr.heap.size wr w1) := Aside0.mk hb2; have hbx : w1.heap[wr.heap.size]? = some (.cells #[.int .i64 a.1, .int .i64 a.2] TA (0, 0)) := (hb1.block _ (by simp)).trans (blk_new wr _); have d1 : w1.cell? ⟨wr.heap.size, 0, none⟩ = some (.int .i64 a.1) := bcell hbx 0; have d2 : w1.cell? ⟨wr.heap.size, 1, none⟩ = some (.int .i64 a.2) := bcell hbx 1; have hrw := HW.out.step (hb2.block g glt); have hce := hrw.cell HBB.out; have e1 := hce.1; have e2 := hce.2.1; have e3 := hce.2.2.1; have e4 := hce.2.2.2; have s2 : (w1.setCell ⟨g, k1 * 2, none⟩ (.int .i64 a.1)).cell? ⟨g, k1 * 2 + 1, none⟩ = some (.int .i64 b.2) := ARow.set_other hrw HBB.out; have s3 : (w1.setCell ⟨g, k1 * 2, none⟩ (.int .i64 a.1)).frozen? ⟨g, k1 * 2 + 1, none⟩ = false := ARow.set_frozen hrw; have HRW := Aside0.mk hrw; clear hb1 hb2 hbx hrw hce))
     refine ⟨⟨k1 + 1, k2 + 1, ys.set k1 a, by go_num, by go_num, HD.out.put HA.out HQA.out, HRW.out.set k1 a (by have := HN.out; have := HD.out.len; omega), ?_⟩, by simp [intOf]; omega⟩
     exact ((HU.out.trans (Upd.ofBelow HB2.out _) (fun _ h _ => h)).trans (Upd.setCell w1 (p := ⟨g, k1 * 2, none⟩) (S := fun k => some k = (Value.slice (some ⟨g, 0, none⟩) n cap).ownBlock) rfl _) (fun _ h _ => h)).trans (Upd.setCell _ (p := ⟨g, k1 * 2 + 1, none⟩) (S := fun k => some k = (Value.slice (some ⟨g, 0, none⟩) n cap).ownBlock) rfl _) (fun _ h _ => h)
   ·obtain rfl : k2 = n := by omega
    obtain ⟨w2, hrc, hr2, hu2⟩ := run_clear_row HW.out k1 (k2 - k1) (cap - k1) 0 (by omega) (by omega)
    have hne : ¬ (cap = k1) := by omega
    have m7 : (k2 : Int) ≤ (cap : Int) := by omega
    have HR2 := Lib.hid hr2
    have HU2 := Aside0.mk hu2
    clear hr2 hu2
    go_wp2
    go_ret
    have hkeep : ys.take k1 = keepF q xs := by
     rw [HD.out.kept, HN.out, List.take_length]
    have hle : k1 ≤ ys.length := by have := HD.out.len; have := HN.out; omega
    have h1 := (HR2.out k1 (Nat.le_refl _) hle).to_R (N0 := N0) (ok := ok) hg ho
    rw [hkeep] at h1
    have hlen : (keepF q xs).length = k1 := by rw [← hkeep, List.length_take]; omega
    rw [hlen] at h1
    exact ⟨_, rfl, h1, HU.out.trans HU2.out (fun k hk _ => by rw [hk]; rfl)⟩
end
end Go.Proofs.YtmbiebdcnadhkaaGreat.Fl
namespace Go.Proofs.YtmbiebdcnadhkaaGreat.Fl
open Go.RowKit Go.Proofs.YtmbiebdcnadhkaaGreatW.PrintWords Go.Proofs.YtmbiebdcnadhkaaGreatW.PrintMore Go.Maps
theorem Ents.drew {N0 : Nat} {ok : Nat → Prop} {w : World} {es : List MapEntry} {qs : List (Adr × List Int)} (h : Ents N0 ok w es qs) : Ents N0 ok w.drew es qs := Ents.imp (fun v xs (hr : Row w N0 ok v xs) => (hr.step (fun _ _ _ => rfl) : Row w.drew N0 ok v xs)) h
def delTo (s : Int) : Nat → List (Adr × List Int) → List (Adr × List Int)
 | 0, l => l
 | k + 1, l => del (s, (k : Int)) (delTo s k l)
theorem nodup_delTo (s : Int) : ∀ (k : Nat) {l : List (Adr × List Int)}, Nodup l → Nodup (delTo s k l)
 | 0, _, h => h
 | k + 1, _, h => nodup_del (nodup_delTo s k h)
theorem delTo_mem (s : Int) : ∀ (k : Nat) {l : List (Adr × List Int)} {q : Adr × List Int}, q ∈ delTo s k l → q ∈ l
 | 0, _, _, h => h
 | k + 1, _, _, h => delTo_mem s k (del_mem h)
theorem look_delTo (s : Int) (c : Adr) : ∀ (k : Nat) {l : List (Adr × List Int)}, Nodup l → look c (delTo s k l) = if c.1 = s ∧ 0 ≤ c.2 ∧ c.2 < (k : Int) then none else look c l
 | 0, l, _ => by rw [if_neg (by omega)]; rfl
 | k + 1, l, h => by
  show look c (del (s, (k : Int)) (delTo s k l)) = _
  rw [look_del _ _ (nodup_delTo s k h), look_delTo s c k h]
  by_cases h1 : c = (s, (k : Int))
  ·rw [if_pos h1, if_pos (by rw [h1]; simp; omega)]
  ·rw [if_neg h1]
   by_cases h2 : c.1 = s ∧ 0 ≤ c.2 ∧ c.2 < (k : Int)
   ·rw [if_pos h2, if_pos ⟨h2.1, h2.2.1, by omega⟩]
   ·rw [if_neg h2, if_neg (fun h3 => h2 ⟨h3.1, h3.2.1, by
     have : c.2 ≠ (k : Int) := fun e => h1 (by rw [← e, ← h3.1])
     omega⟩)]
def eraseD (D : PD) (s : Int) : PD := { D with mp := delTo s D.s.2.1.toNat D.mp, dirty := keepF (fun a => decide (a.1 = s)) D.dirty }
set_option maxHeartbeats 1000000 in
set_option maxRecDepth 100000 in
theorem Erase1_any (a : Adr) (b : Nat) (s : Int) (w : World) (hb : w.cell? ⟨b, 0, none⟩ = some (.int .i64 s)) :
  Calls Tryz.prog 93 (#[.agg #[.int .i64 a.1, .int .i64 a.2]] ++ #[.pointer (some ⟨b, 0, none⟩)]) w fun e w' => e = .returned (.bool (decide (a.1 = s))) ∧ Below w.heap.size w w' := by
 have hlt := blt_of_cell hb
 have hb2 : (w.alloc (.cells #[.int .i64 a.1, .int .i64 a.2] TA)).cell? ⟨b, 0, none⟩ = some (.int .i64 s) := (World.cell?_alloc_lt w _ _ hlt).trans hb
 clear hb
 go_enter Tryz.func93, Tryz.ntmps93
 go_wp2
 go_ret
 exact ⟨by first | rfl | (simp; done), below_alloc (Below.refl _ _) _⟩
theorem erase1_clo : CloFn 93 := ⟨_, Tryz.func93, by kernel_rfl, rfl⟩
theorem erase_keepB {w w1 w2 : World} {v : Value} {xs : List Adr} {k : Nat} {o : Obj} (h : kAddr.R TA w1 w.heap.size (fun k => w.heap.size ≤ k) v xs) (hu : Upd (fun k => some k = v.ownBlock) w1 w2) (hk : k < w.heap.size) (ho : w1.heap[k]? = some o) : w2.heap[k]? = some o :=
 hu.blk ho (fun e => by have := h.1 k e.symm; omega)
theorem erase_keep {w w1 : World} {v : Value} {xs : List Adr} {k : Nat} {x : Value} (h : kAddr.R TA w1 w.heap.size (fun k => w.heap.size ≤ k) v xs) (hk : k < w.heap.size) :
  ∀ W W' : World, W.cell? ⟨k, 0, none⟩ = some x → Upd (fun k => some k = v.ownBlock) W W' → W'.cell? ⟨k, 0, none⟩ = some x := fun W W' hc hu => by
 rw [World.cell?_of_block (w := W) (a := ⟨k, 0, none⟩) (hu.block k (World.block_lt_of_cell? W ⟨k, 0, none⟩ hc) (fun e => by have := h.1 k e.symm; omega))]
 exact hc
theorem dev_end {N0 p : Nat} {D : PD} {ok ok' : Nat → Prop} {w w1 : World} {m : Nat} {v v' : Value} {es es' : Array MapEntry} {ck ck' : Nat} {mp' : List (Adr × List Int)} {d' : List Adr} (hD : DevAt N0 p D ok w m v es ck)
  (hp : w1.heap[p]? = some (.cells #[.int .i64 D.s.1, .int .i64 D.s.2.1, .int .i64 D.s.2.2, .map (some m), v] TD (0, 0))) (hm : w1.heap[m]? = some (.map es' ck')) (he : Ents N0 ok' w1 es'.toList mp') (hd : kAddr.R TA w1 N0 ok' v' d') (hn : Nodup mp') (hl : ∀ q ∈ mp', q.2.length = D.s.2.2.toNat) (hi : ∀ a ∈ d', InR a) (hok : ∀ k, ok k → ok' k) :
  DevIs N0 p { D with mp := mp', dirty := d' } ok' (w1.setCell ⟨p, 4, none⟩ v') := by
 refine ⟨m, v', es', ck', hD.base, hok _ hD.okp, by rw [bset hp]; rfl, hok _ hD.okm, hD.basem, ?_, ?_, ?_, hD.shape, hi, hn, hl⟩
 ·rw [Below.heap_setCell _ _ _ _ (Ne.symm (map_ne hp hm))]
  exact hm
 ·exact he.imp (fun _ _ hr => Row.typed (w := w1) hr (fun k cs hk _ => Below.heap_setCell _ _ _ _ (not_typ hp TD_ne.1 hk)))
 ·exact A_typed hd (fun k cs hk _ => Below.heap_setCell _ _ _ _ (not_typ hp TD_ne.2.1 hk))
section
variable {N0 p : Nat} {D : PD} {ok : Nat → Prop} {w : World}
set_option maxHeartbeats 2000000 in
set_option maxRecDepth 100000 in
theorem Erase_ok (hD : DevIs N0 p D ok w) (s : Int) (h0 : hasB D.s s 0 = true) (hm : D.dirty.length < 1000000) :
  Calls Tryz.prog 50 #[.pointer (some ⟨p, 0, none⟩), .int .i64 s] w fun e w' => e = .returned (.int .i64 0) ∧ DevIs N0 p (eraseD D s) (fun k => ok k ∨ w.heap.size ≤ k) w' ∧ Upd (Mut ok w) w w' := by
 obtain ⟨m, v, es, ck, hD⟩ := hD
 have HS := Lib.hid hD.shape
 have HP := Lib.hid hD.blk
 have HD := Aside0.mk hD
 have HE := Lib.hid (show hasE D.s s 0 = 0 by simp [hasE, h0])
 have HH := Lib.hid h0
 obtain ⟨W, hW⟩ : ∃ W, W = w.alloc (.cells #[.int .i64 s] 3) := ⟨_, rfl⟩
 have hlp := blt HP.out
 have q1 : W.heap[p]? = some (.cells #[.int .i64 D.s.1, .int .i64 D.s.2.1, .int .i64 D.s.2.2, .map (some m), v] TD (0, 0)) := by rw [hW]; exact (Below.heap_alloc _ _ _ hlp).trans HP.out
 have q2 : W.heap[w.heap.size]? = some (.cells #[.int .i64 s] 3 (0, 0)) := by rw [hW]; exact blk_new w _
 have q3 : Below w.heap.size w W := by rw [hW]; exact below_alloc (Below.refl _ _) _
 have Q1 := Lib.hid q1; have Q2 := Lib.hid q2; have Q3 := Aside0.mk q3
 have k2 : W.cell? ⟨w.heap.size, 0, none⟩ = some (.int .i64 s) := bcell q2 0
 have k1 : W.cell? ⟨p, 1, none⟩ = some (.int .i64 D.s.2.1) := bcell q1 1
 obtain ⟨n, hn⟩ : ∃ n : Nat, D.s.2.1 = (n : Int) := ⟨D.s.2.1.toNat, by have := hD.shape.b0; omega⟩
 have hn1 : n ≤ 64 := by have := hD.shape.b1; omega
 have HN := Lib.hid hn
 rw [hn] at k1
 have HW := Lib.hid hW
 clear hD h0 q1 q2 q3 hn hW
 go_enter Tryz.func50, Tryz.ntmps50
 go_wp2_with fail
 rw [← HW.out]
 go_wp2_with (go_at_call 92; (with_reducible refine (has_blk HS.out Q1.out s 0).mono ?_); rw [HE.out]; rintro e w' ⟨rfl, rfl⟩)
 have HLP := Lib.hid (blt HD.out.map)
 go_loopw [20] (fun v20 wr => ∃ (k : Nat) (es' : Array MapEntry) (ck' : Nat), k ≤ n ∧ v20 = .int .i64 (k : Int) ∧ wr.heap[m]? = some (.map es' ck') ∧ Ents N0 ok wr es'.toList (delTo s k D.mp) ∧ Upd (fun j => j = m) W wr) (fun v20 _ => n - (intOf v20).toNat)
 case atStart => exact ⟨0, es, ck, Nat.zero_le _, rfl, (Q3.out.block m (blt HD.out.map)).trans HD.out.map, HD.out.ents.imp (fun _ _ hr => hr.step (fun k _ hlt => Q3.out.block k hlt)), Upd.refl _ _⟩
 case round =>
  obtain ⟨k, es', ck', hk, rfl, hmb, hen, hup⟩ := hrel
  have HMB := Lib.hid hmb
  have HEN := Aside0.mk hen
  have HUP := Aside0.mk hup
  clear hmb hen hup
  by_cases hlt : k < n
  ·have pm : p ≠ m := map_ne HP.out HD.out.map
   have bm : w.heap.size ≠ m := Nat.ne_of_gt (blt HD.out.map)
   have b1 : wr.heap[p]? = some (.cells #[.int .i64 D.s.1, .int .i64 D.s.2.1, .int .i64 D.s.2.2, .map (some m), v] TD (0, 0)) := HUP.out.blk Q1.out pm
   have b2 : wr.heap[w.heap.size]? = some (.cells #[.int .i64 s] 3 (0, 0)) := HUP.out.blk Q2.out bm
   have c1 : wr.cell? ⟨p, 3, none⟩ = some (.map (some m)) := bcell b1 3
   have c2 : wr.cell? ⟨w.heap.size, 0, none⟩ = some (.int .i64 s) := bcell b2 0
   have hin : InR (s, (k : Int)) := by
    have h3 := hasB_inr HS.out HH.out
    exact ⟨h3.a0, h3.a1, by simp, by simp; omega⟩
   obtain ⟨es2, ck2, hr2, he2⟩ := run_delete (w := wr.drew) HMB.out HEN.out.drew (nodup_delTo s k HD.out.nodup) hin 0
   have hr3 : (Builtin.delete_ #[TM, TA] 0 #[.map (some m), .agg #[.int .i64 s, .int .i64 (k : Int)]]).run Tryz.prog wr.drew = .ok (.tuple #[]) (putMap wr.drew m es2 ck2) := hr2
   have c3 := putMap_cell (w1 := wr.drew) c1 pm es2 ck2
   have c4 := putMap_cell (w1 := wr.drew) c2 bm es2 ck2
   have HE2 := Aside0.mk he2
   have kn : (k : Int) < (n : Int) := by omega
   clear hr2 b1 b2 hin he2
   go_wp2
   go_region_held3 (fun w' => w'.cell? ⟨p, 3, none⟩ = some (.map (some m)) ∧ w'.cell? ⟨w.heap.size, 0, none⟩ = some (.int .i64 s)) (first | go_keep | exact ⟨c3, c4⟩) (fail)
   go_wp2
   go_roundw
   case rel => exact ⟨k + 1, es2, ck2, by omega, by go_num, putMap_same HMB.out es2 ck2, HE2.out, (HUP.out.trans (Upd.ofBelow ((Below.refl _ wr).drew) _) (fun _ h _ => h)).trans (putMap_upd (S := fun j => j = m) wr.drew rfl es2 ck2) (fun _ h _ => h)⟩
   case measure => simp [intOf]; omega
  ·obtain rfl : k = n := by omega
   have pm : p ≠ m := map_ne HP.out HD.out.map
   have bm : w.heap.size ≠ m := Nat.ne_of_gt (blt HD.out.map)
   have b1 : wr.heap[p]? = some (.cells #[.int .i64 D.s.1, .int .i64 D.s.2.1, .int .i64 D.s.2.2, .map (some m), v] TD (0, 0)) := HUP.out.blk Q1.out pm
   have b2 : wr.heap[w.heap.size]? = some (.cells #[.int .i64 s] 3 (0, 0)) := HUP.out.blk Q2.out bm
   have c1 : wr.cell? ⟨p, 4, none⟩ = some v := bcell b1 4
   have hRv : kAddr.R TA wr N0 ok v D.dirty := A_typed (Kd.R_below HD.out.dirty Q3.out) (fun j cs hj _ => HUP.out.block j (blt hj) (map_ne hj ((Q3.out.block m HLP.out).trans HD.out.map)))
   have RV := Aside0.mk hRv
   have B1 := Lib.hid b1
   have B2 := Lib.hid b2
   clear hRv b1 b2
   go_wp2_with (first | (go_at_call 81; (with_reducible refine (Clone_any RV.out hm).mono ?_); rintro e w1 ⟨v1, rfl, hr1, hnil, hb1⟩; have HR1 := Aside0.mk hr1; have HB1 := Aside0.mk hb1; clear hr1 hnil hb1) | (go_at_call 94; refine (DeleteFunc_any HR1.out hm erase1_clo (fun W => W.cell? ⟨w.heap.size, 0, none⟩ = some (.int .i64 s)) (erase_keep HR1.out (blt B2.out)) (fun a => decide (a.1 = s)) (fun W a hW _ => Erase1_any a _ s W hW) ((HB1.out.cell (p := ⟨w.heap.size, 0, none⟩) (blt B2.out)).trans (bcell B2.out 0))).mono ?_; rintro e w2 ⟨v2, rfl, hr2, hu2⟩; obtain ⟨A2, c2, rfl⟩ := Kd.R_slice hr2; have h6 := erase_keepB HR1.out hu2 (blt B1.out) ((HB1.out.block p (blt B1.out)).trans B1.out); have HR2 := Aside0.mk hr2; have HU2 := Aside0.mk hu2; have c6 : w2.cell? ⟨p, 4, none⟩ = some v := bcell h6 4; have f6 : w2.frozen? ⟨p, 4, none⟩ = false := bfrozen h6 4; have H6 := Lib.hid h6; clear hr2 hu2 h6))
   go_ret
   have hmv : ∀ j, j < wr.heap.size → w2.heap[j]? = wr.heap[j]? := fun j hj => (HU2.out.block j (Nat.lt_of_lt_of_le hj HB1.out.size) (fun e => by have := HR1.out.1 j e.symm; omega)).trans (HB1.out.block j hj)
   have hm0 : (wr.heap[m]? = some (.map es' ck')) := HMB.out
   have hs1 : w.heap.size ≤ wr.heap.size := by have := Q3.out.size; have := HUP.out.size; omega
   have hN0 : N0 ≤ w.heap.size := by have := HD.out.base; omega
   have hpg : D.s.2.1.toNat = k := by rw [HN.out]; rfl
   have hfin := dev_end (ok' := fun k => ok k ∨ w.heap.size ≤ k) (v' := .slice A2 (keepF (fun a => decide (a.1 = s)) D.dirty).length c2) HD.out H6.out ((hmv m (blt hm0)).trans hm0) (HEN.out.imp (fun _ _ hr => (hr.step (fun j _ hlt => hmv j hlt)).mono (fun _ h => .inl h))) (Kd.R_mono (Kd.R_lower HR2.out (by omega)) (fun j hj => .inr (Nat.le_trans hs1 hj))) (nodup_delTo s k HD.out.nodup) (fun q hq => HD.out.lens q (delTo_mem s k hq)) (fun a ha => HD.out.inr a (List.mem_filter.1 ha).1) (fun _ h => .inl h)
   refine ⟨rfl, ?_, ?_⟩
   ·rw [eraseD, hpg]; exact hfin
   ·have u1 : Upd (Mut ok w) w wr := (Upd.ofBelow Q3.out _).trans (HUP.out.mono (S' := Mut ok w) (fun j hj _ => by rw [hj]; exact HD.out.mutm)) (fun _ h _ => h)
    have u2 : Upd (Mut ok w) w w2 := u1.trans ((Upd.ofBelow HB1.out (fun j => some j = (v1).ownBlock)).trans HU2.out (fun _ h _ => h)) (fun j hj hlt => by have := HR1.out.1 j hj.symm; omega)
    exact u2.trans (Upd.setCell w2 (p := ⟨p, 4, none⟩) HD.out.mutp _) (fun _ h _ => h)
set_option maxHeartbeats 1000000 in
set_option maxRecDepth 100000 in
theorem Erase_no (hD : DevIs N0 p D ok w) (s : Int) (h0 : hasB D.s s 0 = false) :
  Calls Tryz.prog 50 #[.pointer (some ⟨p, 0, none⟩), .int .i64 s] w fun e w' => e = .returned (.int .i64 6) ∧ Below w.heap.size w w' := by
 obtain ⟨m, v, es, ck, hD⟩ := hD
 have HS := Lib.hid hD.shape
 have HE := Lib.hid (show hasE D.s s 0 = 6 by simp [hasE, h0])
 have hp := hD.blk
 obtain ⟨W, hW⟩ : ∃ W, W = w.alloc (.cells #[.int .i64 s] 3) := ⟨_, rfl⟩
 have q1 : W.heap[p]? = some (.cells #[.int .i64 D.s.1, .int .i64 D.s.2.1, .int .i64 D.s.2.2, .map (some m), v] TD (0, 0)) := by rw [hW]; exact (Below.heap_alloc _ _ _ (blt hp)).trans hp
 have k2 : W.cell? ⟨w.heap.size, 0, none⟩ = some (.int .i64 s) := bcell (by rw [hW]; exact blk_new w _ : W.heap[w.heap.size]? = some (.cells #[.int .i64 s] 3 (0, 0))) 0
 have Q1 := Lib.hid q1
 have HW := Lib.hid hW
 clear hD h0 q1 hW hp
 go_enter Tryz.func50, Tryz.ntmps50
 go_wp2_with fail
 rw [← HW.out]
 go_wp2_with (go_at_call 92; (with_reducible refine (has_blk HS.out Q1.out s 0).mono ?_); rw [HE.out]; rintro e w' ⟨rfl, rfl⟩)
 go_ret
 exact ⟨rfl, by rw [HW.out]; exact below_alloc (Below.refl _ _) _⟩
def eraseE (D : PD) (s : Int) : Int := if hasB D.s s 0 then 0 else 6
def erasedD (D : PD) (s : Int) : PD := if hasB D.s s 0 then eraseD D s else D
theorem Erase_any (hD : DevIs N0 p D ok w) (s : Int) (hm : D.dirty.length < 1000000) :
  Calls Tryz.prog 50 #[.pointer (some ⟨p, 0, none⟩), .int .i64 s] w fun e w' => e = .returned (.int .i64 (eraseE D s)) ∧ DevIs N0 p (erasedD D s) (fun k => ok k ∨ w.heap.size ≤ k) w' ∧ Upd (Mut ok w) w w' := by
 cases h0 : hasB D.s s 0 with
 | true =>
  rw [eraseE, erasedD, if_pos h0, if_pos h0]
  exact Erase_ok hD s h0 hm
 | false =>
  rw [eraseE, erasedD, if_neg (by rw [h0]; decide), if_neg (by rw [h0]; decide)]
  exact (Erase_no hD s h0).mono fun e w' ⟨h1, h2⟩ => ⟨h1, (hD.below h2).mono (fun _ h => .inl h), Upd.ofBelow h2 _⟩
end
end Go.Proofs.YtmbiebdcnadhkaaGreat.Fl
namespace Go.Proofs.YtmbiebdcnadhkaaGreat.Fl
open Go.RowKit Go.Proofs.YtmbiebdcnadhkaaGreatW.PrintWords Go.Proofs.YtmbiebdcnadhkaaGreatW.PrintMore Go.Maps
structure PlanT where
 keep : Int
 torn : Int
 cut : Int
theorem C_take {α : Type} {d : Kd α} {w : World} {A : Option Addr} {n : Nat} {l : List α} (h : d.C w A n l) (i : Nat) (hi : i ≤ n) : d.C w A i (l.take i) := by
 obtain ⟨h1, h2, h3⟩ := h
 refine ⟨by rw [List.length_take]; omega, by omega, fun hp => ?_⟩
 obtain ⟨ad, e, hc⟩ := h3 (by omega)
 refine ⟨ad, e, fun j p hj => hc j p ?_⟩
 rw [List.getElem?_take] at hj
 split at hj
 ·exact hj
 ·cases hj
section
variable {N0 p : Nat} {D : PD} {ok : Nat → Prop} {w : World}
attribute [local go_sem] max_two max2_int min_two min2_int
end
end Go.Proofs.YtmbiebdcnadhkaaGreat.Fl
namespace Go.Proofs.YtmbiebdcnadhkaaGreat.Fl
open Go.RowKit Go.Proofs.YtmbiebdcnadhkaaGreatW.PrintWords Go.Proofs.YtmbiebdcnadhkaaGreatW.PrintMore Go.Maps
def shapeB (s : Int × Int × Int) : Bool := fitsB s.1 1 16 && fitsB s.2.1 1 64 && fitsB s.2.2 16 256
theorem shapeB_ok {s : Int × Int × Int} (h : shapeB s = true) : ShapeOk s := by
 simp [shapeB, fitsB] at h
 exact ⟨by omega, by omega, by omega, by omega, by omega, by omega⟩
theorem Ents.empty (N0 : Nat) (ok : Nat → Prop) (w : World) : Ents N0 ok w [] [] := trivial
set_option maxHeartbeats 1000000 in
set_option maxRecDepth 100000 in
theorem New_ok (s : Int × Int × Int) (h : shapeB s = true) (w : World) (N0 : Nat) (hN : N0 ≤ w.heap.size) : Calls Tryz.prog 43 #[.agg #[.int .i64 s.1, .int .i64 s.2.1, .int .i64 s.2.2]] w fun e w' => ∃ p, e = .returned (.tuple #[.pointer (some ⟨p, 0, none⟩), .int .i64 0]) ∧ DevIs N0 p ⟨s, [], []⟩ (fun k => w.heap.size ≤ k) w' ∧ Below w.heap.size w w' := by
 have hR : ∀ W, Calls Tryz.prog 82 #[.agg #[.int .i64 s.1, .int .i64 s.2.1, .int .i64 s.2.2]] W fun e w' => e = .returned (.bool true) ∧ Below W.heap.size W w' := fun W => by have := Right_any s W; rw [← shapeB, h] at this; exact this
 have HR := Lib.hid hR
 have HS := Lib.hid (shapeB_ok h)
 have HN := Lib.hid hN
 have hmm := @run_makeMap Tryz.prog
 clear hR h hN
 go_enter Tryz.func43, Tryz.ntmps43
 go_wp2_with (go_at_call 82; (with_reducible refine (HR.out _).mono ?_); rintro e w1 ⟨rfl, hb⟩; have hbx : w1.heap[w.heap.size]? = some (.cells #[.int .i64 s.1, .int .i64 s.2.1, .int .i64 s.2.2] 23 (0, 0)) := (hb.block _ (by simp)).trans (blk_new w _); have b0 : w1.cell? ⟨w.heap.size, 0, none⟩ = some (.int .i64 s.1) := bcell hbx 0; have b1 : w1.cell? ⟨w.heap.size, 1, none⟩ = some (.int .i64 s.2.1) := bcell hbx 1; have b2 : w1.cell? ⟨w.heap.size, 2, none⟩ = some (.int .i64 s.2.2) := bcell hbx 2; have HB := Aside0.mk (below_then (below_alloc (Below.refl _ _) _) (by simp) hb); clear hb hbx)
 go_ret2
 have h1 := HB.out.size
 have h2 := HN.out
 refine ⟨w1.heap.size + 1, rfl, ⟨w1.heap.size, .slice none 0 0, #[], 0, by omega, Nat.le_succ_of_le h1, ?_, h1, by omega, ?_, Ents.empty _ _ _, Kd.R_nil _ _ _ _ _, HS.out, by simp, List.Pairwise.nil, by simp⟩, ?_⟩
 ·have := blk_new (w1.alloc (.map #[] 0)) (.cells #[.int .i64 s.1, .int .i64 s.2.1, .int .i64 s.2.2, .map (some w1.heap.size), .slice none 0 0] TD (0, 0))
  simpa using this
 ·exact (Below.heap_alloc _ _ _ (by simp)).trans (blk_new w1 _)
 ·exact (HB.out.alloc h1 _).alloc (by simp; omega) _
end Go.Proofs.YtmbiebdcnadhkaaGreat.Fl
namespace Go.Proofs.YtmbiebdcnadhkaaGreat.Fl
open Go.RowKit Go.Proofs.YtmbiebdcnadhkaaGreatW.PrintWords Go.Proofs.YtmbiebdcnadhkaaGreatW.PrintMore Go.Maps
abbrev PgC := Adr × Value × Bool
def flatP : List PgC → List Value
 | [] => []
 | q :: l => .int .i64 q.1.1 :: .int .i64 q.1.2 :: q.2.1 :: .bool q.2.2 :: flatP l
theorem flatP_length : ∀ l, (flatP l).length = l.length * 4
 | [] => rfl
 | a :: l => by simp only [flatP, List.length_cons, flatP_length l]; omega
theorem flatP_at : ∀ (l : List PgC) (i : Nat) (a : PgC), l[i]? = some a → (flatP l)[i * 4]? = some (.int .i64 a.1.1) ∧ (flatP l)[i * 4 + 1]? = some (.int .i64 a.1.2) ∧ (flatP l)[i * 4 + 2]? = some a.2.1 ∧ (flatP l)[i * 4 + 3]? = some (.bool a.2.2)
 | [], i, a, h => by simp at h
 | b :: l, 0, a, h => by
  simp at h
  subst h
  exact ⟨rfl, rfl, rfl, rfl⟩
 | b :: l, i + 1, a, h => by
  rw [List.getElem?_cons_succ] at h
  have := flatP_at l i a h
  rw [show (i + 1) * 4 = i * 4 + 1 + 1 + 1 + 1 by omega, show i * 4 + 1 + 1 + 1 + 1 + 1 = (i * 4 + 1) + 1 + 1 + 1 + 1 by omega, show i * 4 + 1 + 1 + 1 + 1 + 2 = (i * 4 + 2) + 1 + 1 + 1 + 1 by omega, show i * 4 + 1 + 1 + 1 + 1 + 3 = (i * 4 + 3) + 1 + 1 + 1 + 1 by omega]
  simp only [flatP, List.getElem?_cons_succ]
  exact this
theorem flatP_set : ∀ (l : List PgC) (i : Nat) (a : PgC) (x : Bool), l[i]? = some a → (flatP l).set (i * 4 + 3) (.bool x) = flatP (l.set i (a.1, a.2.1, x))
 | [], i, a, x, h => by simp at h
 | b :: l, 0, a, x, h => by
  simp at h
  subst h
  rfl
 | b :: l, i + 1, a, x, h => by
  rw [List.getElem?_cons_succ] at h
  rw [show (i + 1) * 4 + 3 = (i * 4 + 3) + 1 + 1 + 1 + 1 by omega]
  simp only [flatP, List.set_cons_succ, flatP_set l i a x h]
def PgRel (N0 : Nat) (ok : Nat → Prop) (w : World) : List PgC → List Pg → Prop
 | [], [] => True
 | q :: qs, p :: ps => (q.1 = p.1 ∧ q.2.2 = p.2.2 ∧ Row w N0 ok q.2.1 p.2.1) ∧ PgRel N0 ok w qs ps
 | _, _ => False
section
variable {N0 : Nat} {ok ok' : Nat → Prop} {w w' : World}
theorem PgRel.length : ∀ {qs : List PgC} {ps : List Pg}, PgRel N0 ok w qs ps → qs.length = ps.length
 | [], [], _ => rfl
 | _ :: _, _ :: _, ⟨_, h⟩ => by simp [PgRel.length h]
 | [], _ :: _, h => h.elim
 | _ :: _, [], h => h.elim
theorem PgRel.imp {N0 : Nat} {ok ok' : Nat → Prop} {w w' : World} (hR : ∀ v xs, Row w N0 ok v xs → Row w' N0 ok' v xs) : ∀ {qs : List PgC} {ps : List Pg}, PgRel N0 ok w qs ps → PgRel N0 ok' w' qs ps
 | [], [], _ => trivial
 | _ :: _, _ :: _, ⟨⟨h1, h2, h3⟩, h4⟩ => ⟨⟨h1, h2, hR _ _ h3⟩, PgRel.imp hR h4⟩
 | [], _ :: _, h => h.elim
 | _ :: _, [], h => h.elim
theorem PgRel.at : ∀ {qs : List PgC} {ps : List Pg}, PgRel N0 ok w qs ps → ∀ {i : Nat} {p : Pg}, ps[i]? = some p → ∃ v, qs[i]? = some (p.1, v, p.2.2) ∧ Row w N0 ok v p.2.1
 | [], [], _, i, p, h => by simp at h
 | q :: qs, p0 :: ps, ⟨⟨h1, h2, h3⟩, h4⟩, 0, p, h => by
  simp at h
  subst h
  obtain ⟨a, v, b⟩ := q
  simp only at h1 h2
  subst h1 h2
  exact ⟨v, rfl, h3⟩
 | q :: qs, p0 :: ps, ⟨_, h4⟩, i + 1, p, h => by
  rw [List.getElem?_cons_succ] at h ⊢
  exact PgRel.at h4 h
 | [], _ :: _, h, _, _, _ => h.elim
 | _ :: _, [], h, _, _, _ => h.elim
theorem PgRel.set : ∀ {qs : List PgC} {ps : List Pg}, PgRel N0 ok w qs ps → ∀ {i : Nat} {p : Pg} {v : Value} {x : Bool}, ps[i]? = some p → qs[i]? = some (p.1, v, p.2.2) → PgRel N0 ok w (qs.set i (p.1, v, x)) (ps.set i (p.1, p.2.1, x))
 | [], [], _, i, p, v, x, h, _ => by simp at h
 | q :: qs, p0 :: ps, ⟨⟨h1, h2, h3⟩, h4⟩, 0, p, v, x, h, hq => by
  simp at h hq
  subst h
  rw [hq] at h3
  exact ⟨⟨rfl, rfl, h3⟩, h4⟩
 | q :: qs, p0 :: ps, ⟨h1, h4⟩, i + 1, p, v, x, h, hq => by
  rw [List.getElem?_cons_succ] at h hq
  exact ⟨h1, PgRel.set h4 h hq⟩
 | [], _ :: _, h, _, _, _, _, _, _ => h.elim
 | _ :: _, [], h, _, _, _, _, _, _ => h.elim
theorem reps_P : ∀ {ps : List Pg} {inner : List Value}, Reps (kPage.M w N0 ok) 4 ps inner → ∃ qs, inner = flatP qs ∧ PgRel N0 ok w qs ps
 | [], inner, h => by
  have hl : inner.length = 0 := by have := h.1; simpa using this
  exact ⟨[], List.eq_nil_of_length_eq_zero hl, trivial⟩
 | p :: ps, inner, h => by
  have hl : inner.length = (ps.length + 1) * 4 := by simpa using h.1
  obtain ⟨c0, c1, hc, h0, h1⟩ := h.2 0 p rfl
  obtain ⟨d0, d1, hd, e0, e1⟩ := h0
  obtain ⟨f0, f1, hf, g0, g1⟩ := h1
  obtain ⟨v, hv, hrow⟩ := g0
  have e0' : d0 = [.int .i64 p.1.1] := e0
  have e1' : d1 = [.int .i64 p.1.2] := e1
  have g1' : f1 = [.bool p.2.2] := g1
  subst e0' e1' g1' hv hd hf
  have ih : Reps (kPage.M w N0 ok) 4 ps (inner.drop 4) := ⟨by rw [List.length_drop]; omega, fun j q hj => by
   have := h.2 (j + 1) q (by rw [List.getElem?_cons_succ]; exact hj)
   rw [List.drop_drop, show 4 + j * 4 = (j + 1) * 4 by omega]
   exact this⟩
  obtain ⟨qs, hq, hrel⟩ := reps_P ih
  refine ⟨(p.1, v, p.2.2) :: qs, ?_, ⟨⟨rfl, rfl, hrow⟩, hrel⟩⟩
  simp only [Nat.zero_mul, List.drop_zero] at hc
  rw [← List.take_append_drop 4 inner, hc, hq]
  rfl
theorem P_reps : ∀ {ps : List Pg} {qs : List PgC}, PgRel N0 ok w qs ps → Reps (kPage.M w N0 ok) 4 ps (flatP qs)
 | [], [], _ => Reps.none _ _
 | p :: ps, q :: qs, ⟨⟨h1, h2, h3⟩, h4⟩ => by
  have ih := P_reps h4
  refine ⟨by rw [flatP_length]; simp [h4.length], fun j x hj => ?_⟩
  cases j with
  | zero =>
   simp at hj
   subst hj
   obtain ⟨a, v, b⟩ := q
   simp only at h1 h2 h3
   subst h1 h2
   exact ⟨[.int .i64 p.1.1, .int .i64 p.1.2], [v, .bool p.2.2], rfl, ⟨[.int .i64 p.1.1], [.int .i64 p.1.2], rfl, rfl, rfl⟩, ⟨[v], [.bool p.2.2], rfl, ⟨v, rfl, h3⟩, rfl⟩⟩
  | succ j =>
   rw [List.getElem?_cons_succ] at hj
   have := ih.2 j x hj
   rw [show (j + 1) * 4 = j * 4 + 1 + 1 + 1 + 1 by omega]
   simp only [flatP, List.drop_succ_cons]
   exact this
 | [], _ :: _, h => h.elim
 | _ :: _, [], h => h.elim
structure PRow (w : World) (N0 : Nat) (ok : Nat → Prop) (g cap : Nat) (ps : List Pg) : Prop where mk' ::
 ex : ∃ (cur : Array Value) (qs : List PgC), w.heap[g]? = some (.cells cur TP (0, 0)) ∧ cur.size = cap * 4 ∧ cur.toList.take (ps.length * 4) = flatP qs ∧ PgRel N0 ok w qs ps
 le : ps.length ≤ cap
 mx : cap ≤ 9223372036854775807
variable {v : Value} {ps : List Pg} {g cap : Nat}
theorem PRow.of_R (h : kPage.R TP w N0 ok v ps) (hv : v ≠ .slice none 0 0) : ∃ g cap, v = .slice (some ⟨g, 0, none⟩) ps.length cap ∧ N0 ≤ g ∧ ok g ∧ PRow w N0 ok g cap ps := by
 obtain ⟨h0, inner, ho, hr⟩ := h
 obtain ⟨qs, rfl, hrel⟩ := reps_P hr
 rcases ho.2 with ⟨e, _⟩ | ⟨g, cap, cur, rfl, hg, hh, hle, hm, hs, ht⟩
 ·exact absurd e hv
 ·exact ⟨g, cap, rfl, hg, h0 g (by simp [Value.ownBlock]), ⟨cur, qs, hh, hs, ht, hrel.imp (fun _ _ hr => hr.mono (fun _ hk => hk.1))⟩, hle, hm⟩
theorem PRow.to_R (h : PRow w N0 ok g cap ps) (hg : N0 ≤ g) (ho : ok g) : kPage.R TP w N0 ok (.slice (some ⟨g, 0, none⟩) ps.length cap) ps := by
 obtain ⟨cur, qs, hh, hs, ht, hrel⟩ := h.ex
 refine ⟨fun k hk => ?_, flatP qs, ⟨by rw [flatP_length, hrel.length]; rfl, .inr ⟨g, cap, cur, rfl, hg, hh, h.le, h.mx, hs, ht⟩⟩, P_reps (hrel.imp (fun _ _ hr => hr.bound.mono (fun k hk => ⟨hk.1, fun e => ?_⟩)))⟩
 ·have : g = k := by simpa [Value.ownBlock] using hk
  exact this ▸ ho
 ·obtain ⟨_, _, _, q, hq, cs, hc⟩ := hk
  have : k = g := by simpa [Value.ownBlock] using e
  subst this
  obtain rfl : q = TB := by simpa using hq
  exact typ_ne hh hc (by decide) rfl
theorem PRow.lt (h : PRow w N0 ok g cap ps) : g < w.heap.size := by
 obtain ⟨cur, _, hh, _⟩ := h.ex
 exact blt hh
theorem PRow.step (h : PRow w N0 ok g cap ps) (hg : w'.heap[g]? = w.heap[g]?) (hm : ∀ k, ok k → k < w.heap.size → w'.heap[k]? = w.heap[k]?) : PRow w' N0 ok g cap ps := by
 obtain ⟨cur, qs, hh, hs, ht, hrel⟩ := h.ex
 exact ⟨⟨cur, qs, hg.trans hh, hs, ht, hrel.imp (fun _ _ hr => hr.step hm)⟩, h.le, h.mx⟩
theorem PRow.below (h : PRow w N0 ok g cap ps) (hb : Below w.heap.size w w') : PRow w' N0 ok g cap ps := h.step (hb.block g h.lt) (fun k _ hlt => hb.block k hlt)
structure PCell (w : World) (N0 : Nat) (ok : Nat → Prop) (g i : Nat) (p : Pg) (A : Option Addr) (c : Nat) : Prop where
 c0 : w.cell? ⟨g, i * 4, none⟩ = some (.int .i64 p.1.1)
 c1 : w.cell? ⟨g, i * 4 + 1, none⟩ = some (.int .i64 p.1.2)
 c2 : w.cell? ⟨g, i * 4 + 2, none⟩ = some (.slice A p.2.1.length c)
 c3 : w.cell? ⟨g, i * 4 + 3, none⟩ = some (.bool p.2.2)
 f : ∀ j, w.frozen? ⟨g, j, none⟩ = false
 row : Row w N0 ok (.slice A p.2.1.length c) p.2.1
theorem PRow.cell (h : PRow w N0 ok g cap ps) {i : Nat} {p : Pg} (hi : ps[i]? = some p) : ∃ A c, PCell w N0 ok g i p A c := by
 obtain ⟨cur, qs, hh, hs, ht, hrel⟩ := h.ex
 have hl := (List.getElem?_eq_some_iff.1 hi).1
 obtain ⟨v, hq, hrow⟩ := hrel.at hi
 obtain ⟨A, c, rfl, _⟩ := hrow.reads
 have hf := flatP_at qs i _ hq
 rw [← ht, List.getElem?_take, List.getElem?_take, List.getElem?_take, List.getElem?_take, if_pos (by omega), if_pos (by omega), if_pos (by omega), if_pos (by omega)] at hf
 refine ⟨A, c, ?_, ?_, ?_, ?_, fun j => bfrozen hh _, hrow⟩
 ·rw [bcell hh]; simpa using hf.1
 ·rw [bcell hh]; simpa using hf.2.1
 ·rw [bcell hh]; simpa using hf.2.2.1
 ·rw [bcell hh]; simpa using hf.2.2.2
theorem PRow.setDirty (h : PRow w N0 ok g cap ps) {i : Nat} {p : Pg} (hi : ps[i]? = some p) (x : Bool) : PRow (w.setCell ⟨g, i * 4 + 3, none⟩ (.bool x)) N0 ok g cap (ps.set i (p.1, p.2.1, x)) := by
 obtain ⟨cur, qs, hh, hs, ht, hrel⟩ := h.ex
 have hl := (List.getElem?_eq_some_iff.1 hi).1
 obtain ⟨v, hq, hrow⟩ := hrel.at hi
 refine ⟨⟨_, qs.set i (p.1, v, x), bset hh _ _, by simp [hs], ?_, ?_⟩, by simpa using h.le, h.mx⟩
 ·rw [List.length_set, ← flatP_set qs i _ x hq, ← ht]
  simp only [Array.toList_setIfInBounds]
  rw [List.take_set]
 ·exact (hrel.set hi hq).imp (fun _ _ hr => hr.typed (fun k cs hk _ => Below.heap_setCell _ _ _ _ (not_typ hh (by decide) hk)))
theorem kPage_mk {base : Nat} (a b : Int) {v : Value} {l : List Int} (x : Bool) (h : Row w base ok v l) : kPage.M w base ok ((a, b), l, x) [.int .i64 a, .int .i64 b, v, .bool x] :=
 ⟨[.int .i64 a, .int .i64 b], [v, .bool x], rfl, ⟨[.int .i64 a], [.int .i64 b], rfl, rfl, rfl⟩, ⟨[v], [.bool x], rfl, ⟨v, rfl, h⟩, rfl⟩⟩
end
end Go.Proofs.YtmbiebdcnadhkaaGreat.Fl
namespace Go.Proofs.YtmbiebdcnadhkaaGreat.Fl
open Go.RowKit Go.Proofs.YtmbiebdcnadhkaaGreatW.PrintWords Go.Proofs.YtmbiebdcnadhkaaGreatW.PrintMore Go.Maps
section
variable {N0 x : Nat} {s : Int × Int × Int} {ps : List Pg} {ok : Nat → Prop} {w : World}
theorem hasB_iff (s : Int × Int × Int) (a b : Int) : hasB s a b = true ↔ (0 ≤ a ∧ a < s.1 ∧ 0 ≤ b ∧ b < s.2.1) := by
 simp [hasB, fitsB]
 omega
set_option maxHeartbeats 1000000 in
set_option maxRecDepth 100000 in
theorem RHas_any (hX : RefIs N0 x s ps ok w) (a b : Int) : Calls Tryz.prog 100 #[.pointer (some ⟨x, 0, none⟩), .int .i64 a, .int .i64 b] w fun e w' => e = .returned (.bool (hasB s a b)) ∧ w = w' := by
 obtain ⟨_, _, v, hx, _⟩ := hX
 have c0 : w.cell? ⟨x, 0, none⟩ = some (.int .i64 s.1) := bcell hx 0
 have c1 : w.cell? ⟨x, 1, none⟩ = some (.int .i64 s.2.1) := bcell hx 1
 obtain ⟨r, hr⟩ : ∃ r, r = hasB s a b := ⟨_, rfl⟩
 have hi := hasB_iff s a b
 rw [← hr] at hi
 rw [← hr]
 have HI := Lib.hid hi
 clear hx hi hr
 by_cases h1 : 0 ≤ a
 ·by_cases h2 : a < s.1
  ·by_cases h3 : 0 ≤ b
   ·by_cases h4 : b < s.2.1
    ·go_enter Tryz.func100, Tryz.ntmps100
     go_wp2
     go_ret
     exact ⟨by rw [HI.out.2 ⟨h1, h2, h3, h4⟩]; first | rfl | (simp [h4]; done), rfl⟩
    ·have hr : r = false := by cases hq : r with | false => rfl | true => exact absurd (HI.out.1 hq).2.2.2 h4
     have HR := Lib.hid hr
     clear hr
     go_enter Tryz.func100, Tryz.ntmps100
     go_wp2
     go_ret
     exact ⟨by rw [HR.out]; first | rfl | (simp [h4]; done), rfl⟩
   ·have hr : r = false := by cases hq : r with | false => rfl | true => exact absurd (HI.out.1 hq).2.2.1 h3
    have HR := Lib.hid hr
    have e1 : decide (0 ≤ b) = false := by simpa using h3
    clear hr
    go_enter Tryz.func100, Tryz.ntmps100
    go_wp2
    go_ret
    exact ⟨by rw [HR.out]; rfl, rfl⟩
  ·have hr : r = false := by cases hq : r with | false => rfl | true => exact absurd (HI.out.1 hq).2.1 h2
   have HR := Lib.hid hr
   have e1 : decide (a < s.1) = false := by simpa using h2
   clear hr
   go_enter Tryz.func100, Tryz.ntmps100
   go_wp2
   go_ret
   exact ⟨by rw [HR.out]; rfl, rfl⟩
 ·have hr : r = false := by cases hq : r with | false => rfl | true => exact absurd (HI.out.1 hq).1 h1
  have HR := Lib.hid hr
  have e1 : decide (0 ≤ a) = false := by simpa using h1
  clear hr
  go_enter Tryz.func100, Tryz.ntmps100
  go_wp2
  go_ret
  exact ⟨by rw [HR.out]; rfl, rfl⟩
def atB (a b : Int) (p : Pg) : Bool := decide (p.1.1 = a) && decide (p.1.2 = b)
def findI (a b : Int) (ps : List Pg) : Int := idxI (atB a b) ps
set_option maxHeartbeats 2000000 in
set_option maxRecDepth 100000 in
theorem RFind_any (hX : RefIs N0 x s ps ok w) (hl : ps.length < 1000000) (a b : Int) : Calls Tryz.prog 64 #[.pointer (some ⟨x, 0, none⟩), .int .i64 a, .int .i64 b] w fun e w' => e = .returned (.int .i64 (findI a b ps)) ∧ Below w.heap.size w w' := by
 obtain ⟨_, _, v, hx, hR⟩ := hX
 obtain ⟨A, c, rfl⟩ := Kd.R_slice hR
 obtain ⟨n, hn⟩ : ∃ n, n = ps.length := ⟨_, rfl⟩
 have k1 : w.cell? ⟨x, 3, none⟩ = some (.slice A n c) := by rw [hn]; exact bcell hx 3
 have HR1 : Hid (0 < n → ∃ g, A = some ⟨g, 0, none⟩ ∧ PRow w N0 ok g c ps) := Lib.hid (fun h => by
  obtain ⟨g, cap, e, _, _, hr⟩ := PRow.of_R hR (fun e => by
   injection e with _ h2 _
   omega)
  injection e with e1 e2 e3
  subst e3
  exact ⟨g, e1, hr⟩)
 have HN := Lib.hid hn
 rw [← hn] at hl
 clear hx hR hn
 go_enter Tryz.func64, Tryz.ntmps64
 go_wp2
 go_loopw [14] (fun v14 wr => ∃ k : Nat, k ≤ n ∧ v14 = .int .i64 (k : Int) ∧ Below w.heap.size w wr ∧ ∀ j p, j < k → ps[j]? = some p → atB a b p = false) (fun v14 _ => n - (intOf v14).toNat)
 case atStart => exact ⟨0, Nat.zero_le _, rfl, Below.refl _ _, fun j p hj => by omega⟩
 case round =>
  obtain ⟨k, hk, rfl, hb, hpre⟩ := hrel
  have HB := Aside0.mk hb
  have HPRE := Lib.hid hpre
  clear hb hpre
  by_cases hlt : k < n
  ·obtain ⟨p, hp⟩ : ∃ p, ps[k]? = some p := ⟨_, List.getElem?_eq_getElem (by have := HN.out; omega)⟩
   obtain ⟨g, rfl, hrow⟩ := HR1.out (by omega)
   obtain ⟨A1, c1, hc⟩ := (hrow.below HB.out).cell hp
   have d0 := hc.c0; have d1 := hc.c1; have d2 := hc.c2; have d3 := hc.c3
   obtain ⟨⟨pa, pb⟩, pl, px⟩ := p
   simp only at d0 d1 d2 d3
   have HP := Lib.hid hp
   have k0 : (0 : Int) ≤ (k : Int) := by omega
   have k2 : (k : Int) < (n : Int) := by omega
   clear hc hp hrow
   have hfin : ∀ W', Below w.heap.size w W' → atB a b ((pa, pb), pl, px) = false → (∃ k_1 : Nat, k_1 ≤ n ∧ Value.int .i64 ((k : Int) + 1) = .int .i64 (k_1 : Int) ∧ Below w.heap.size w W' ∧ ∀ j p, j < k_1 → ps[j]? = some p → atB a b p = false) := fun W' hW h0 => ⟨k + 1, by omega, by go_num, hW, fun j p hj hpj => by
    rcases Nat.lt_or_ge j k with h2 | h2
    ·exact HPRE.out j p h2 hpj
    ·obtain rfl : j = k := by omega
     rw [HP.out] at hpj
     rw [← Option.some.inj hpj]
     exact h0⟩
   have HFIN := Lib.hid hfin
   clear hfin
   by_cases e1 : pa = a
   ·by_cases e2 : pb = b
    ·have q1 : (pa == a) = true := by simp [e1]
     have q2 : (pb == b) = true := by simp [e2]
     have HF := Lib.hid (show findI a b ps = (k : Int) by rw [findI, idxI, idxOf_some HP.out (by simp [atB, e1, e2]) HPRE.out])
     clear e1 e2
     go_wp2
     go_ret
     exact ⟨by rw [HF.out]; rfl, below_alloc HB.out _⟩
    ·have q1 : (pa == a) = true := by simp [e1]
     have q2 : (pb == b) = false := by simp [e2]
     have HQ := Lib.hid (show atB a b ((pa, pb), pl, px) = false by simp [atB, e2])
     clear e1 e2
     go_wp2
     exact ⟨HFIN.out _ (below_alloc HB.out _) HQ.out, by simp [intOf]; omega⟩
   ·have q1 : (pa == a) = false := by simp [e1]
    have HQ := Lib.hid (show atB a b ((pa, pb), pl, px) = false by simp [atB, e1])
    clear e1
    go_wp2
    exact ⟨HFIN.out _ (below_alloc HB.out _) HQ.out, by simp [intOf]; omega⟩
  ·obtain rfl : k = n := by omega
   have hf : findI a b ps = -1 := by
    rw [findI, idxI, idxOf_none (fun p hp => ?_)]
    obtain ⟨j, hj, e⟩ := List.getElem_of_mem hp
    exact HPRE.out j p (by have := HN.out; omega) (by rw [← e, List.getElem?_eq_getElem hj])
   have HF := Lib.hid hf
   clear hf
   go_wp2
   go_ret
   exact ⟨by rw [HF.out]; rfl, HB.out⟩
end
end Go.Proofs.YtmbiebdcnadhkaaGreat.Fl
namespace Go.Proofs.YtmbiebdcnadhkaaGreat.Fl
open Go.RowKit Go.Proofs.YtmbiebdcnadhkaaGreatW.PrintWords Go.Proofs.YtmbiebdcnadhkaaGreatW.PrintMore Go.Maps
def fullT (n : Nat) (b : List Int) : List Int := full n (b.take n)
theorem fullT_length (n : Nat) (b : List Int) : (fullT n b).length = n := full_length (by rw [List.length_take]; omega)
theorem fullT_lt {n k : Nat} {b : List Int} (hk : k < n) (hb : k < b.length) : (fullT n b).take (k + 1) = (fullT n b).take k ++ [rd b (k : Int)] := by
 rw [List.take_add_one]
 congr 1
 unfold fullT full
 rw [List.getElem?_append_left (by rw [List.length_take]; omega), List.getElem?_take, if_pos hk, List.getElem?_eq_getElem hb]
 simp [rd, hb]
theorem fullT_ge {n k : Nat} {b : List Int} (hk : k < n) (hb : b.length ≤ k) : (fullT n b).take (k + 1) = (fullT n b).take k ++ [255] := by
 rw [List.take_add_one]
 congr 1
 unfold fullT full
 rw [List.getElem?_append_right (by rw [List.length_take]; omega), List.getElem?_replicate, if_pos (by rw [List.length_take]; omega)]
 rfl
theorem fullT_full {n : Nat} {b : List Int} (h : b.length ≤ n) : fullT n b = full n b := by rw [fullT, List.take_of_length_le h]
theorem info_u8 : (Tryz.prog.info? TB).map (fun i => (i.zero, i.size, i.bytes)) = some (some (.int .u8 0), 1, 1) := by kernel_rfl
theorem C_cell {w : World} {A : Option Addr} {n : Nat} {l : List Int} (h : kB.C w A n l) (i : Nat) (hi : i < n) :
  ∃ ad, A = some ad ∧ w.cell? (ad.add i) = some (.int .u8 (rd l (i : Int))) := by
 have h' := (Kd.reads_of_C (d := (0 : Int)) h).at_ (i : Int) (by omega) (by omega)
 simpa [rdOf, rd] using h'
section
variable {N0 x : Nat} {s : Int × Int × Int} {ps : List Pg} {ok : Nat → Prop} {w : World}
set_option maxHeartbeats 2000000 in
set_option maxRecDepth 100000 in
theorem RFull_any (hX : RefIs N0 x s ps ok w) (hs : ShapeOk s) (A : Option Addr) (c : Nat) (b : List Int) (hb : kB.C w A b.length b) (hl : b.length < 1000000) :
  Calls Tryz.prog 98 #[.pointer (some ⟨x, 0, none⟩), .slice A b.length c] w fun e w' => ∃ v, e = .returned v ∧ kB.R TB w' w.heap.size (fun k => w.heap.size ≤ k) v (fullT s.2.2.toNat b) ∧ Below w.heap.size w w' := by
 obtain ⟨_, _, v, hx, _⟩ := hX
 obtain ⟨n, hn⟩ : ∃ n : Nat, s.2.2 = (n : Int) := ⟨s.2.2.toNat, by have := hs.c0; omega⟩
 have hn1 : n ≤ 256 := by have := hs.c1; omega
 rw [hn] at hx
 rw [hn]
 simp only [Int.toNat_natCast]
 have HX := Lib.hid hx
 have HB := Aside0.mk hb
 obtain ⟨bl, hbl⟩ : ∃ bl, bl = b.length := ⟨_, rfl⟩
 have HBL := Lib.hid hbl
 rw [← hbl] at hl
 rw [← hbl]
 have bl2 : (bl : Int) < 1000000 := by omega
 have hn2 : (n : Int) ≤ 256 := by omega
 clear hx hb hn hs hbl
 go_enter Tryz.func98, Tryz.ntmps98
 go_wp2
 go_loopw [5, 6] (fun v5 v6 wr => ∃ k : Nat, k ≤ n ∧ v6 = .int .i64 (k : Int) ∧ Below w.heap.size w wr ∧ kB.R TB wr w.heap.size (fun j => w.heap.size ≤ j) v5 ((fullT n b).take k)) (fun _ v6 _ => n - (intOf v6).toNat)
 case atStart => exact ⟨0, Nat.zero_le _, rfl, Below.refl _ _, Kd.R_nil _ _ _ _ _⟩
 case round =>
  obtain ⟨k, hk, rfl, hb1, hR⟩ := hrel
  have HB1 := Aside0.mk hb1
  have HR := Aside0.mk hR
  have hx1 : wr.cell? ⟨x, 2, none⟩ = some (.int .i64 (n : Int)) := bcell ((hb1.block x (blt HX.out)).trans HX.out) 2
  have k0 : (0 : Int) ≤ (k : Int) := by omega
  have htk : ((fullT n b).take k).length = k := by rw [List.length_take, fullT_length]; omega
  have HTK := Lib.hid htk
  clear hb1 hR htk
  by_cases hlt : k < n
  ·have k1 : (k : Int) < (n : Int) := by omega
   by_cases hkb : k < bl
   ·have k2 : (k : Int) < (bl : Int) := by omega
    obtain ⟨ad, rfl, hcb⟩ := C_cell (Kd.C_below HB.out HB1.out) k (by have := HBL.out; omega)
    have HT := Lib.hid (fullT_lt hlt (show k < b.length by have := HBL.out; omega))
    go_wp2_with (at_builtin; refine Kd.R_append kB (w0 := w) w.heap.size rfl (.tmp 20) (.tmp 25) 25 TB (.int .u8 0) 1 rfl Tryz.underlying25 info_u8 rfl (by decide) (by decide) _ ((fullT n b).take k) (rd b (k : Int)) [.int .u8 (rd b (k : Int))] (fun j => w.heap.size ≤ j) (fun _ => False) rfl rfl rfl (fun _ h => h.elim) (fun j hj => Nat.le_trans HB1.out.size hj) HR.out HB1.out HB1.out.size (by rw [HTK.out]; omega) ?_; intro v1 w1 hr1 hb2 hg hat; have HR1 := Aside0.mk hr1; have HB2 := Aside0.mk hb2; clear hr1 hb2 hg hat)
    exact ⟨⟨k + 1, by omega, by go_num, HB2.out, by rw [HT.out]; exact HR1.out⟩, by simp [intOf]; omega⟩
   ·have k2 : ¬ (k : Int) < (bl : Int) := by omega
    have k3 : decide ((k : Int) < (bl : Int)) = false := by simpa using k2
    have HT := Lib.hid (fullT_ge (b := b) hlt (by have := HBL.out; omega))
    go_wp2_with (at_builtin; refine Kd.R_append kB (w0 := w) w.heap.size rfl (.tmp 27) (.tmp 28) 25 TB (.int .u8 0) 1 rfl Tryz.underlying25 info_u8 rfl (by decide) (by decide) _ ((fullT n b).take k) 255 [.int .u8 255] (fun j => w.heap.size ≤ j) (fun _ => False) rfl rfl rfl (fun _ h => h.elim) (fun j hj => Nat.le_trans HB1.out.size hj) HR.out HB1.out HB1.out.size (by rw [HTK.out]; omega) ?_; intro v1 w1 hr1 hb2 hg hat; have HR1 := Aside0.mk hr1; have HB2 := Aside0.mk hb2; clear hr1 hb2 hg hat)
    exact ⟨⟨k + 1, by omega, by go_num, HB2.out, by rw [HT.out]; exact HR1.out⟩, by simp [intOf]; omega⟩
  ·obtain rfl : k = n := by omega
   go_wp2
   go_ret
   refine ⟨_, rfl, ?_, HB1.out⟩
   have := HR.out
   rw [List.take_of_length_le (by rw [fullT_length]; exact Nat.le_refl _)] at this
   exact this
def readP (n : Nat) (a b : Int) (ps : List Pg) : List Int := match ps.find? (atB a b) with | some p => p.2.1 | none => fullT n []
theorem find_idx {α : Type} (q : α → Bool) : ∀ (l : List α), l.find? q = (idxOf q l).bind (fun i => l[i]?)
 | [] => rfl
 | a :: l => by
  unfold idxOf
  rw [List.find?_cons]
  cases h : q a with
  | true => simp
  | false =>
   simp only [Bool.false_eq_true, if_false]
   rw [find_idx q l]
   cases idxOf q l <;> simp
theorem find_none {α : Type} {q : α → Bool} {l : List α} (h : idxI q l = -1) : l.find? q = none := by
 rw [find_idx]
 unfold idxI at h
 cases hi : idxOf q l with
 | none => rfl
 | some i => rw [hi] at h; simp only at h; omega
theorem find_some {α : Type} {q : α → Bool} {l : List α} {i : Nat} {a : α} (h : idxI q l = (i : Int)) (ha : l[i]? = some a) : l.find? q = some a := by
 rw [find_idx]
 unfold idxI at h
 cases hi : idxOf q l with
 | none => rw [hi] at h; simp only at h; omega
 | some j =>
  rw [hi] at h
  simp only at h
  obtain rfl : j = i := by omega
  simpa using ha
set_option maxHeartbeats 2000000 in
set_option maxRecDepth 100000 in
theorem RRead_any (hX : RefIs N0 x s ps ok w) (hs : ShapeOk s) (hl : ps.length < 1000000) (a b : Int) :
  Calls Tryz.prog 62 #[.pointer (some ⟨x, 0, none⟩), .int .i64 a, .int .i64 b] w fun e w' => ∃ v, e = .returned v ∧ Row w' N0 (fun k => ok k ∨ w.heap.size ≤ k) v (readP s.2.2.toNat a b ps) ∧ Below w.heap.size w w' := by
 have hcall := RFind_any hX hl a b
 have HX := Aside0.mk hX
 have hN : N0 ≤ w.heap.size := by
  obtain ⟨h1, _, v, hx, _⟩ := hX
  exact Nat.le_of_lt (Nat.lt_of_le_of_lt h1 (blt hx))
 have HN := Lib.hid hN
 have HS := Lib.hid hs
 rcases idxI_spec (atB a b) ps with ⟨e1, e2⟩ | ⟨i, p, e1, e2, e3, e4⟩
 ·have h0 : findI a b ps = -1 := e1
  rw [h0] at hcall
  have HC := Aside0.mk hcall
  have HQ := Lib.hid (show readP s.2.2.toNat a b ps = fullT s.2.2.toNat [] by rw [readP, find_none e1])
  clear hX hcall e1 e2 h0 hl hN hs
  go_enter Tryz.func62, Tryz.ntmps62
  go_wp2_with (first | (go_at_call 64; (with_reducible refine HC.out.mono ?_); rintro e w1 ⟨rfl, hb⟩; have HB := Aside0.mk hb; clear hb) | (go_at_call 98; refine (RFull_any (HX.out.below HB.out) HS.out none 0 [] (Kd.C_nil _ _) (by simp)).mono ?_; rintro e w2 ⟨v2, rfl, hr2, hb2⟩; have HR2 := Aside0.mk hr2; have HB2 := Aside0.mk hb2; clear hr2 hb2))
  go_ret
  have hs1 := HB.out.size
  exact ⟨_, rfl, by rw [HQ.out]; exact ((Row.ofR HR2.out).lower (Nat.le_trans HN.out hs1)).mono (fun k hk => .inr (Nat.le_trans hs1 hk)), HB.out.trans (HB2.out.mono hs1)⟩
 ·have h0 : findI a b ps = (i : Int) := e1
  rw [h0] at hcall
  have HC := Aside0.mk hcall
  have HQ := Lib.hid (show readP s.2.2.toNat a b ps = p.2.1 by rw [readP, find_some e1 e2])
  obtain ⟨n, hn⟩ : ∃ n, n = ps.length := ⟨_, rfl⟩
  have hin : i < n := by rw [hn]; exact (List.getElem?_eq_some_iff.1 e2).1
  obtain ⟨_, _, v, hx, hR⟩ := hX
  obtain ⟨g, cap, rfl, hg, ho, hrow⟩ := PRow.of_R hR (fun e => by
   subst e
   obtain ⟨A, c, he⟩ := Kd.R_slice hR
   injection he with _ h2 _
   omega)
  rw [← hn] at hx
  have HXB := Lib.hid hx
  have HR := Aside0.mk hrow
  have HE := Lib.hid e2
  have i0 : (0 : Int) ≤ (i : Int) := by omega
  have i1 : (i : Int) < (n : Int) := by omega
  have i2 : ¬ ((i : Int) < 0) := by omega
  clear hx hR hrow hcall e1 e2 e3 e4 h0 hl hn hin hN hs
  go_enter Tryz.func62, Tryz.ntmps62
  go_wp2_with (go_at_call 64; (with_reducible refine HC.out.mono ?_); rintro e w1 ⟨rfl, hb⟩; have hx1 : w1.cell? ⟨x, 3, none⟩ = some (.slice (some ⟨g, 0, none⟩) n cap) := bcell ((hb.block x (blt HXB.out)).trans HXB.out) 3; obtain ⟨A1, c1, hc⟩ := (HR.out.below hb).cell HE.out; have d2 := hc.c2; have HRW := Aside0.mk hc.row; have HB := Aside0.mk hb; clear hb hc)
  go_ret
  exact ⟨_, rfl, by rw [HQ.out]; exact HRW.out.mono (fun _ h => .inl h), HB.out⟩
end
end Go.Proofs.YtmbiebdcnadhkaaGreat.Fl
namespace Go.Proofs.YtmbiebdcnadhkaaGreat.Fl
open Go.RowKit Go.Proofs.YtmbiebdcnadhkaaGreatW.PrintWords Go.Proofs.YtmbiebdcnadhkaaGreatW.PrintMore Go.Maps
theorem info_page : (Tryz.prog.info? TP).map (fun i => (i.zero, i.size, i.bytes)) = some (some (.agg #[.int .i64 0, .int .i64 0, .slice none 0 0, .bool false]), 4, 48) := by kernel_rfl
theorem page_app {W : World} {N0 : Nat} {ok : Nat → Prop} {v : Value} {L : List Pg} (hR : kPage.R TP W N0 ok v L) {A : Option Addr} {c : Nat} {l : List Int} (hrow : Row W N0 ok (.slice A l.length c) l) (a b : Int) (x : Bool) :
  ∃ okp : Nat → Prop, kPage.M W N0 okp ((a, b), l, x) [.int .i64 a, .int .i64 b, .slice A l.length c, .bool x] ∧ ∀ k, okp k → ok k ∧ some k ≠ v.ownBlock := by
 refine ⟨_, kPage_mk a b x hrow.bound, fun k hk => ⟨hk.1, fun e => ?_⟩⟩
 obtain ⟨_, _, _, q, hq, cs, hc⟩ := hk
 obtain rfl : q = TB := by simpa using hq
 obtain ⟨cs', hc'⟩ := own_typed (Kd.R_own hR).choose_spec k e.symm
 exact typ_ne hc hc' (by decide) rfl
section
variable {N0 x : Nat} {s : Int × Int × Int} {ps : List Pg} {ok : Nat → Prop} {w : World}
theorem ref_open (hX : RefIs N0 x s ps ok w) : ∃ A c, w.heap[x]? = some (.cells #[.int .i64 s.1, .int .i64 s.2.1, .int .i64 s.2.2, .slice A ps.length c] TX (0, 0)) ∧ (0 < ps.length → ∃ g, A = some ⟨g, 0, none⟩ ∧ N0 ≤ g ∧ ok g ∧ PRow w N0 ok g c ps) ∧ kPage.R TP w N0 ok (.slice A ps.length c) ps := by
 obtain ⟨_, _, v, hx, hR⟩ := hX
 obtain ⟨A, c, rfl⟩ := Kd.R_slice hR
 refine ⟨A, c, hx, fun h => ?_, hR⟩
 obtain ⟨g, cap, e, h1, h2, hr⟩ := PRow.of_R hR (fun e => by
  injection e with _ h2 _
  omega)
 injection e with e1 e2 e3
 subst e3
 exact ⟨g, e1, h1, h2, hr⟩
def dirtyN (ps : List Pg) : Nat := (ps.filter (fun p => p.2.2)).length
theorem dirtyN_snoc (ps : List Pg) (p : Pg) : dirtyN (ps ++ [p]) = dirtyN ps + if p.2.2 then 1 else 0 := by
 unfold dirtyN
 rw [List.filter_append, List.length_append]
 cases h : p.2.2 <;> simp [h]
theorem dirtyN_le (ps : List Pg) : dirtyN ps ≤ ps.length := List.length_filter_le _ _
set_option maxHeartbeats 2000000 in
set_option maxRecDepth 100000 in
theorem RDirty_any (hX : RefIs N0 x s ps ok w) (hl : ps.length < 1000000) : Calls Tryz.prog 59 #[.pointer (some ⟨x, 0, none⟩)] w fun e w' => e = .returned (.int .i64 (dirtyN ps : Int)) ∧ Below w.heap.size w w' := by
 obtain ⟨A, c, hx, hrow, hR⟩ := ref_open hX
 obtain ⟨n, hn⟩ : ∃ n, n = ps.length := ⟨_, rfl⟩
 rw [← hn] at hx hrow hl
 have k1 : w.cell? ⟨x, 3, none⟩ = some (.slice A n c) := bcell hx 3
 have HR1 := Lib.hid hrow
 have HN := Lib.hid hn
 clear hx hrow hn hX hR
 go_enter Tryz.func59, Tryz.ntmps59
 go_wp2
 go_loopw [3, 11] (fun v3 v11 wr => ∃ k : Nat, k ≤ n ∧ v11 = .int .i64 (k : Int) ∧ v3 = .int .i64 (dirtyN (ps.take k) : Int) ∧ Below w.heap.size w wr) (fun _ v11 _ => n - (intOf v11).toNat)
 case atStart => exact ⟨0, Nat.zero_le _, rfl, rfl, Below.refl _ _⟩
 case round =>
  obtain ⟨k, hk, rfl, rfl, hb⟩ := hrel
  have HB := Aside0.mk hb
  have hle := dirtyN_le (ps.take k)
  have hle2 : (ps.take k).length ≤ k := List.length_take_le _ _
  obtain ⟨dn, hdn⟩ : ∃ dn, dn = dirtyN (ps.take k) := ⟨_, rfl⟩
  rw [← hdn] at hle
  have hd1 : dn ≤ k := by omega
  have HDN := Lib.hid hdn
  rw [← hdn]
  clear hb hle hle2 hdn
  by_cases hlt : k < n
  ·obtain ⟨p, hp⟩ : ∃ p, ps[k]? = some p := ⟨_, List.getElem?_eq_getElem (by have := HN.out; omega)⟩
   obtain ⟨g, rfl, _, _, hrow⟩ := HR1.out (by omega)
   obtain ⟨A1, c1, hc⟩ := (hrow.below HB.out).cell hp
   have d0 := hc.c0; have d1 := hc.c1; have d2 := hc.c2; have d3 := hc.c3
   have ht : dirtyN (ps.take (k + 1)) = dn + if p.2.2 then 1 else 0 := by
    rw [HDN.out, ← dirtyN_snoc, List.take_add_one, hp]
    rfl
   obtain ⟨⟨pa, pb⟩, pl, px⟩ := p
   simp only at d0 d1 d2 d3 ht
   have HT := Lib.hid ht
   have k0 : (0 : Int) ≤ (k : Int) := by omega
   have k2 : (k : Int) < (n : Int) := by omega
   clear hc hp hrow ht
   cases px with
   | true =>
    go_wp2
    exact ⟨⟨k + 1, by omega, by go_num, by rw [HT.out]; go_num, below_alloc HB.out _⟩, by simp [intOf]; omega⟩
   | false =>
    go_wp2
    exact ⟨⟨k + 1, by omega, by go_num, by rw [HT.out]; rfl, below_alloc HB.out _⟩, by simp [intOf]; omega⟩
  ·obtain rfl : k = n := by omega
   go_wp2
   go_ret
   have : dn = dirtyN ps := by rw [HDN.out, List.take_of_length_le (by have := HN.out; omega)]
   exact ⟨by rw [← this]; rfl, HB.out⟩
def syncP (ps : List Pg) : List Pg := ps.map (fun p => (p.1, p.2.1, false))
theorem ref_end {w1 : World} {v1 : Value} {L : List Pg} {ok' : Nat → Prop} (h0 : N0 ≤ x) (ho : ok' x) {u : Value} (hx : w1.heap[x]? = some (.cells #[.int .i64 s.1, .int .i64 s.2.1, .int .i64 s.2.2, u] TX (0, 0))) (hR : kPage.R TP w1 N0 ok' v1 L) : RefIs N0 x s L ok' (w1.setCell ⟨x, 3, none⟩ v1) := by
 refine ⟨h0, ho, v1, by rw [bset hx]; rfl, R_typed hR (fun k cs q hq hc _ => Below.heap_setCell _ _ _ _ (not_typ hx ?_ hc))⟩
 have : q = TP ∨ q = TB := by simpa [kPage, kAddr, kData, Kd.pair, Kd.int, Kd.bool, Kd.scalar] using hq
 rcases this with rfl | rfl <;> decide
def eraseP (a : Int) (ps : List Pg) : List Pg := ps.filter (fun p => p.1.1 != a)
theorem eraseP_snoc (a : Int) (ps : List Pg) (p : Pg) : eraseP a (ps ++ [p]) = if p.1.1 != a then eraseP a ps ++ [p] else eraseP a ps := by
 unfold eraseP
 rw [List.filter_append]
 cases h : (p.1.1 != a) <;> simp [h]
set_option maxHeartbeats 2000000 in
set_option maxRecDepth 100000 in
theorem RErase_any (hX : RefIs N0 x s ps ok w) (hl : ps.length < 1000000) (a : Int) : Calls Tryz.prog 97 #[.pointer (some ⟨x, 0, none⟩), .int .i64 a] w fun e w' => e = .returned (.tuple #[]) ∧ RefIs N0 x s (eraseP a ps) (fun k => ok k ∨ w.heap.size ≤ k) w' ∧ Upd (Mut ok w) w w' := by
 obtain ⟨A, c, hx, hrow, hR⟩ := ref_open hX
 have hN : N0 ≤ w.heap.size := Nat.le_of_lt (Nat.lt_of_le_of_lt hX.base (blt hx))
 obtain ⟨n, hn⟩ : ∃ n, n = ps.length := ⟨_, rfl⟩
 rw [← hn] at hx hrow hl
 have k1 : w.cell? ⟨x, 3, none⟩ = some (.slice A n c) := bcell hx 3
 have HR1 := Lib.hid hrow
 have HN := Lib.hid hn
 have HX := Lib.hid hx
 have HXX := Aside0.mk hX
 have HN0 := Lib.hid hN
 clear hx hrow hn hX hR hN
 go_enter Tryz.func97, Tryz.ntmps97
 go_wp2
 go_loopw [4, 12] (fun v4 v12 wr => ∃ k : Nat, k ≤ n ∧ v12 = .int .i64 (k : Int) ∧ Below w.heap.size w wr ∧ kPage.R TP wr N0 (fun j => ok j ∨ w.heap.size ≤ j) v4 (eraseP a (ps.take k)) ∧ ∀ j, v4.ownBlock = some j → w.heap.size ≤ j) (fun _ v12 _ => n - (intOf v12).toNat)
 case atStart => exact ⟨0, Nat.zero_le _, rfl, Below.refl _ _, Kd.R_nil _ _ _ _ _, fun j hj => by simp [Value.ownBlock] at hj⟩
 case round =>
  obtain ⟨k, hk, rfl, hb, hR, hown⟩ := hrel
  obtain ⟨A4, c4, rfl⟩ := Kd.R_slice hR
  have HB := Aside0.mk hb
  have HR := Aside0.mk hR
  have HO := Lib.hid hown
  have hln : (eraseP a (ps.take k)).length ≤ k := Nat.le_trans (List.length_filter_le _ _) (List.length_take_le _ _)
  obtain ⟨L, hL⟩ : ∃ L, L = eraseP a (ps.take k) := ⟨_, rfl⟩
  rw [← hL] at HR HO hln
  have HL := Lib.hid hL
  rw [← hL]
  clear hb hR hown hL
  by_cases hlt : k < n
  ·obtain ⟨p, hp⟩ : ∃ p, ps[k]? = some p := ⟨_, List.getElem?_eq_getElem (by have := HN.out; omega)⟩
   obtain ⟨g, rfl, _, _, hrow⟩ := HR1.out (by omega)
   obtain ⟨A1, c1, hc⟩ := (hrow.below HB.out).cell hp
   have d0 := hc.c0; have d1 := hc.c1; have d2 := hc.c2; have d3 := hc.c3
   have HROW := Aside0.mk hc.row
   have ht : eraseP a (ps.take (k + 1)) = if p.1.1 != a then L ++ [p] else L := by
    rw [HL.out, ← eraseP_snoc, List.take_add_one, hp]
    rfl
   obtain ⟨⟨pa, pb⟩, pl, px⟩ := p
   simp only at d0 d1 d2 d3 ht HROW
   have HT := Lib.hid ht
   have k0 : (0 : Int) ≤ (k : Int) := by omega
   have k2 : (k : Int) < (n : Int) := by omega
   clear hc hp hrow ht
   cases e1 : (pa != a) with
   | true =>
    have hR2 := Kd.R_below HR.out (below_alloc (Below.refl _ wr) (.cells #[.int .i64 pa, .int .i64 pb, .slice A1 pl.length c1, .bool px] TP (0, 0)))
    obtain ⟨okp, hM, hokp⟩ := page_app hR2 ((HROW.out.below (below_alloc (Below.refl _ wr) (.cells #[.int .i64 pa, .int .i64 pb, .slice A1 pl.length c1, .bool px] TP (0, 0)))).mono (fun k hk => .inl hk)) pa pb px
    have HR2 := Aside0.mk hR2
    have HM := Aside0.mk hM
    have HOK := Lib.hid hokp
    have HB2 := Aside0.mk (below_alloc HB.out (.cells #[.int .i64 pa, .int .i64 pb, .slice A1 pl.length c1, .bool px] TP (0, 0)))
    clear hR2 hM hokp
    go_wp2_with (at_builtin; refine Kd.R_append kPage (w0 := w) N0 rfl (.tmp 21) (.tmp 23) 60 TP (.agg #[.int .i64 0, .int .i64 0, .slice none 0 0, .bool false]) 48 rfl Tryz.underlying60 info_page rfl (by decide) (by decide) (.slice A4 L.length c4) L ((pa, pb), pl, px) [.int .i64 pa, .int .i64 pb, .slice A1 pl.length c1, .bool px] (fun j => ok j ∨ w.heap.size ≤ j) okp rfl (by simp [Act.eval]) HM.out HOK.out (fun j hj => .inr (Nat.le_trans HB2.out.size hj)) HR2.out (HB2.out.mono HN0.out) (Nat.le_trans HN0.out HB2.out.size) (by omega) ?_; intro v1 w1 hr1 _ hg hat; have HR3 := Aside0.mk hr1; have HG := Aside0.mk hg; have HAT := Lib.hid hat; clear hr1 hg hat)
    have hb3 : Below w.heap.size w w1 := HB2.out.grown HG.out HB2.out.size HO.out
    refine ⟨⟨k + 1, by omega, by go_num, hb3, by rw [HT.out, if_pos e1]; exact HR3.out, fun j hj => ?_⟩, by simp [intOf]; omega⟩
    rcases HAT.out with h2 | ⟨b, h2, h3⟩
    ·exact HO.out j (by rw [← h2]; exact hj)
    ·have : b = j := by rw [h2] at hj; exact Option.some.inj hj
     have h5 : w.heap.size ≤ b := Nat.le_trans HB2.out.size h3
     omega
   | false =>
    go_wp2
    exact ⟨⟨k + 1, by omega, by go_num, below_alloc HB.out _, by rw [HT.out, if_neg (by rw [e1]; decide)]; exact Kd.R_below HR.out (below_alloc (Below.refl _ _) _), HO.out⟩, by simp [intOf]; omega⟩
  ·obtain rfl : k = n := by omega
   have b1 := (HB.out.block x (blt HX.out)).trans HX.out
   have e3 : wr.cell? ⟨x, 3, none⟩ = some (.slice A k c) := bcell b1 3
   have f3 : wr.frozen? ⟨x, 3, none⟩ = false := bfrozen b1 3
   have B1 := Lib.hid b1
   clear b1
   go_wp2
   go_end0
   have hL2 : L = eraseP a ps := by rw [HL.out, List.take_of_length_le (by have := HN.out; omega)]
   refine ⟨rfl, by rw [← hL2]; exact ref_end HXX.out.base (.inl HXX.out.okx) B1.out HR.out, (Upd.ofBelow HB.out _).trans (Upd.setCell wr (p := ⟨x, 3, none⟩) (mut_of HXX.out.okx HX.out (by decide)) _) (fun _ h _ => h)⟩
theorem syncP_take (ps : List Pg) (k : Nat) {p : Pg} (hp : ps[k]? = some p) : (syncP (ps.take k) ++ ps.drop k).set k (p.1, p.2.1, false) = syncP (ps.take (k + 1)) ++ ps.drop (k + 1) := by
 have hk := (List.getElem?_eq_some_iff.1 hp).1
 have hl : (syncP (ps.take k)).length = k := by simp [syncP]; omega
 rw [List.set_append, if_neg (by omega), hl, Nat.sub_self]
 have hd : ps.drop k = p :: ps.drop (k + 1) := by
  rw [List.drop_eq_getElem_cons hk]
  congr 1
  rw [List.getElem?_eq_getElem hk] at hp
  exact Option.some.inj hp
 rw [hd, List.set_cons_zero, List.take_add_one, hp]
 simp [syncP]
set_option maxHeartbeats 2000000 in
set_option maxRecDepth 100000 in
theorem RSync_any (hX : RefIs N0 x s ps ok w) (hl : ps.length < 1000000) : Calls Tryz.prog 57 #[.pointer (some ⟨x, 0, none⟩)] w fun e w' => e = .returned (.tuple #[]) ∧ RefIs N0 x s (syncP ps) ok w' ∧ Upd (Mut ok w) w w' := by
 obtain ⟨A, c, hx, hrow, hR⟩ := ref_open hX
 obtain ⟨n, hn⟩ : ∃ n, n = ps.length := ⟨_, rfl⟩
 rw [← hn] at hx hrow hl
 have k1 : w.cell? ⟨x, 3, none⟩ = some (.slice A n c) := bcell hx 3
 have HR1 := Lib.hid hrow
 have HN := Lib.hid hn
 have HX := Lib.hid hx
 have HXX := Aside0.mk hX
 have HRN : Aside0 (kPage.R TP w N0 ok (.slice A n c) ps) := Aside0.mk (by rw [hn]; exact hR)
 have hxm : Mut ok w x := mut_of hX.okx hx (by decide)
 have HXM := Lib.hid hxm
 clear hx hrow hn hX hR hxm
 go_enter Tryz.func57, Tryz.ntmps57
 go_wp2
 go_loopw [8] (fun v8 wr => ∃ k : Nat, k ≤ n ∧ v8 = .int .i64 (k : Int) ∧ Upd (Mut ok w) w wr ∧ wr.heap[x]? = some (.cells #[.int .i64 s.1, .int .i64 s.2.1, .int .i64 s.2.2, .slice A n c] TX (0, 0)) ∧ kPage.R TP wr N0 ok (.slice A n c) (syncP (ps.take k) ++ ps.drop k)) (fun v8 _ => n - (intOf v8).toNat)
 case atStart => exact ⟨0, Nat.zero_le _, rfl, Upd.refl _ _, HX.out, HRN.out⟩
 case round =>
  obtain ⟨k, hk, rfl, hu, hx2, hpr⟩ := hrel
  have HU := Aside0.mk hu
  have HX2 := Lib.hid hx2
  have HPR := Lib.hid hpr
  have e1 : wr.cell? ⟨x, 3, none⟩ = some (.slice A n c) := bcell hx2 3
  clear hu hx2 hpr
  by_cases hlt : k < n
  ·obtain ⟨p, hp⟩ : ∃ p, ps[k]? = some p := ⟨_, List.getElem?_eq_getElem (by have := HN.out; omega)⟩
   obtain ⟨g, rfl, hg1, hg2, hrow0⟩ := HR1.out (by omega)
   have hrow : PRow wr N0 ok g c (syncP (ps.take k) ++ ps.drop k) := by
    obtain ⟨g', cap', e, _, _, hr⟩ := PRow.of_R HPR.out (by simp)
    injection e with e1 e2 e3
    injection e1 with e1
    injection e1 with e1
    subst e1 e3
    exact hr
   have hp2 : (syncP (ps.take k) ++ ps.drop k)[k]? = some p := by
    have hl2 : (syncP (ps.take k)).length = k := by have := HN.out; simp [syncP]; omega
    rw [List.getElem?_append_right (by omega), hl2, Nat.sub_self, List.getElem?_drop]
    exact hp
   obtain ⟨A1, c1, hc⟩ := hrow.cell hp2
   have d3 := hc.c3
   have f3 := hc.f (k * 4 + 3)
   have hset := hrow.setDirty hp2 false
   rw [syncP_take ps k hp] at hset
   have HSET := Aside0.mk hset
   have hxg : x ≠ g := by
    obtain ⟨cur, qs, hh, _⟩ := hrow0.ex
    exact typ_ne HX.out hh (by decide)
   have HGM : Hid (Mut ok w g) := Lib.hid (by
    obtain ⟨cur, qs, hh, _⟩ := hrow0.ex
    exact mut_of hg2 hh (by decide))
   have k0 : (0 : Int) ≤ (k : Int) := by omega
   have k2 : (k : Int) < (n : Int) := by omega
   have HXG := Lib.hid hxg
   have HG1 := Lib.hid hg1
   have HG2 := Lib.hid hg2
   clear hc hp hrow hp2 hset hrow0 hg1 hg2 hxg
   go_wp2
   refine ⟨⟨k + 1, by omega, by go_num, HU.out.trans (Upd.setCell wr (p := ⟨g, k * 4 + 3, none⟩) HGM.out _) (fun _ h _ => h), ?_, ?_⟩, by simp [intOf]; omega⟩
   ·rw [Below.heap_setCell _ _ _ _ HXG.out]
    exact HX2.out
   ·have hr := HSET.out.to_R HG1.out HG2.out
    have hl3 : (syncP (ps.take (k + 1)) ++ ps.drop (k + 1)).length = n := by have := HN.out; simp [syncP]; omega
    rw [hl3] at hr
    exact hr
  ·obtain rfl : k = n := by omega
   go_wp2
   go_end0
   have hr := HPR.out
   rw [List.take_of_length_le (by have := HN.out; omega), List.drop_eq_nil_of_le (by have := HN.out; omega), List.append_nil] at hr
   exact ⟨rfl, ⟨HXX.out.base, HXX.out.okx, _, HX2.out, hr⟩, HU.out⟩
end
end Go.Proofs.YtmbiebdcnadhkaaGreat.Fl
namespace Go.Proofs.YtmbiebdcnadhkaaGreat.Fl
open Go.RowKit Go.Proofs.YtmbiebdcnadhkaaGreatW.PrintWords Go.Proofs.YtmbiebdcnadhkaaGreatW.PrintMore Go.Maps
theorem shapeB_iff (s : Int × Int × Int) : shapeB s = true ↔ (1 ≤ s.1 ∧ s.1 ≤ 16 ∧ 1 ≤ s.2.1 ∧ s.2.1 ≤ 64 ∧ 16 ≤ s.2.2 ∧ s.2.2 ≤ 256) := by
 simp [shapeB, fitsB]
 omega
set_option maxHeartbeats 2000000 in
set_option maxRecDepth 100000 in
theorem RShape_any (s : Int × Int × Int) (w : World) : Calls Tryz.prog 52 #[.agg #[.int .i64 s.1, .int .i64 s.2.1, .int .i64 s.2.2]] w fun e w' => e = .returned (.bool (shapeB s)) ∧ Below w.heap.size w w' := by
 obtain ⟨r, hr⟩ : ∃ r, r = shapeB s := ⟨_, rfl⟩
 have hi := shapeB_iff s
 rw [← hr] at hi ⊢
 have HI := Lib.hid hi
 clear hi hr
 obtain ⟨s1, s2, s3⟩ := s
 simp only at HI ⊢
 by_cases h0 : 1 ≤ s1
 ·skip
  by_cases h1 : s1 ≤ 16
  ·skip
   by_cases h2 : 1 ≤ s2
   ·skip
    by_cases h3 : s2 ≤ 64
    ·skip
     by_cases h4 : 16 ≤ s3
     ·skip
      by_cases h5 : s3 ≤ 256
      ·go_enter Tryz.func52, Tryz.ntmps52
       go_wp2
       go_ret
       exact ⟨by rw [HI.out.2 ⟨h0, h1, h2, h3, h4, h5⟩]; first | rfl | (simp [h5]; done), below_alloc (Below.refl _ _) _⟩
      ·have hr : r = false := by cases hq : r with | false => rfl | true => exact absurd (HI.out.1 hq).2.2.2.2.2 h5
       have HR := Lib.hid hr
       have e1 : decide (s3 ≤ 256) = false := by simpa using h5
       clear hr
       go_enter Tryz.func52, Tryz.ntmps52
       go_wp2
       go_ret
       exact ⟨by rw [HR.out]; first | rfl | (simp [h5]; done), below_alloc (Below.refl _ _) _⟩
     ·have hr : r = false := by cases hq : r with | false => rfl | true => exact absurd (HI.out.1 hq).2.2.2.2.1 h4
      have HR := Lib.hid hr
      have e1 : decide (16 ≤ s3) = false := by simpa using h4
      clear hr
      go_enter Tryz.func52, Tryz.ntmps52
      go_wp2
      go_ret
      exact ⟨by rw [HR.out]; first | rfl | (simp [h4]; done), below_alloc (Below.refl _ _) _⟩
    ·have hr : r = false := by cases hq : r with | false => rfl | true => exact absurd (HI.out.1 hq).2.2.2.1 h3
     have HR := Lib.hid hr
     have e1 : decide (s2 ≤ 64) = false := by simpa using h3
     clear hr
     go_enter Tryz.func52, Tryz.ntmps52
     go_wp2
     go_ret
     exact ⟨by rw [HR.out]; first | rfl | (simp [h3]; done), below_alloc (Below.refl _ _) _⟩
   ·have hr : r = false := by cases hq : r with | false => rfl | true => exact absurd (HI.out.1 hq).2.2.1 h2
    have HR := Lib.hid hr
    have e1 : decide (1 ≤ s2) = false := by simpa using h2
    clear hr
    go_enter Tryz.func52, Tryz.ntmps52
    go_wp2
    go_ret
    exact ⟨by rw [HR.out]; first | rfl | (simp [h2]; done), below_alloc (Below.refl _ _) _⟩
  ·have hr : r = false := by cases hq : r with | false => rfl | true => exact absurd (HI.out.1 hq).2.1 h1
   have HR := Lib.hid hr
   have e1 : decide (s1 ≤ 16) = false := by simpa using h1
   clear hr
   go_enter Tryz.func52, Tryz.ntmps52
   go_wp2
   go_ret
   exact ⟨by rw [HR.out]; first | rfl | (simp [h1]; done), below_alloc (Below.refl _ _) _⟩
 ·have hr : r = false := by cases hq : r with | false => rfl | true => exact absurd (HI.out.1 hq).1 h0
  have HR := Lib.hid hr
  have e1 : decide (1 ≤ s1) = false := by simpa using h0
  clear hr
  go_enter Tryz.func52, Tryz.ntmps52
  go_wp2
  go_ret
  exact ⟨by rw [HR.out]; first | rfl | (simp [h0]; done), below_alloc (Below.refl _ _) _⟩
section
variable {N0 x : Nat} {s : Int × Int × Int} {ps : List Pg} {ok : Nat → Prop} {w : World}
def rwE (s : Int × Int × Int) (ps : List Pg) (a b : Int) (l : List Int) : Int := if hasB s a b = false then 6 else if s.2.2 < (l.length : Int) then 10 else if 0 ≤ findI a b ps then 7 else 0
def rwP (s : Int × Int × Int) (ps : List Pg) (a b : Int) (l : List Int) : List Pg := if rwE s ps a b l = 0 then ps ++ [((a, b), full s.2.2.toNat l, true)] else ps
theorem rwE_cases (s : Int × Int × Int) (ps : List Pg) (a b : Int) (l : List Int) : (hasB s a b = false ∧ rwE s ps a b l = 6) ∨ (hasB s a b = true ∧ s.2.2 < (l.length : Int) ∧ rwE s ps a b l = 10) ∨ (hasB s a b = true ∧ (l.length : Int) ≤ s.2.2 ∧ 0 ≤ findI a b ps ∧ rwE s ps a b l = 7) ∨ (hasB s a b = true ∧ (l.length : Int) ≤ s.2.2 ∧ findI a b ps < 0 ∧ rwE s ps a b l = 0) := by
 cases h1 : hasB s a b with
 | false => exact .inl ⟨rfl, by simp [rwE, h1]⟩
 | true =>
  by_cases h2 : s.2.2 < (l.length : Int)
  ·exact .inr (.inl ⟨rfl, h2, by simp [rwE, h1, h2]⟩)
  ·by_cases h3 : 0 ≤ findI a b ps
   ·exact .inr (.inr (.inl ⟨rfl, by omega, h3, by simp [rwE, h1, h2, h3]⟩))
   ·exact .inr (.inr (.inr ⟨rfl, by omega, by omega, by simp [rwE, h1, h2, h3]⟩))
theorem rw_mid {w1 w2 : World} {A0 A2 : Option Addr} {n0 c0 c2 : Nat} {L : List Int} (hb1 : Below w.heap.size w w1) (hb2 : Below w1.drew.heap.size w1.drew w2) (hR : kPage.R TP w1 N0 ok (.slice A0 n0 c0) ps) (hr2 : kB.R TB w2 w1.drew.heap.size (fun k => w1.drew.heap.size ≤ k) (.slice A2 L.length c2) L) (hN : N0 ≤ w.heap.size) (a b : Int) :
  ∃ okp : Nat → Prop, kPage.M w2 N0 okp ((a, b), L, true) [.int .i64 a, .int .i64 b, .slice A2 L.length c2, .bool true] ∧ ∀ k, okp k → (ok k ∨ w.heap.size ≤ k) ∧ some k ≠ (Value.slice A0 n0 c0).ownBlock := by
 have hs := hb1.size
 exact page_app (Kd.R_mono (Kd.R_below hR (undrew hb2)) (fun _ h => .inl h)) (((Row.ofR hr2).lower (Nat.le_trans hN hs)).mono (fun k hk => .inr (Nat.le_trans hs hk))) a b true
theorem rw_keep {w1 w2 w3 : World} {A0 : Option Addr} {n0 c0 : Nat} {o : Array Value} (hR : kPage.R TP w1 N0 ok (.slice A0 n0 c0) ps) (hx : w1.heap[x]? = some (.cells o TX (0, 0))) (hb2 : Below w1.heap.size w1 w2) (hg : w2.grownBy w3 (Value.slice A0 n0 c0).ownBlock) : w3.heap[x]? = some (.cells o TX (0, 0)) := by
 have h2 : w2.heap[x]? = some (.cells o TX (0, 0)) := (hb2.block x (blt hx)).trans hx
 refine (hg.block x (blt h2) (fun e => ?_)).trans h2
 obtain ⟨cs', hc'⟩ := own_typed (Kd.R_own hR).choose_spec x e.symm
 exact typ_ne hx hc' (by decide) rfl
set_option maxHeartbeats 2000000 in
set_option maxRecDepth 100000 in
theorem RWrite_any (hX : RefIs N0 x s ps ok w) (hs : ShapeOk s) (hl : ps.length < 1000000) (a b : Int) (A : Option Addr) (c : Nat) (l : List Int) (hb : kB.C w A l.length l) :
  Calls Tryz.prog 70 #[.pointer (some ⟨x, 0, none⟩), .int .i64 a, .int .i64 b, .slice A l.length c] w fun e w' => e = .returned (.int .i64 (rwE s ps a b l)) ∧ RefIs N0 x s (rwP s ps a b l) (fun k => ok k ∨ w.heap.size ≤ k) w' ∧ Upd (Mut ok w) w w' := by
 have hfind := RFind_any hX hl a b
 obtain ⟨A0, c0, hx, hrow, hR⟩ := ref_open hX
 have HX := Lib.hid hx
 have HXX := Aside0.mk hX
 have HS := Lib.hid hs
 have HRR := Aside0.mk hR
 have HF := Aside0.mk hfind
 have HB := Aside0.mk hb
 have k2 : w.cell? ⟨x, 2, none⟩ = some (.int .i64 s.2.2) := bcell hx 2
 have hsame : ∀ w', Below w.heap.size w w' → rwE s ps a b l ≠ 0 → RefIs N0 x s (rwP s ps a b l) (fun k => ok k ∨ w.heap.size ≤ k) w' ∧ Upd (Mut ok w) w w' := fun w' h1 h2 => ⟨by rw [rwP, if_neg h2]; exact (hX.below h1).mono (fun _ h => .inl h), Upd.ofBelow h1 _⟩
 have HSM := Lib.hid hsame
 clear hfind hx hrow hR hs hb hX hsame
 rcases rwE_cases s ps a b l with ⟨h1, h2⟩ | ⟨h1, h2, h3⟩ | ⟨h1, h2, h3, h4⟩ | ⟨h1, h2, h3, h4⟩
 ·have HW := Lib.hid h2
  have HH := Lib.hid h1
  clear h1 h2
  go_enter Tryz.func70, Tryz.ntmps70
  go_wp2_with (go_at_call 100; (with_reducible refine (RHas_any HXX.out a b).mono ?_); rw [HH.out]; rintro e w' ⟨rfl, rfl⟩)
  go_ret
  exact ⟨by rw [HW.out]; rfl, HSM.out _ (Below.refl _ _) (by rw [HW.out]; decide)⟩
 ·have HW := Lib.hid h3
  have HH := Lib.hid h1
  clear h1 h3
  go_enter Tryz.func70, Tryz.ntmps70
  go_wp2_with (go_at_call 100; (with_reducible refine (RHas_any HXX.out a b).mono ?_); rw [HH.out]; rintro e w' ⟨rfl, rfl⟩)
  go_ret
  exact ⟨by rw [HW.out]; rfl, HSM.out _ (Below.refl _ _) (by rw [HW.out]; decide)⟩
 ·have HW := Lib.hid h4
  have HH := Lib.hid h1
  obtain ⟨r, hr⟩ : ∃ r, r = findI a b ps := ⟨_, rfl⟩
  rw [← hr] at HF h3
  clear h1 h4 hr
  go_enter Tryz.func70, Tryz.ntmps70
  go_wp2_with (first | (go_at_call 100; (with_reducible refine (RHas_any HXX.out a b).mono ?_); rw [HH.out]; rintro e w' ⟨rfl, rfl⟩) | (go_at_call 64; (with_reducible refine HF.out.mono ?_); rintro e w1 ⟨rfl, hb1⟩; have HB1 := Aside0.mk hb1; clear hb1))
  go_ret
  exact ⟨by rw [HW.out]; rfl, HSM.out _ HB1.out (by rw [HW.out]; decide)⟩
 ·have HW := Lib.hid h4
  have HH := Lib.hid h1
  obtain ⟨r, hr⟩ : ∃ r, r = findI a b ps := ⟨_, rfl⟩
  rw [← hr] at HF h3
  have h5 : decide (0 ≤ r) = false := by simp; omega
  clear h1 h4 hr
  go_enter Tryz.func70, Tryz.ntmps70
  go_wp2_with (first | (go_at_call 100; (with_reducible refine (RHas_any HXX.out a b).mono ?_); rw [HH.out]; rintro e w' ⟨rfl, rfl⟩) | (go_at_call 64; (with_reducible refine HF.out.mono ?_); rintro e w1 ⟨rfl, hb1⟩; have HB1 := Aside0.mk hb1; clear hb1))
  have hx1 : w1.heap[x]? = some (.cells #[.int .i64 s.1, .int .i64 s.2.1, .int .i64 s.2.2, .slice A0 ps.length c0] TX (0, 0)) := (HB1.out.block x (blt HX.out)).trans HX.out
  have hxd : RefIs N0 x s ps ok w1.drew := (HXX.out.below HB1.out).below ((Below.refl _ w1).drew)
  have hbd : kB.C w1.drew A l.length l := Kd.C_below (Kd.C_below HB.out HB1.out) ((Below.refl _ w1).drew)
  have hrd : kPage.R TP w1 N0 ok (.slice A0 ps.length c0) ps := Kd.R_below HRR.out HB1.out
  obtain ⟨n0, hn0⟩ : ∃ n0, n0 = ps.length := ⟨_, rfl⟩
  rw [← hn0] at hx1 hrd hl
  have HX1 := Lib.hid hx1
  have HXD := Aside0.mk hxd
  have HBD := Aside0.mk hbd
  have HRD := Aside0.mk hrd
  have HN0 := Lib.hid hn0
  have k1 : w1.cell? ⟨x, 3, none⟩ = some (.slice A0 n0 c0) := bcell hx1 3
  have hc1 := HS.out.c1
  have hc0 := HS.out.c0
  have hl2 : l.length < 1000000 := by omega
  have hNw : N0 ≤ w.heap.size := Nat.le_of_lt (Nat.lt_of_le_of_lt HXX.out.base (blt HX.out))
  have HNW := Lib.hid hNw
  have HL2 := Lib.hid hl2
  clear hx1 hxd hbd hrd hn0 hc1 hc0 hl2 hNw k2
  go_region_law (first
   | (refine Go.Proofs.YtmbiebdcnadhkaaGreatW.PrintLast.goes_ (N := some 37) Tryz.func98 (by kernel_rfl) rfl #[.pointer (some ⟨x, 0, none⟩), .slice A l.length c] (by rfl) rfl rfl (by simp [Act.eval, Act.put]) ?_; refine (RFull_any HXD.out HS.out A c l HBD.out HL2.out).mono ?_; rintro e w2 ⟨v2, rfl, hr2, hb2⟩; refine ⟨_, rfl, ?_⟩; obtain ⟨A2, c2, rfl⟩ := Kd.R_slice hr2; obtain ⟨okp, hM, hokp⟩ := rw_mid HB1.out hb2 HRD.out hr2 HNW.out a b; have k3 : w2.cell? ⟨x, 3, none⟩ = some (.slice A0 n0 c0) := bcell (((undrew hb2).block x (blt HX1.out)).trans HX1.out) 3; have k5 : (w2.alloc (.cells #[.int .i64 a, .int .i64 b, .slice A2 (fullT s.2.2.toNat l).length c2, .bool true] TP)).cell? ⟨x, 3, none⟩ = some (.slice A0 n0 c0) := (World.cell?_alloc_lt w2 _ _ (blt_of_cell k3)).trans k3; have HB2 := Aside0.mk (undrew hb2); have HM := Aside0.mk hM; have HOK := Lib.hid hokp; clear hr2 hb2 hM hokp)
   | (refine Kd.R_append_step kPage (w0 := w1) (W := w2) N0 (by rfl) (.tmp 31) (.tmp 39) 60 TP (.agg #[.int .i64 0, .int .i64 0, .slice none 0 0, .bool false]) 48 (by rfl) Tryz.underlying60 info_page rfl (by decide) (by decide) (.slice A0 n0 c0) ps ((a, b), fullT s.2.2.toNat l, true) [.int .i64 a, .int .i64 b, .slice A2 (fullT s.2.2.toNat l).length c2, .bool true] (fun k => ok k ∨ w.heap.size ≤ k) okp (by rfl) (by rfl) HM.out HOK.out (fun k hk => .inr (Nat.le_trans (Nat.le_trans HB1.out.size HB2.out.size) hk)) (Kd.R_mono (Kd.R_below HRD.out HB2.out) (fun _ h => .inl h)) (HB2.out.mono (Nat.le_trans HNW.out HB1.out.size)) (Nat.le_trans HNW.out (Nat.le_trans HB1.out.size HB2.out.size)) (by have := HN0.out; omega) ?_; intro v3 w3 hr3 hb3 hg3 hat3; obtain ⟨A3, c3, rfl⟩ := Kd.R_slice hr3; have hx3 := rw_keep HRD.out HX1.out HB2.out hg3; have k4 : w3.cell? ⟨x, 3, none⟩ = some (.slice A0 n0 c0) := bcell hx3 3; have f4 : w3.frozen? ⟨x, 3, none⟩ = false := bfrozen hx3 3; have HX3 := Lib.hid hx3; have HR3 := Aside0.mk hr3; have HG3 := Aside0.mk hg3; clear hr3 hb3 hg3 hat3 hx3))
  all_goals
   go_wp2
   go_ret
   have hfu : fullT s.2.2.toNat l = full s.2.2.toNat l := fullT_full (by omega)
   have hps : rwP s ps a b l = ps ++ [((a, b), fullT s.2.2.toNat l, true)] := by rw [rwP, if_pos HW.out, hfu]
   have hown : ∀ k, (Value.slice A0 n0 c0).ownBlock = some k → Mut ok w k := fun k hk => by
    have hr := HRR.out
    rw [← HN0.out] at hr
    obtain ⟨cs', hc'⟩ := own_typed (Kd.R_own hr).choose_spec k hk
    exact mut_of (hr.1 k hk) hc' (by decide)
   refine ⟨by rw [HW.out]; rfl, ?_, ?_⟩
   ·rw [hps]
    have hr := HR3.out
    rw [List.length_append, List.length_singleton] at hr
    exact ref_end HXX.out.base (.inl HXX.out.okx) HX3.out hr
   ·exact (((Upd.ofBelow HB1.out _).trans (Upd.ofBelow HB2.out (Mut ok w)) (fun _ h _ => h)).trans (Upd.grown HG3.out hown) (fun _ h _ => h)).trans (Upd.setCell w3 (p := ⟨x, 3, none⟩) (mut_of HXX.out.okx HX.out (by decide)) _) (fun _ h _ => h)
end
end Go.Proofs.YtmbiebdcnadhkaaGreat.Fl
namespace Go.Proofs.YtmbiebdcnadhkaaGreat.Fl
open Go.RowKit Go.Proofs.YtmbiebdcnadhkaaGreatW.PrintWords Go.Proofs.YtmbiebdcnadhkaaGreatW.PrintMore Go.Maps
section
variable {N0 x : Nat} {s : Int × Int × Int} {ps : List Pg} {ok : Nat → Prop} {w : World}
end
end Go.Proofs.YtmbiebdcnadhkaaGreat.Fl
namespace Go.Proofs.YtmbiebdcnadhkaaGreat.Fl
open Go.RowKit Go.Proofs.YtmbiebdcnadhkaaGreatW.PrintWords Go.Proofs.YtmbiebdcnadhkaaGreatW.PrintMore Go.Maps
theorem take_eq_succ {l m : List Int} {k : Nat} {a b : Int} (ha : l[k]? = some a) (hb : m[k]? = some b) (h : l.take k = m.take k) (hab : a = b) : l.take (k + 1) = m.take (k + 1) := by
 rw [List.take_add_one, List.take_add_one, ha, hb, h, hab]
set_option maxHeartbeats 2000000 in
set_option maxRecDepth 100000 in
theorem Bytes_any {w : World} {A B : Option Addr} {c d : Nat} {l m : List Int} (hl : kB.C w A l.length l) (hm : kB.C w B m.length m) (h0 : l.length < 1000000) (h1 : m.length < 1000000) :
  Calls Tryz.prog 61 #[.slice A l.length c, .slice B m.length d] w fun e w' => e = .returned (.bool (decide (l = m))) ∧ Below w.heap.size w w' := by
 obtain ⟨n, hn⟩ : ∃ n, n = l.length := ⟨_, rfl⟩
 obtain ⟨n2, hn2⟩ : ∃ n, n = m.length := ⟨_, rfl⟩
 have HL := Aside0.mk hl
 have HM := Aside0.mk hm
 have HN := Lib.hid hn
 have HN2 := Lib.hid hn2
 rw [← hn] at h0
 rw [← hn2] at h1
 rw [← hn, ← hn2]
 clear hl hm hn hn2
 by_cases hne : n = n2
 ·subst hne
  go_enter Tryz.func61, Tryz.ntmps61
  go_wp2
  go_loopw [5, 13] (fun v5 v13 wr => ∃ k : Nat, k ≤ n ∧ v13 = .int .i64 (k : Int) ∧ Below w.heap.size w wr ∧ l.take k = m.take k) (fun _ v13 _ => n - (intOf v13).toNat)
  case atStart => exact ⟨0, Nat.zero_le _, rfl, Below.refl _ _, rfl⟩
  case round =>
   obtain ⟨k, hk, rfl, hb, ht⟩ := hrel
   have HB := Aside0.mk hb
   clear hb
   have HT := Lib.hid ht
   clear ht
   by_cases hlt : k < n
   ·obtain ⟨a, ha⟩ : ∃ a, l[k]? = some a := ⟨_, List.getElem?_eq_getElem (by have := HN.out; omega)⟩
    obtain ⟨b, hb⟩ : ∃ b, m[k]? = some b := ⟨_, List.getElem?_eq_getElem (by have := HN2.out; omega)⟩
    obtain ⟨ad, hA, hca⟩ := C_cells HL.out (by have := HN.out; omega)
    obtain ⟨bd, hB, hcb⟩ := C_cells HM.out (by have := HN2.out; omega)
    have ka0 := hca k (.int .u8 a) (by simp [ha])
    have ka : wr.cell? (ad.add k) = some (.int .u8 a) := (HB.out.cell (blt_of_cell ka0)).trans ka0
    have kb0 := hcb k (.int .u8 b) (by simp [hb])
    have kb : wr.cell? (bd.add k) = some (.int .u8 b) := (HB.out.cell (blt_of_cell kb0)).trans kb0
    clear ka0 kb0
    have HA := Lib.hid ha
    have HBB := Lib.hid hb
    have k0 : (0 : Int) ≤ (k : Int) := by omega
    have k2 : (k : Int) < (n : Int) := by omega
    subst hA hB
    clear ha hb hca hcb
    go_wp2_with fail
    go_region_held3 (fun w' => w'.cell? (ad.add k) = some (.int .u8 a) ∧ w'.cell? (bd.add k) = some (.int .u8 b)) (go_keep) (fail)
    by_cases hab : a = b
    ·have e1 : (a != b) = false := by simp [hab]
     go_wp2
     exact ⟨⟨k + 1, by omega, by go_num, HB.out.drew, take_eq_succ HA.out HBB.out HT.out hab⟩, by simp [intOf]; omega⟩
    ·have e1 : (a != b) = true := by simp [hab]
     go_wp2
     go_ret
     refine ⟨?_, HB.out.drew⟩
     rw [decide_eq_false]
     ·rfl
     intro e
     have h1 := HA.out
     have h2 := HBB.out
     rw [e, h2] at h1
     exact hab (Option.some.inj h1).symm
   ·obtain rfl : k = n := by omega
    go_wp2
    go_ret
    refine ⟨?_, HB.out⟩
    have h := HT.out
    rw [List.take_of_length_le (by have := HN.out; omega), List.take_of_length_le (by have := HN2.out; omega)] at h
    rw [decide_eq_true h]
    rfl
 ·have e1 : ((n : Int) != (n2 : Int)) = true := by simp; omega
  have hlm : ¬ l = m := fun e => hne (by rw [HN.out, HN2.out, e])
  have HLM := Lib.hid hlm
  clear hlm hne
  go_enter Tryz.func61, Tryz.ntmps61
  go_wp2
  go_ret
  exact ⟨by rw [decide_eq_false HLM.out]; rfl, Below.refl _ _⟩
end Go.Proofs.YtmbiebdcnadhkaaGreat.Fl
namespace Go.Proofs.YtmbiebdcnadhkaaGreat.Fl
open Go.RowKit Go.Proofs.YtmbiebdcnadhkaaGreatW.PrintWords Go.Proofs.YtmbiebdcnadhkaaGreatW.PrintMore Go.Maps
def atA (c : Adr) (p : Pg) : Bool := decide (p.1 = c)
theorem atB_eq (a b : Int) : atB a b = atA (a, b) := by
 funext p
 obtain ⟨⟨x, y⟩, l, d⟩ := p
 simp [atB, atA]
def got (c : Adr) (ps : List Pg) : Option (List Int) := (ps.find? (atA c)).map (·.2.1)
theorem got_cons (c : Adr) (p : Pg) (ps : List Pg) : got c (p :: ps) = if p.1 = c then some p.2.1 else got c ps := by
 unfold got atA
 by_cases h : p.1 = c <;> simp [h]
theorem got_append (c : Adr) : ∀ (ps qs : List Pg), got c (ps ++ qs) = (got c ps).or (got c qs)
 | [], qs => by simp [got]
 | p :: ps, qs => by
  rw [List.cons_append, got_cons, got_cons, got_append c ps qs]
  by_cases h : p.1 = c <;> simp [h]
theorem got_none {c : Adr} {ps : List Pg} (h : ∀ p ∈ ps, p.1 ≠ c) : got c ps = none := by
 unfold got
 rw [List.find?_eq_none.2 (fun p hp => by simp [atA, h p hp])]
 rfl
theorem got_mem {c : Adr} : ∀ {ps : List Pg} {l : List Int}, got c ps = some l → ∃ p ∈ ps, p.1 = c ∧ p.2.1 = l
 | [], _, h => by simp [got] at h
 | p :: ps, l, h => by
  rw [got_cons] at h
  by_cases hp : p.1 = c
  ·rw [if_pos hp] at h
   exact ⟨p, by simp, hp, Option.some.inj h⟩
  ·rw [if_neg hp] at h
   obtain ⟨q, h1, h2⟩ := got_mem h
   exact ⟨q, by simp [h1], h2⟩
abbrev Nd (ps : List Pg) : Prop := ps.Pairwise (fun p q => p.1 ≠ q.1)
end Go.Proofs.YtmbiebdcnadhkaaGreat.Fl
namespace Go.Proofs.YtmbiebdcnadhkaaGreat.Fl
structure Sim (D : PD) (s : Int × Int × Int) (ps : List Pg) : Prop where
 sh : D.s = s
 lk : ∀ c, look c D.mp = got c ps
 dirty : D.dirty = (ps.filter (·.2.2)).map (·.1)
 nd : Nd ps
 len : ∀ p ∈ ps, p.2.1.length = s.2.2.toNat
 has : ∀ p ∈ ps, hasB s p.1.1 p.1.2 = true
theorem Sim.new (s : Int × Int × Int) : Sim { s := s, mp := [], dirty := [] } s [] := ⟨rfl, fun _ => rfl, rfl, by simp [Nd], by simp, by simp⟩
theorem idxI_cases {α : Type} (q : α → Bool) (l : List α) : idxI q l = -1 ∨ ∃ (i : Nat) (a : α), idxI q l = (i : Int) ∧ l[i]? = some a := by
 have h := find_idx q l
 unfold idxI
 cases hi : idxOf q l with
 | none => exact .inl rfl
 | some i =>
  refine .inr ⟨i, ?_⟩
  rw [hi] at h
  cases hf : l[i]? with
  | some a => exact ⟨a, rfl, rfl⟩
  | none =>
   exfalso
   clear h
   revert i
   induction l with
   | nil => intro i hi; cases hi
   | cons b l ih =>
    intro i hi hf
    unfold idxOf at hi
    split at hi
    ·cases hi; simp at hf
    ·cases hj : idxOf q l with
     | none => rw [hj] at hi; cases hi
     | some j =>
      rw [hj] at hi
      cases hi
      exact ih j hj (by simpa using hf)
theorem findI_iff (a b : Int) (ps : List Pg) : decide (0 ≤ findI a b ps) = (got (a, b) ps).isSome := by
 unfold findI got
 rw [← atB_eq]
 rcases idxI_cases (atB a b) ps with h | ⟨i, p, h, hp⟩
 ·rw [h, find_none h]; rfl
 ·rw [h, find_some h hp]; simp
variable {D : PD} {s : Int × Int × Int} {ps : List Pg}
theorem Sim.used (h : Sim D s ps) (a b : Int) : usedB D a b = decide (0 ≤ findI a b ps) := by
 rw [findI_iff, usedB, h.lk, h.sh]
 cases hg : got (a, b) ps with
 | none => simp
 | some l =>
  obtain ⟨p, hp, h1, _⟩ := got_mem hg
  have := h.has p hp
  rw [h1] at this
  simp [this]
theorem Sim.writeE (h : Sim D s ps) (a b : Int) (l : List Int) : writeE D a b l = rwE s ps a b l := by
 unfold Fl.writeE rwE
 rw [h.used, h.sh]
 simp only [decide_eq_true_eq]
theorem Sim.write (h : Sim D s ps) (a b : Int) (l : List Int) : Sim (writeD D a b l) s (rwP s ps a b l) := by
 unfold writeD rwP
 rw [h.writeE]
 split
 case isFalse => exact h
 case isTrue h0 =>
  rcases rwE_cases s ps a b l with h1 | h1 | h1 | h1
  ·omega
  ·omega
  ·omega
  ·obtain ⟨h2, h3, h4⟩ : hasB s a b = true ∧ (l.length : Int) ≤ s.2.2 ∧ ¬ 0 ≤ findI a b ps := by
    unfold rwE at h0
    split at h0
    ·omega
    ·split at h0
     ·omega
     ·split at h0
      ·omega
      ·rename_i x y z
       exact ⟨by simpa using x, by omega, z⟩
   have hg : got (a, b) ps = none := by
    have := findI_iff a b ps
    rw [decide_eq_false h4] at this
    cases hh : got (a, b) ps with
    | none => rfl
    | some x => rw [hh] at this; cases this
   have hno : ∀ p ∈ ps, p.1 ≠ (a, b) := fun p hp e => by
    unfold got at hg
    rw [Option.map_eq_none_iff, List.find?_eq_none] at hg
    exact hg p hp (by simp [atA, e])
   refine ⟨h.sh, fun c => ?_, ?_, ?_, ?_, ?_⟩
   ·show Fl.look c (put (a, b) _ D.mp) = _
    rw [look_put, got_append, h.lk, numB, h.sh]
    by_cases hc : c = (a, b)
    ·subst hc
     rw [if_pos rfl, hg]
     simp [got, atA]
    ·rw [if_neg hc]
     cases got c ps with
     | some x => rfl
     | none =>
      simp [got, atA]
      exact fun e => hc e.symm
   ·show D.dirty ++ [(a, b)] = _
    rw [h.dirty]
    simp
   ·refine List.pairwise_append.2 ⟨h.nd, by simp, fun p hp q hq => ?_⟩
    simp at hq
    rw [hq]
    exact hno p hp
   ·intro p hp
    rw [List.mem_append] at hp
    rcases hp with hp | hp
    ·exact h.len p hp
    ·simp at hp
     rw [hp]
     exact full_length (by omega)
   ·intro p hp
    rw [List.mem_append] at hp
    rcases hp with hp | hp
    ·exact h.has p hp
    ·simp at hp
     rw [hp]
     exact h2
theorem Sim.sync (h : Sim D s ps) : Sim { D with dirty := [] } s (syncP ps) := by
 have hm : ∀ p ∈ syncP ps, p.2.2 = false ∧ ∃ q ∈ ps, p.1 = q.1 ∧ p.2.1 = q.2.1 := fun p hp => by
  simp only [syncP, List.mem_map] at hp
  obtain ⟨q, hq, rfl⟩ := hp
  exact ⟨rfl, q, hq, rfl, rfl⟩
 refine ⟨h.sh, fun c => ?_, ?_, ?_, fun p hp => ?_, fun p hp => ?_⟩
 ·rw [show Fl.look c ({ D with dirty := [] } : PD).mp = Fl.look c D.mp from rfl, h.lk]
  have : ∀ ps : List Pg, got c ps = got c (syncP ps) := by
   intro ps
   induction ps with
   | nil => rfl
   | cons p ps ih =>
    show _ = got c ((p.1, p.2.1, false) :: syncP ps)
    rw [got_cons, got_cons, ih]
  exact this ps
 ·symm
  show List.map _ (List.filter _ (syncP ps)) = []
  rw [List.filter_eq_nil_iff.2 (fun p hp => by rw [(hm p hp).1]; decide)]
  rfl
 ·exact List.pairwise_map.2 h.nd
 ·obtain ⟨_, q, h1, h2, h3⟩ := hm p hp
  rw [h3]; exact h.len q h1
 ·obtain ⟨_, q, h1, h2, h3⟩ := hm p hp
  rw [h2]; exact h.has q h1
theorem got_filter (c : Adr) (a : Int) : ∀ ps : List Pg, got c (eraseP a ps) = if c.1 = a then none else got c ps
 | [] => by simp [eraseP, got]
 | p :: ps => by
  have ih := got_filter c a ps
  unfold eraseP at ih ⊢
  by_cases hp : p.1.1 = a
  ·rw [List.filter_cons_of_neg (by simp [hp]), ih, got_cons]
   by_cases hc : c.1 = a
   ·simp [hc]
   ·rw [if_neg hc, if_neg hc, if_neg (fun e => hc (by rw [← e]; exact hp))]
  ·rw [List.filter_cons_of_pos (by simp [hp]), got_cons, got_cons, ih]
   by_cases hc : p.1 = c
   ·subst hc
    simp [hp]
   ·simp [hc]
theorem Sim.erase (h : Sim D s ps) (hn : Nodup D.mp) (a : Int) (ha : hasB s a 0 = true) : Sim (erasedD D a) s (eraseP a ps) := by
 unfold erasedD
 rw [h.sh, if_pos ha]
 have h0 := (hasB_iff s a 0).1 ha
 have hsub : ∀ p ∈ eraseP a ps, p ∈ ps := fun p hp => (List.mem_filter.1 hp).1
 refine ⟨h.sh, fun c => ?_, ?_, h.nd.filter _, fun p hp => h.len p (hsub p hp), fun p hp => h.has p (hsub p hp)⟩
 ·show Fl.look c (delTo a D.s.2.1.toNat D.mp) = _
  rw [look_delTo _ _ _ hn, h.lk, got_filter, h.sh]
  by_cases hc : c.1 = a
  ·rw [if_pos hc]
   split
   ·rfl
   ·rename_i hx
    refine got_none (fun p hp e => ?_)
    have := (hasB_iff _ _ _).1 (h.has p hp)
    rw [e] at this
    exact hx ⟨hc, by omega, by omega⟩
  ·rw [if_neg (fun e => hc e.1), if_neg hc]
 ·show keepF _ D.dirty = _
  rw [h.dirty, keepF, List.filter_map, eraseP, List.filter_filter, List.filter_filter]
  congr 1
  refine List.filter_congr (fun p _ => ?_)
  simp [bne, Bool.and_comm]
  try rfl
theorem full_self {n : Nat} {l : List Int} (h : l.length = n) : full n l = l := by simp [full, h]
theorem Sim.read (h : Sim D s ps) (a b : Int) : readD D a b = readP s.2.2.toNat a b ps := by
 unfold readD readP numB
 rw [h.lk, h.sh, atB_eq]
 unfold got
 cases hf : ps.find? (atA (a, b)) with
 | none => simp [fullT]
 | some p => simp [full_self (h.len p (List.mem_of_find?_eq_some hf))]
theorem Sim.dirtyN (h : Sim D s ps) : D.dirty.length = dirtyN ps := by rw [h.dirty, Fl.dirtyN, List.length_map]
theorem Sim.dirtyLe (h : Sim D s ps) : D.dirty.length ≤ ps.length := by rw [h.dirty, List.length_map]; exact List.length_filter_le _ _
theorem DevIs.nodup {N0 p : Nat} {D : PD} {ok : Nat → Prop} {w : World} (h : DevIs N0 p D ok w) : Nodup D.mp := by
 obtain ⟨m, v, es, ck, h⟩ := h
 exact h.nodup
end Go.Proofs.YtmbiebdcnadhkaaGreat.Fl
namespace Go.Proofs.YtmbiebdcnadhkaaGreat.Fl
open Go.RowKit Go.Proofs.YtmbiebdcnadhkaaGreatW.PrintWords Go.Proofs.YtmbiebdcnadhkaaGreatW.PrintMore Go.Maps
structure DeedT where
 op : Int
 a : Int
 b : Int
 l : List Int
 P : PlanT
structure DCell (w : World) (ad : Addr) (i : Nat) (d : DeedT) (A : Option Addr) (c : Nat) : Prop where
 c0 : w.cell? (ad.add (i * 7)) = some (.int .i64 d.op)
 c1 : w.cell? ⟨(ad.add (i * 7)).block, (ad.add (i * 7)).off + 1, none⟩ = some (.int .i64 d.a)
 c2 : w.cell? ⟨(ad.add (i * 7)).block, (ad.add (i * 7)).off + 2, none⟩ = some (.int .i64 d.b)
 c3 : w.cell? ⟨(ad.add (i * 7)).block, (ad.add (i * 7)).off + 3, none⟩ = some (.slice A d.l.length c)
 c4 : w.cell? ⟨(ad.add (i * 7)).block, (ad.add (i * 7)).off + 4, none⟩ = some (.int .u64 d.P.keep)
 c5 : w.cell? ⟨(ad.add (i * 7)).block, (ad.add (i * 7)).off + 5, none⟩ = some (.int .i64 d.P.torn)
 c6 : w.cell? ⟨(ad.add (i * 7)).block, (ad.add (i * 7)).off + 6, none⟩ = some (.int .i64 d.P.cut)
 row : kB.C w A d.l.length d.l
def DRow (w : World) (A : Option Addr) (ds : List DeedT) : Prop := ∀ (i : Nat) (d : DeedT), ds[i]? = some d → ∃ ad A1 c1, A = some ad ∧ DCell w ad i d A1 c1
theorem DCell.below {w w' : World} {ad : Addr} {i : Nat} {d : DeedT} {A : Option Addr} {c : Nat} (h : DCell w ad i d A c) (hb : Below w.heap.size w w') : DCell w' ad i d A c :=
 have f : ∀ {a : Addr} {v : Value}, w.cell? a = some v → w'.cell? a = some v := fun h => (hb.cell (blt_of_cell h)).trans h
 ⟨f h.c0, f h.c1, f h.c2, f h.c3, f h.c4, f h.c5, f h.c6, Kd.C_below h.row hb⟩
theorem DRow.below {w w' : World} {A : Option Addr} {ds : List DeedT} (h : DRow w A ds) (hb : Below w.heap.size w w') : DRow w' A ds := fun i d hi => by
 obtain ⟨ad, A1, c1, h1, h2⟩ := h i d hi
 exact ⟨ad, A1, c1, h1, h2.below hb⟩
def Two (K : Nat → Prop) (N0 p x : Nat) (D : PD) (s : Int × Int × Int) (ps : List Pg) (w : World) : Prop :=
 ∃ okD okX : Nat → Prop, DevIs N0 p D okD w ∧ RefIs N0 x s ps okX w ∧ (∀ k, okD k → okX k → False) ∧ (∀ k, okD k → N0 ≤ k) ∧ (∀ k, okX k → N0 ≤ k) ∧ N0 ≤ w.heap.size ∧ (∀ k, K k → k < w.heap.size ∧ (¬ okD k ∧ ¬ okX k ∨ ∃ cs fr, w.heap[k]? = some (.cells cs TB fr)))
def Kept (K : Nat → Prop) (w w' : World) : Prop := ∀ k, K k → w'.heap[k]? = w.heap[k]?
section
variable {K : Nat → Prop} {N0 p x : Nat} {D D' : PD} {s : Int × Int × Int} {ps ps' : List Pg} {w w' : World} {f : FuncId} {args : Array Value} {res : Ending}
theorem upd_below {ok : Nat → Prop} (hu : Upd (Mut ok w) w w') (h0 : N0 ≤ w.heap.size) (hk : ∀ k, ok k → N0 ≤ k) : Below N0 w w' := hu.below h0 (fun k h => hk k h.1)
theorem Two.dev (h : Two K N0 p x D s ps w) (hc : ∀ ok, DevIs N0 p D ok w → Calls Tryz.prog f args w fun e w' => e = res ∧ DevIs N0 p D' (fun k => ok k ∨ w.heap.size ≤ k) w' ∧ Upd (Mut ok w) w w') :
  Calls Tryz.prog f args w fun e w' => e = res ∧ Two K N0 p x D' s ps w' ∧ Below N0 w w' ∧ Kept K w w' := by
 obtain ⟨okD, okX, hD, hX, hd, h1, h2, h0, hK⟩ := h
 refine (hc okD hD).mono fun e w1 ⟨he, hD1, hu⟩ => ⟨he, ⟨_, _, hD1, (hX.bound).upd hu ?_, ?_, ?_, ?_, ?_, ?_⟩, upd_below hu h0 h1, fun k hk => hu.block k (hK k hk).1 (fun h => (hK k hk).2.elim (fun h2 => h2.1 h.1) (fun ⟨cs, fr, e⟩ => h.2 cs fr e))⟩
 ·exact fun k hk hm => hd k hm.1 hk.1
 ·exact fun k hk hx => hk.elim (fun h => hd k h hx.1) (fun h => by have := hx.2.2; omega)
 ·exact fun k hk => hk.elim (h1 k) (fun h => Nat.le_trans h0 h)
 ·exact fun k hk => hk.2.1
 ·exact Nat.le_trans h0 hu.size
 ·exact fun k hk => ⟨Nat.lt_of_lt_of_le (hK k hk).1 hu.size, (hK k hk).2.elim (fun h2 => .inl ⟨fun h => h.elim h2.1 (fun h => by have := (hK k hk).1; omega), fun h => h2.2 h.1⟩) (fun ⟨cs, fr, e⟩ => .inr ⟨cs, fr, (hu.block k (hK k hk).1 (fun h => h.2 cs fr e)).trans e⟩)⟩
theorem Two.ref (h : Two K N0 p x D s ps w) (hc : ∀ ok, RefIs N0 x s ps ok w → Calls Tryz.prog f args w fun e w' => e = res ∧ RefIs N0 x s ps' (fun k => ok k ∨ w.heap.size ≤ k) w' ∧ Upd (Mut ok w) w w') :
  Calls Tryz.prog f args w fun e w' => e = res ∧ Two K N0 p x D s ps' w' ∧ Below N0 w w' ∧ Kept K w w' := by
 obtain ⟨okD, okX, hD, hX, hd, h1, h2, h0, hK⟩ := h
 refine (hc okX hX).mono fun e w1 ⟨he, hX1, hu⟩ => ⟨he, ⟨_, _, (hD.bound).upd hu ?_, hX1, ?_, ?_, ?_, ?_, ?_⟩, upd_below hu h0 h2, fun k hk => hu.block k (hK k hk).1 (fun h => (hK k hk).2.elim (fun h2 => h2.2 h.1) (fun ⟨cs, fr, e⟩ => h.2 cs fr e))⟩
 ·exact fun k hk hm => hd k hk.1 hm.1
 ·exact fun k hk hx => hx.elim (fun h => hd k hk.1 h) (fun h => by have := hk.2.2; omega)
 ·exact fun k hk => hk.2.1
 ·exact fun k hk => hk.elim (h2 k) (fun h => Nat.le_trans h0 h)
 ·exact Nat.le_trans h0 hu.size
 ·exact fun k hk => ⟨Nat.lt_of_lt_of_le (hK k hk).1 hu.size, (hK k hk).2.elim (fun h2 => .inl ⟨fun h => h2.1 h.1, fun h => h.elim h2.2 (fun h => by have := (hK k hk).1; omega)⟩) (fun ⟨cs, fr, e⟩ => .inr ⟨cs, fr, (hu.block k (hK k hk).1 (fun h => h.2 cs fr e)).trans e⟩)⟩
theorem Two.below (h : Two K N0 p x D s ps w) (hb : Below w.heap.size w w') : Two K N0 p x D s ps w' := by
 obtain ⟨okD, okX, hD, hX, hd, h1, h2, h0, hK⟩ := h
 exact ⟨okD, okX, hD.below hb, hX.below hb, hd, h1, h2, Nat.le_trans h0 hb.size, fun k hk => ⟨Nat.lt_of_lt_of_le (hK k hk).1 hb.size, (hK k hk).2.imp id (fun ⟨cs, fr, e⟩ => ⟨cs, fr, (hb.block k (hK k hk).1).trans e⟩)⟩⟩
theorem Two.keep (h : Two K N0 p x D s ps w) (hb : Below w.heap.size w w') : Two (fun k => K k ∨ (w.heap.size ≤ k ∧ k < w'.heap.size)) N0 p x D s ps w' := by
 obtain ⟨okD, okX, hD, hX, hd, h1, h2, h0, hK⟩ := h
 refine ⟨_, _, hD.bound.below hb, hX.bound.below hb, fun k h1 h2 => hd k h1.1 h2.1, fun k h => h1 k h.1, fun k h => h2 k h.1, Nat.le_trans h0 hb.size, fun k hk => ?_⟩
 rcases hk with hk | hk
 ·exact ⟨Nat.lt_of_lt_of_le (hK k hk).1 hb.size, (hK k hk).2.imp (fun h2 => ⟨fun h => h2.1 h.1, fun h => h2.2 h.1⟩) (fun ⟨cs, fr, e⟩ => ⟨cs, fr, (hb.block k (hK k hk).1).trans e⟩)⟩
 ·exact ⟨hk.2, .inl ⟨fun h => by have := h.2.2; omega, fun h => by have := h.2.2; omega⟩⟩
theorem Two.less {K' : Nat → Prop} (h : Two K N0 p x D s ps w) (hk : ∀ k, K' k → K k) : Two K' N0 p x D s ps w := by
 obtain ⟨okD, okX, hD, hX, hd, h1, h2, h0, hK⟩ := h
 exact ⟨okD, okX, hD, hX, hd, h1, h2, h0, fun k h => hK k (hk k h)⟩
theorem Two.free (h : Two K N0 p x D s ps w) : Two (fun _ => False) N0 p x D s ps w := h.less (fun _ h => h.elim)
theorem Two.drew (h : Two K N0 p x D s ps w) : Two K N0 p x D s ps w.drew := h.below ((Below.refl _ w).drew)
theorem Two.size (h : Two K N0 p x D s ps w) : N0 ≤ w.heap.size := by
 obtain ⟨okD, okX, hD, hX, hd, h1, h2, h0, hK⟩ := h
 exact h0
theorem Two.shape (h : Two K N0 p x D s ps w) : ShapeOk D.s := by
 obtain ⟨okD, okX, ⟨_, _, _, _, hD⟩, hX, hd, h1, h2, h0, hK⟩ := h
 exact hD.shape
theorem Two.nodup (h : Two K N0 p x D s ps w) : Nodup D.mp := by
 obtain ⟨okD, okX, hD, hX, hd, h1, h2, h0, hK⟩ := h
 exact hD.nodup
theorem Two.write (h : Two K N0 p x D s ps w) (a b : Int) (A : Option Addr) (c : Nat) (l : List Int) (hl : kB.C w A l.length l) (hm : D.dirty.length < 1000000) :
  Calls Tryz.prog 113 #[.pointer (some ⟨p, 0, none⟩), .int .i64 a, .int .i64 b, .slice A l.length c] w fun e w' => e = .returned (.int .i64 (writeE D a b l)) ∧ Two K N0 p x (writeD D a b l) s ps w' ∧ Below N0 w w' ∧ Kept K w w' :=
 h.dev (fun ok hD => Write_any hD a b A c l hl hm)
theorem Two.rsync (h : Two K N0 p x D s ps w) (hm : ps.length < 1000000) :
  Calls Tryz.prog 57 #[.pointer (some ⟨x, 0, none⟩)] w fun e w' => e = .returned (.tuple #[]) ∧ Two K N0 p x D s (syncP ps) w' ∧ Below N0 w w' ∧ Kept K w w' :=
 h.ref (fun ok hX => (RSync_any hX hm).mono fun e w' ⟨h1, h2, h3⟩ => ⟨h1, h2.mono (fun _ h => .inl h), h3⟩)
end
end Go.Proofs.YtmbiebdcnadhkaaGreat.Fl
namespace Go.Proofs.YtmbiebdcnadhkaaGreat.Fl
open Go.RowKit Go.Proofs.YtmbiebdcnadhkaaGreatW.PrintWords Go.Proofs.YtmbiebdcnadhkaaGreatW.PrintMore Go.Maps
end Go.Proofs.YtmbiebdcnadhkaaGreat.Fl
namespace Go.Proofs.YtmbiebdcnadhkaaGreat.Fl
def Byt (l : List Int) : Prop := ∀ x ∈ l, 0 ≤ x ∧ x ≤ 255
def BytP (ps : List Pg) : Prop := ∀ q ∈ ps, Byt q.2.1
def BytIf (ds : List DeedT) (ps : List Pg) : Prop := (∀ d ∈ ds, Byt d.l) → BytP ps
theorem Byt.nil : Byt [] := fun _ h => by cases h
theorem Byt.append {a b : List Int} (h : Byt a) (k : Byt b) : Byt (a ++ b) := fun x hx => (List.mem_append.1 hx).elim (h x) (k x)
theorem Byt.take {a : List Int} (h : Byt a) (n : Nat) : Byt (a.take n) := fun x hx => h x (List.mem_of_mem_take hx)
theorem Byt.drop {a : List Int} (h : Byt a) (n : Nat) : Byt (a.drop n) := fun x hx => h x (List.mem_of_mem_drop hx)
theorem Byt.full {n : Nat} {l : List Int} (h : Byt l) : Byt (full n l) := Byt.append h (fun x hx => by rw [List.eq_of_mem_replicate hx]; omega)
theorem BytP.nil : BytP [] := fun _ h => by cases h
theorem BytP.write {s : Int × Int × Int} {ps : List Pg} (h : BytP ps) (a b : Int) {l : List Int} (hl : Byt l) : BytP (rwP s ps a b l) := by
 unfold rwP
 split
 ·intro q hq
  rcases List.mem_append.1 hq with hq | hq
  ·exact h q hq
  ·rw [List.mem_singleton.1 hq]
   exact Byt.full hl
 ·exact h
theorem BytP.sync {ps : List Pg} (h : BytP ps) : BytP (syncP ps) := by
 intro q hq
 simp only [syncP, List.mem_map] at hq
 obtain ⟨p, hp, rfl⟩ := hq
 exact h p hp
theorem BytP.erase {ps : List Pg} (h : BytP ps) (a : Int) : BytP (eraseP a ps) := fun q hq => h q (List.mem_filter.1 hq).1
theorem BytIf.write {ds : List DeedT} {s : Int × Int × Int} {ps : List Pg} (h : BytIf ds ps) (a b : Int) {l : List Int} (hl : (∀ d ∈ ds, Byt d.l) → Byt l) : BytIf ds (rwP s ps a b l) := fun k => (h k).write a b (hl k)
end Go.Proofs.YtmbiebdcnadhkaaGreat.Fl
namespace Go.Proofs.YtmbiebdcnadhkaaGreat.Fl
open Go.RowKit Go.Proofs.YtmbiebdcnadhkaaGreatW.PrintWords Go.Proofs.YtmbiebdcnadhkaaGreatW.PrintMore Go.Maps
theorem rwP_len (s : Int × Int × Int) (ps : List Pg) (a b : Int) (l : List Int) : (rwP s ps a b l).length ≤ ps.length + 1 := by
 unfold rwP
 split <;> simp
end Go.Proofs.YtmbiebdcnadhkaaGreat.Fl
namespace Go.Proofs.YtmbiebdcnadhkaaGreat.Fl
open Go.RowKit Go.Proofs.YtmbiebdcnadhkaaGreatW.PrintWords Go.Proofs.YtmbiebdcnadhkaaGreatW.PrintMore Go.Maps
section
variable {K : Nat → Prop} {N0 p x : Nat} {D : PD} {s : Int × Int × Int} {ps : List Pg} {w : World}
theorem Two.refblk (h : Two K N0 p x D s ps w) : ∃ v, w.heap[x]? = some (.cells #[.int .i64 s.1, .int .i64 s.2.1, .int .i64 s.2.2, v] TX (0, 0)) := by
 obtain ⟨okD, okX, hD, ⟨_, _, v, hx, _⟩, _⟩ := h
 exact ⟨v, hx⟩
theorem Two.read (h : Two K N0 p x D s ps w) (a b : Int) (hh : hasB D.s a b = true) : Calls Tryz.prog 60 #[.pointer (some ⟨p, 0, none⟩), .int .i64 a, .int .i64 b] w fun e w' => ∃ A c, e = .returned (.tuple #[.slice A (readD D a b).length c, .int .i64 0]) ∧ kB.C w' A (readD D a b).length (readD D a b) ∧ Below w.heap.size w w' := by
 obtain ⟨okD, okX, hD, hX, _⟩ := h
 refine (Read_any hD a b).mono fun e w' ⟨v, he, hr, hb⟩ => ?_
 rw [gotD, if_pos hh] at hr
 obtain ⟨A, c, rfl, _, hC⟩ := hr.reads
 rw [hasE, if_pos hh] at he
 exact ⟨A, c, he, hC, hb⟩
theorem Two.rread (h : Two K N0 p x D s ps w) (hs : ShapeOk s) (hl : ps.length < 1000000) (a b : Int) : Calls Tryz.prog 62 #[.pointer (some ⟨x, 0, none⟩), .int .i64 a, .int .i64 b] w fun e w' => ∃ A c, e = .returned (.slice A (readP s.2.2.toNat a b ps).length c) ∧ kB.C w' A (readP s.2.2.toNat a b ps).length (readP s.2.2.toNat a b ps) ∧ Below w.heap.size w w' := by
 obtain ⟨okD, okX, hD, hX, _⟩ := h
 refine (RRead_any hX hs hl a b).mono fun e w' ⟨v, he, hr, hb⟩ => ?_
 obtain ⟨A, c, rfl, _, hC⟩ := hr.reads
 exact ⟨A, c, he, hC, hb⟩
theorem Two.used (h : Two K N0 p x D s ps w) (a b : Int) : Calls Tryz.prog 63 #[.pointer (some ⟨p, 0, none⟩), .int .i64 a, .int .i64 b] w fun e w' => e = .returned (.bool (usedB D a b)) ∧ w = w' := by
 obtain ⟨okD, okX, hD, hX, _⟩ := h
 exact Used_any hD a b
theorem Two.rfind (h : Two K N0 p x D s ps w) (hl : ps.length < 1000000) (a b : Int) : Calls Tryz.prog 64 #[.pointer (some ⟨x, 0, none⟩), .int .i64 a, .int .i64 b] w fun e w' => e = .returned (.int .i64 (findI a b ps)) ∧ Below w.heap.size w w' := by
 obtain ⟨okD, okX, hD, hX, _⟩ := h
 exact RFind_any hX hl a b
theorem Two.dirty (h : Two K N0 p x D s ps w) : Calls Tryz.prog 29 #[.pointer (some ⟨p, 0, none⟩)] w fun e w' => e = .returned (.int .i64 (D.dirty.length : Int)) ∧ w = w' := by
 obtain ⟨okD, okX, hD, hX, _⟩ := h
 exact Dirty_any hD
theorem Two.rdirty (h : Two K N0 p x D s ps w) (hl : ps.length < 1000000) : Calls Tryz.prog 59 #[.pointer (some ⟨x, 0, none⟩)] w fun e w' => e = .returned (.int .i64 (dirtyN ps : Int)) ∧ Below w.heap.size w w' := by
 obtain ⟨okD, okX, hD, hX, _⟩ := h
 exact RDirty_any hX hl
theorem Two.rshape (h : Two K N0 p x D s ps w) : Calls Tryz.prog 58 #[.pointer (some ⟨p, 0, none⟩)] w fun e w' => e = .returned (.agg #[.int .i64 D.s.1, .int .i64 D.s.2.1, .int .i64 D.s.2.2]) ∧ Below w.heap.size w w' := by
 obtain ⟨okD, okX, hD, hX, _⟩ := h
 exact Shape_any hD
set_option maxHeartbeats 4000000 in
set_option maxRecDepth 100000 in
theorem Like_any (h : Two K N0 p x D s ps w) (hsim : Sim D s ps) (hl : ps.length < 1000000) : Calls Tryz.prog 23 #[.pointer (some ⟨p, 0, none⟩), .pointer (some ⟨x, 0, none⟩)] w fun e w' => e = .returned (.bool true) ∧ Below w.heap.size w w' := by
 have hs : ShapeOk s := by have := h.shape; rw [hsim.sh] at this; exact this
 obtain ⟨v, hx⟩ := h.refblk
 have k0 : w.cell? ⟨x, 0, none⟩ = some (.int .i64 s.1) := bcell hx 0
 have k1 : w.cell? ⟨x, 1, none⟩ = some (.int .i64 s.2.1) := bcell hx 1
 have k2 : w.cell? ⟨x, 2, none⟩ = some (.int .i64 s.2.2) := bcell hx 2
 have HX := Lib.hid hx
 have HT := Aside0.mk h
 have HTD := Aside0.mk h.drew
 have HSIM := Aside0.mk hsim
 have HM := Lib.hid hl
 have HS := Lib.hid hs
 clear hx h hsim hl hs
 have hcs := HTD.out.rshape
 rw [HSIM.out.sh] at hcs
 have HCS := Lib.hid hcs
 clear hcs
 go_enter Tryz.func23, Tryz.ntmps23
 go_wp2_with fail
 have hdn := HSIM.out.dirtyN
 have e1 : ((dirtyN ps : Int) != (dirtyN ps : Int)) = false := by simp
 have HDN := Lib.hid hdn
 clear hdn
 go_region_held3 (fun w' => w'.cell? ⟨x, 0, none⟩ = some (.int .i64 s.1) ∧ w'.cell? ⟨x, 1, none⟩ = some (.int .i64 s.2.1) ∧ w'.cell? ⟨x, 2, none⟩ = some (.int .i64 s.2.2)) (first | go_keep | exact ⟨z1, z2, z3⟩ | exact ⟨t1, t2, t3⟩)
  (first
   | (go_at_call 58; refine HCS.out.mono ?_; rintro e w1 ⟨rfl, hb⟩; have HB1 := Aside0.mk (undrew hb); have z1 : w1.cell? ⟨x, 0, none⟩ = some (.int .i64 s.1) := ((undrew hb).cell (p := ⟨x, 0, none⟩) (blt HX.out)).trans k0; have z2 : w1.cell? ⟨x, 1, none⟩ = some (.int .i64 s.2.1) := ((undrew hb).cell (p := ⟨x, 1, none⟩) (blt HX.out)).trans k1; have z3 : w1.cell? ⟨x, 2, none⟩ = some (.int .i64 s.2.2) := ((undrew hb).cell (p := ⟨x, 2, none⟩) (blt HX.out)).trans k2; clear hb)
   | (go_at_call 29; refine (HT.out.below HB1.out).dirty.mono ?_; rw [HDN.out]; rintro e w3 ⟨rfl, rfl⟩)
   | (go_at_call 59; refine ((HT.out.below HB1.out).rdirty HM.out).mono ?_; rintro e w2 ⟨rfl, hb⟩; have HB2 := Aside0.mk (HB1.out.trans (hb.mono HB1.out.size)); have t1 : w2.cell? ⟨x, 0, none⟩ = some (.int .i64 s.1) := (HB2.out.cell (p := ⟨x, 0, none⟩) (blt HX.out)).trans k0; have t2 : w2.cell? ⟨x, 1, none⟩ = some (.int .i64 s.2.1) := (HB2.out.cell (p := ⟨x, 1, none⟩) (blt HX.out)).trans k1; have t3 : w2.cell? ⟨x, 2, none⟩ = some (.int .i64 s.2.2) := (HB2.out.cell (p := ⟨x, 2, none⟩) (blt HX.out)).trans k2; clear hb))
 obtain ⟨n1, hn1⟩ := Int.eq_ofNat_of_zero_le (show 0 ≤ s.1 by have := HS.out.a0; omega)
 obtain ⟨n2, hn2⟩ := Int.eq_ofNat_of_zero_le (show 0 ≤ s.2.1 by have := HS.out.b0; omega)
 have HN1 := Lib.hid hn1
 have HN2 := Lib.hid hn2
 have hn3 : n1 ≤ 16 := by have := HS.out.a1; omega
 have hn4 : n2 ≤ 64 := by have := HS.out.b1; omega
 clear hn1 hn2 t1 t2 t3 z1 z2 z3 k0 k1 k2 e1
 go_wp2
 go_loopw [5] (fun v5 wr => ∃ a : Nat, a ≤ n1 ∧ v5 = .int .i64 (a : Int) ∧ Below w.heap.size w wr) (fun v5 _ => n1 - (intOf v5).toNat)
 case atStart => exact ⟨0, Nat.zero_le _, rfl, HB2.out⟩
 case round =>
  obtain ⟨a, ha, rfl, hb⟩ := hrel
  have HA := Aside0.mk hb
  have kx := (hb.block x (blt HX.out)).trans HX.out
  rw [HN1.out] at kx
  have k0 : wr.cell? ⟨x, 0, none⟩ = some (.int .i64 (n1 : Int)) := bcell kx 0
  clear hb kx
  by_cases hlt : a < n1
  ·have e1 : decide ((a : Int) < (n1 : Int)) = true := by simp; omega
   have a0 : (0 : Int) ≤ (a : Int) := by omega
   have a1 : (a : Int) < (n1 : Int) := by omega
   go_wp2
   go_loopw [6] (fun v6 wi => ∃ b : Nat, b ≤ n2 ∧ v6 = .int .i64 (b : Int) ∧ Below w.heap.size w wi) (fun v6 _ => n2 - (intOf v6).toNat)
   case atStart => exact ⟨0, Nat.zero_le _, rfl, HA.out⟩
   case round =>
    obtain ⟨b, hb, rfl, hbi⟩ := hrel
    have HI := Aside0.mk hbi
    have kx := (hbi.block x (blt HX.out)).trans HX.out
    rw [HN2.out] at kx
    have k1 : wr.cell? ⟨x, 1, none⟩ = some (.int .i64 (n2 : Int)) := bcell kx 1
    have hti := HT.out.below hbi
    clear hbi kx k0
    by_cases hlt2 : b < n2
    ·have b1 : (b : Int) < (n2 : Int) := by omega
     have b0 : (0 : Int) ≤ (b : Int) := by omega
     have hh : hasB D.s a b = true := by
      rw [hasB_iff, HSIM.out.sh, HN1.out, HN2.out]
      omega
     obtain ⟨R, hR⟩ : ∃ R, R = readD D a b := ⟨_, rfl⟩
     have hR2 : readP s.2.2.toNat a b ps = R := by rw [hR, HSIM.out.read]
     have hRl : R.length < 1000000 := by
      have h1 := look_len (D := D) (by obtain ⟨_, _, ⟨_, _, _, _, hD⟩, _⟩ := HT.out; exact hD.lens) (a, b)
      rw [hR, readD, numB, full_length h1, HSIM.out.sh]
      have := HS.out.c1
      omega
     have hu := HSIM.out.used a b
     obtain ⟨F, hF⟩ : ∃ F, F = findI a b ps := ⟨_, rfl⟩
     have hFl : -1 ≤ F := by
      rw [hF, findI]
      rcases idxI_cases (atB a b) ps with h | ⟨_, _, h, _⟩ <;> rw [h] <;> omega
     have hrd := hti.read a b hh
     rw [← hR] at hrd
     have hrr := fun (W : World) (hW : Below wr.heap.size wr W) => (hti.below hW).rread HS.out HM.out a b
     rw [hR2] at hrr
     have hus := fun (W : World) (hW : Below wr.heap.size wr W) => (hti.below hW).used a b
     rw [hu] at hus
     have hfi := fun (W : World) (hW : Below wr.heap.size wr W) => (hti.below hW).rfind HM.out a b
     rw [← hF] at hus hfi
     have HRD := Lib.hid hrd
     have HRR := Lib.hid hrr
     have HUS := Lib.hid hus
     have HFI := Lib.hid hfi
     have HRL := Lib.hid hRl
     have HFL := Lib.hid hFl
     clear hti hh hR hR2 hRl hu hF hFl hrd hrr hus hfi
     go_wp2_with (first
      | (go_at_call 60; (with_reducible refine HRD.out.mono ?_); rintro e w3 ⟨B1, c1, rfl, hC, hb⟩; have HC1 := Aside0.mk hC; have HB3 := Aside0.mk hb; clear hC hb)
      | (go_at_call 62; (with_reducible refine (HRR.out _ HB3.out).mono ?_); rintro e w4 ⟨B2, c2, rfl, hC, hb⟩; have HC2 := Aside0.mk hC; have HC3 := Aside0.mk (Kd.C_below HC1.out hb); have HB4 := Aside0.mk (HB3.out.trans (hb.mono HB3.out.size)); clear hC hb)
      | (go_at_call 61; (with_reducible refine (Bytes_any HC3.out HC2.out HRL.out HRL.out).mono ?_); rw [decide_eq_true rfl]; rintro e w5 ⟨rfl, hb⟩; have HB5 := Aside0.mk (HB4.out.trans (hb.mono HB4.out.size)); clear hb)
      | (go_at_call 63; (with_reducible refine (HUS.out _ HB5.out).mono ?_); rintro e w6 ⟨rfl, rfl⟩)
      | (go_at_call 64; (with_reducible refine (HFI.out _ HB5.out).mono ?_); rintro e w7 ⟨rfl, hb⟩; have HB6 := Aside0.mk (HB5.out.trans (hb.mono HB5.out.size)); clear hb))
     exact ⟨⟨b + 1, by omega, by go_num, HI.out.trans (HB6.out.mono HI.out.size)⟩, by simp [intOf]; omega⟩
    ·obtain rfl : b = n2 := by omega
     clear hti
     go_wp2
     exact ⟨⟨a + 1, by omega, by go_num, HI.out⟩, by simp [intOf]; omega⟩
  ·obtain rfl : a = n1 := by omega
   go_wp2
   go_ret
   exact ⟨rfl, HA.out⟩
end
end Go.Proofs.YtmbiebdcnadhkaaGreat.Fl
namespace Go.Proofs.YtmbiebdcnadhkaaGreat.Fl
open Go.RowKit Go.Proofs.YtmbiebdcnadhkaaGreatW.PrintWords Go.Proofs.YtmbiebdcnadhkaaGreatW.PrintMore Go.Maps
def padL (n : Nat) (bs : List Int) : List (List Int) := if h : bs = [] ∨ n = 0 then [] else full n (bs.take n) :: padL n (bs.drop n)
termination_by bs.length
decreasing_by
 have h1 : bs ≠ [] := fun e => h (.inl e)
 have h2 : n ≠ 0 := fun e => h (.inr e)
 have h3 : 0 < bs.length := List.length_pos_iff.2 h1
 simp only [List.length_drop]
 omega
theorem padL_nil (n : Nat) : padL n [] = [] := by rw [padL]; simp
theorem padL_cons {n : Nat} {bs : List Int} (h0 : 0 < bs.length) (hn : 1 ≤ n) : padL n bs = full n (bs.take n) :: padL n (bs.drop n) := by
 rw [padL, dif_neg]
 rintro (h | h)
 ·rw [h] at h0; simp at h0
 ·omega
def sliceLen (v : Value) : Nat := match v with | .slice _ l _ => l | _ => 0
theorem info_row : (Tryz.prog.info? 25).map (fun i => (i.zero, i.size, i.bytes)) = some (some (.slice none 0 0), 1, 24) := by kernel_rfl
attribute [local go_sem] min_two min2_int
section
variable {w : World} {A : Option Addr} {c : Nat} {bs : List Int}
theorem pad_row {w wr w2 : World} {g n N : Nat} {cur : List Value} {b : List Int} (hb : Below N w wr) (hg : wr.heap.size ≤ g) (h3 : cur.take n = ff n) (h4 : n ≤ cur.length) (h5 : w2.heap[g]? = some (.cells (splice cur 0 (b.map (Value.int .u8))).toArray TB (0, 0))) (hn : b.length ≤ n) (hl : n < 1000000 := by omega) (hN : N ≤ wr.heap.size := by omega) :
  kData.M w2 N (fun k => wr.heap.size ≤ k) (full n b) [.slice (some ⟨g, 0, none⟩) n n] := by
 obtain ⟨h5', h6⟩ := splice_full h4 h3 hn
 refine ⟨_, rfl, some ⟨g, 0, none⟩, n, ?_, ?_, ?_, .inr ⟨g, 0, _, rfl, Nat.le_trans hN hg, hg, h5, h6⟩⟩
 ·rw [full_length hn]
 ·rw [full_length hn]; exact Nat.le_refl _
 ·rw [full_length hn]; omega
theorem pad_own {N : Nat} {W : World} {v : Value} {rows : List (List Int)} {ok : Nat → Prop} (h : kData.R 25 W N ok v rows) : ∀ k, v.ownBlock = some k → k < W.heap.size := by
 intro k hk
 obtain ⟨h0, inner, ho, _⟩ := h
 rcases ho.2 with ⟨rfl, _⟩ | ⟨g, cap, cur, rfl, _, hh, _⟩
 ·cases hk
 ·have : g = k := by simpa [Value.ownBlock] using hk
  rw [← this]
  exact blt hh
theorem data_cell {W : World} {B : Option Addr} {k : Nat} {rows : List (List Int)} {i : Nat} {row : List Int} (h : kData.C W B k rows) (hi : rows[i]? = some row) : ∃ ad A1 c1, B = some ad ∧ W.cell? (ad.add i) = some (.slice A1 row.length c1) ∧ row.length ≤ c1 ∧ kB.C W A1 row.length row := by
 have hl := (List.getElem?_eq_some_iff.1 hi).1
 have hn := h.1
 obtain ⟨ad, e, hcell⟩ := h.2.2 (by omega)
 obtain ⟨cs, _, h1, h3⟩ := hcell i row hi
 obtain ⟨A1, c1, rfl, h4, h5⟩ := h1
 refine ⟨ad, A1, c1, e, ?_, h4, h5⟩
 have := h3 0 _ rfl
 rw [show i * kData.sz = i from Nat.mul_one i] at this
 simpa using this
set_option maxHeartbeats 2000000 in
set_option maxRecDepth 100000 in
theorem Pad_any (h : kB.C w A bs.length bs) (hc : bs.length ≤ c) (hl : bs.length < 1000000) (n : Nat) (h1 : 1 ≤ n) (h2 : n ≤ 4096) :
  Calls Tryz.prog 112 #[.slice A bs.length c, .int .i64 (n : Int)] w fun e w' => ∃ v, e = .returned v ∧ kData.R 25 w' w.heap.size (fun k => w.heap.size ≤ k) v (padL n bs) ∧ Below w.heap.size w w' := by
 have hf := Fits_any (n : Int) 1 4096 w
 rw [show fitsB (n : Int) 1 4096 = true by simp [fitsB]; omega] at hf
 obtain ⟨L, hL⟩ : ∃ L, L = bs.length := ⟨_, rfl⟩
 have HF := Lib.hid hf
 have HC := Aside0.mk h
 have HL := Lib.hid hL
 rw [← hL] at hc hl
 rw [← hL]
 clear hf h hL
 go_enter Tryz.func112, Tryz.ntmps112
 go_wp2_with (go_at_call 91; (with_reducible refine HF.out.mono ?_); rintro e w' ⟨rfl, rfl⟩)
 go_loopw [0, 5] (fun v0 v5 wr => ∃ (A' : Option Addr) (c' : Nat) (cs : List Int) (rows : List (List Int)), v0 = .slice A' cs.length c' ∧ cs.length ≤ c' ∧ kB.C w A' cs.length cs ∧ rows.length + cs.length ≤ L ∧ rows ++ padL n cs = padL n bs ∧ kData.R 25 wr w.heap.size (fun k => w.heap.size ≤ k) v5 rows ∧ Below w.heap.size w wr) (fun v0 _ _ => sliceLen v0)
 case atStart => exact ⟨A, c, bs, [], by rw [HL.out], by have := HL.out; omega, HC.out, by have := HL.out; simp; omega, rfl, Kd.R_nil _ _ _ _ _, Below.refl _ _⟩
 case round =>
  obtain ⟨A', c', cs, rows, rfl, hcc, hC, hrl, hpad, hR, hb⟩ := hrel
  obtain ⟨q, hq⟩ : ∃ q, q = cs.length := ⟨_, rfl⟩
  have HQ := Lib.hid hq
  have HCC := Lib.hid hcc
  have HCR := Aside0.mk hC
  have HRL := Lib.hid hrl
  have HPAD := Lib.hid hpad
  have HR := Aside0.mk hR
  have HB := Aside0.mk hb
  rw [← hq] at hcc hrl
  rw [← hq]
  clear hC hpad hR hb hq
  obtain ⟨A5, c5, rfl⟩ := Kd.R_slice HR.out
  by_cases h0 : q = 0
  ·subst h0
   have hnil : cs = [] := List.eq_nil_of_length_eq_zero HQ.out.symm
   have hp := HPAD.out
   rw [hnil, padL_nil, List.append_nil] at hp
   have HP := Lib.hid hp
   clear hnil hp
   go_wp2
   go_ret
   exact ⟨_, rfl, by rw [← HP.out]; exact HR.out, HB.out⟩
  ·have q0 : (0 : Int) < (q : Int) := by omega
   obtain ⟨ad, hA, hca⟩ := C_cells HCR.out (by have := HQ.out; omega)
   subst hA
   by_cases hqn : q < n
   ·obtain ⟨m, rfl⟩ : ∃ m, m = q := ⟨_, rfl⟩
    have hm1 : 1 ≤ m := by omega
    have hm3 : m ≤ n := by omega
    have htk : cs.take m = cs.take n := by rw [HQ.out, List.take_length, List.take_of_length_le (by have := HQ.out; omega)]
    have hdr : cs.drop m = cs.drop n := by rw [HQ.out, List.drop_length, List.drop_eq_nil_of_le (by have := HQ.out; omega)]
    by_cases hcm : c' = m
    ·have htl : (cs.take m).length = m := by rw [List.length_take]; have := HQ.out; omega
     have hpl := padL_cons (n := n) (bs := cs) (by have := HQ.out; omega) h1
     rw [← htk, ← hdr] at hpl
     have HM := Lib.hid (show ((cs.take m).map (Value.int .u8)).length = Nat.min m n by rw [List.length_map, htl]; exact (Nat.min_eq_left hm3).symm)
     have HTL := Lib.hid htl
     have HPL := Lib.hid hpl
     have i0 : (0 : Int) ≤ (m : Int) := by omega
     skip
     have i3 : (m : Int) ≤ (c' : Int) := by omega
     have HA : Hid ((wr.alloc (.cells #[.int .u8 255] TB)).cell? ⟨wr.heap.size, 0, none⟩ = some (.int .u8 255)) := Lib.hid (by rw [bcell (blk_new wr _)]; rfl)
     have htc := fun (W : World) (hW : Below wr.heap.size wr W) => C_cells (Kd.C_below (Kd.C_take HCR.out (show m ≤ cs.length by have := HQ.out; omega)) (HB.out.trans (hW.mono HB.out.size))) (by rw [htl]; omega)
     have HTC := Lib.hid htc
     have hdc := Kd.C_drop (m := m) (c := c') HCR.out (by have := HQ.out; omega) HCC.out
     have hz : m * kB.sz = m := Nat.mul_one m
     rw [hz, if_pos hcm] at hdc
     have HDC := Lib.hid hdc
     have hdl : (cs.drop m).length = m - m := by rw [List.length_drop, HQ.out]
     have HDL := Lib.hid hdl
     have hro := fun k hk => pad_own HR.out k hk
     have HRO := Lib.hid hro
     clear htl htk hdr hpl hca htc hdc hz hdl hro
     go_wp2_with (first
      | (go_at_call 101; (with_reducible refine (Repeat_any _ n _ HA.out (by omega) (by omega)).mono ?_); rintro e w1 ⟨g, cur, rfl, hg1, hg2, hg3, hg4, hb1⟩; have G1 : Hid (wr.heap.size ≤ g) := Lib.hid (by simp at hg1; omega); have G2 := Lib.hid hg2; have G3 := Lib.hid hg3; have G4 := Lib.hid hg4; have HB1 : Aside0 (Below wr.heap.size wr w1) := Aside0.mk ((below_alloc (Below.refl _ _) _).trans (hb1.mono (by simp))); clear hg1 hg2 hg3 hg4 hb1 HA)
      | ((with_reducible refine gate_builtin (b := .copy) rfl ?_); refine wpList_copy_splice rfl (.tmp 21) (.tmp 24) 25 25 rfl TB Tryz.underlying25 size_u8 _ _ _ _ _ _ rfl rfl g 0 cur TB G2.out ((cs.take m).map (Value.int .u8)) HM.out (fun h0 => ⟨rfl, HTC.out _ HB1.out⟩) (by simp only [Nat.zero_add]; rw [HM.out]; exact Nat.le_trans (Nat.min_le_right m n) G4.out) (u8_one _) wr.heap.size wr HB1.out G1.out ?_; intro w2 hg2 hb2; have G5 := hg2; have HB2 := Aside0.mk hb2; clear hg2 hb2)
      | (at_builtin; refine Kd.R_append kData (w0 := w) w.heap.size rfl (.tmp 26) (.tmp 28) 158 25 (.slice none 0 0) 24 rfl Tryz.underlying158 info_row rfl (by decide) (by decide) (.slice A5 rows.length c5) rows (full n (cs.take m)) [.slice (some ⟨g, 0, none⟩) n n] (fun j => w.heap.size ≤ j) (fun k => wr.heap.size ≤ k) rfl (by simp [Act.eval]) (pad_row HB.out G1.out G3.out G4.out G5.out (by rw [HTL.out]; omega) (by omega) HB.out.size) (fun k hk => ⟨Nat.le_trans HB.out.size hk, fun e => by have := HRO.out k e.symm; omega⟩) (fun i hi => Nat.le_trans HB.out.size (Nat.le_trans HB2.out.size hi)) (Kd.R_below HR.out HB2.out) (HB.out.trans (HB2.out.mono HB.out.size)) (Nat.le_trans HB.out.size HB2.out.size) (by have := HRL.out; omega) ?_; intro v1 w3 hr1 hb3 _ _; have HR1 := Aside0.mk hr1; have HB3 := Aside0.mk hb3; clear hr1 hb3))
     have hpd : (rows ++ [full n (cs.take m)]) ++ padL n (cs.drop m) = padL n bs := by
      rw [List.append_assoc]
      show rows ++ (full n (cs.take m) :: padL n (cs.drop m)) = _
      rw [← HPL.out, HPAD.out]
     exact ⟨⟨_, c' - m, cs.drop m, rows ++ [full n (cs.take m)], by rw [HDL.out]; simp [hcm], by rw [HDL.out]; omega, HDC.out, by rw [HDL.out]; have := HRL.out; have := HQ.out; simp; omega, hpd, HR1.out, HB3.out⟩, by simp [sliceLen]; omega⟩
    ·have htl : (cs.take m).length = m := by rw [List.length_take]; have := HQ.out; omega
     have hpl := padL_cons (n := n) (bs := cs) (by have := HQ.out; omega) h1
     rw [← htk, ← hdr] at hpl
     have HM := Lib.hid (show ((cs.take m).map (Value.int .u8)).length = Nat.min m n by rw [List.length_map, htl]; exact (Nat.min_eq_left hm3).symm)
     have HTL := Lib.hid htl
     have HPL := Lib.hid hpl
     have i0 : (0 : Int) ≤ (m : Int) := by omega
     skip
     have i3 : (m : Int) ≤ (c' : Int) := by omega
     have HA : Hid ((wr.alloc (.cells #[.int .u8 255] TB)).cell? ⟨wr.heap.size, 0, none⟩ = some (.int .u8 255)) := Lib.hid (by rw [bcell (blk_new wr _)]; rfl)
     have htc := fun (W : World) (hW : Below wr.heap.size wr W) => C_cells (Kd.C_below (Kd.C_take HCR.out (show m ≤ cs.length by have := HQ.out; omega)) (HB.out.trans (hW.mono HB.out.size))) (by rw [htl]; omega)
     have HTC := Lib.hid htc
     have hdc := Kd.C_drop (m := m) (c := c') HCR.out (by have := HQ.out; omega) HCC.out
     have hz : m * kB.sz = m := Nat.mul_one m
     rw [hz, if_neg hcm] at hdc
     have HDC := Lib.hid hdc
     have hdl : (cs.drop m).length = m - m := by rw [List.length_drop, HQ.out]
     have HDL := Lib.hid hdl
     have hro := fun k hk => pad_own HR.out k hk
     have HRO := Lib.hid hro
     clear htl htk hdr hpl hca htc hdc hz hdl hro
     go_wp2_with (first
      | (go_at_call 101; (with_reducible refine (Repeat_any _ n _ HA.out (by omega) (by omega)).mono ?_); rintro e w1 ⟨g, cur, rfl, hg1, hg2, hg3, hg4, hb1⟩; have G1 : Hid (wr.heap.size ≤ g) := Lib.hid (by simp at hg1; omega); have G2 := Lib.hid hg2; have G3 := Lib.hid hg3; have G4 := Lib.hid hg4; have HB1 : Aside0 (Below wr.heap.size wr w1) := Aside0.mk ((below_alloc (Below.refl _ _) _).trans (hb1.mono (by simp))); clear hg1 hg2 hg3 hg4 hb1 HA)
      | ((with_reducible refine gate_builtin (b := .copy) rfl ?_); refine wpList_copy_splice rfl (.tmp 21) (.tmp 24) 25 25 rfl TB Tryz.underlying25 size_u8 _ _ _ _ _ _ rfl rfl g 0 cur TB G2.out ((cs.take m).map (Value.int .u8)) HM.out (fun h0 => ⟨rfl, HTC.out _ HB1.out⟩) (by simp only [Nat.zero_add]; rw [HM.out]; exact Nat.le_trans (Nat.min_le_right m n) G4.out) (u8_one _) wr.heap.size wr HB1.out G1.out ?_; intro w2 hg2 hb2; have G5 := hg2; have HB2 := Aside0.mk hb2; clear hg2 hb2)
      | (at_builtin; refine Kd.R_append kData (w0 := w) w.heap.size rfl (.tmp 26) (.tmp 28) 158 25 (.slice none 0 0) 24 rfl Tryz.underlying158 info_row rfl (by decide) (by decide) (.slice A5 rows.length c5) rows (full n (cs.take m)) [.slice (some ⟨g, 0, none⟩) n n] (fun j => w.heap.size ≤ j) (fun k => wr.heap.size ≤ k) rfl (by simp [Act.eval]) (pad_row HB.out G1.out G3.out G4.out G5.out (by rw [HTL.out]; omega) (by omega) HB.out.size) (fun k hk => ⟨Nat.le_trans HB.out.size hk, fun e => by have := HRO.out k e.symm; omega⟩) (fun i hi => Nat.le_trans HB.out.size (Nat.le_trans HB2.out.size hi)) (Kd.R_below HR.out HB2.out) (HB.out.trans (HB2.out.mono HB.out.size)) (Nat.le_trans HB.out.size HB2.out.size) (by have := HRL.out; omega) ?_; intro v1 w3 hr1 hb3 _ _; have HR1 := Aside0.mk hr1; have HB3 := Aside0.mk hb3; clear hr1 hb3))
     have hpd : (rows ++ [full n (cs.take m)]) ++ padL n (cs.drop m) = padL n bs := by
      rw [List.append_assoc]
      show rows ++ (full n (cs.take m) :: padL n (cs.drop m)) = _
      rw [← HPL.out, HPAD.out]
     exact ⟨⟨_, c' - m, cs.drop m, rows ++ [full n (cs.take m)], by rw [HDL.out]; simp [hcm], by rw [HDL.out]; omega, HDC.out, by rw [HDL.out]; have := HRL.out; have := HQ.out; simp; omega, hpd, HR1.out, HB3.out⟩, by simp [sliceLen]; omega⟩
   ·obtain ⟨m, rfl⟩ : ∃ m, m = n := ⟨_, rfl⟩
    have hm1 : 1 ≤ m := by omega
    have hm3 : m ≤ m := Nat.le_refl _
    have htk : cs.take m = cs.take m := rfl
    have hdr : cs.drop m = cs.drop m := rfl
    by_cases hcm : c' = m
    ·have htl : (cs.take m).length = m := by rw [List.length_take]; have := HQ.out; omega
     have hpl := padL_cons (n := m) (bs := cs) (by have := HQ.out; omega) h1
     skip
     have HM := Lib.hid (show ((cs.take m).map (Value.int .u8)).length = Nat.min m m by rw [List.length_map, htl]; exact (Nat.min_eq_left hm3).symm)
     have HTL := Lib.hid htl
     have HPL := Lib.hid hpl
     have i0 : (0 : Int) ≤ (m : Int) := by omega
     have i1 : (m : Int) ≤ (q : Int) := by omega
     have i2 : (q : Int) ≤ (c' : Int) := by omega
     have i3 : (m : Int) ≤ (c' : Int) := by omega
     have HA : Hid ((wr.alloc (.cells #[.int .u8 255] TB)).cell? ⟨wr.heap.size, 0, none⟩ = some (.int .u8 255)) := Lib.hid (by rw [bcell (blk_new wr _)]; rfl)
     have htc := fun (W : World) (hW : Below wr.heap.size wr W) => C_cells (Kd.C_below (Kd.C_take HCR.out (show m ≤ cs.length by have := HQ.out; omega)) (HB.out.trans (hW.mono HB.out.size))) (by rw [htl]; omega)
     have HTC := Lib.hid htc
     have hdc := Kd.C_drop (m := m) (c := c') HCR.out (by have := HQ.out; omega) HCC.out
     have hz : m * kB.sz = m := Nat.mul_one m
     rw [hz, if_pos hcm] at hdc
     have HDC := Lib.hid hdc
     have hdl : (cs.drop m).length = q - m := by rw [List.length_drop, HQ.out]
     have HDL := Lib.hid hdl
     have hro := fun k hk => pad_own HR.out k hk
     have HRO := Lib.hid hro
     clear htl htk hdr hpl hca htc hdc hz hdl hro
     go_wp2_with (first
      | (go_at_call 101; (with_reducible refine (Repeat_any _ m _ HA.out (by omega) (by omega)).mono ?_); rintro e w1 ⟨g, cur, rfl, hg1, hg2, hg3, hg4, hb1⟩; have G1 : Hid (wr.heap.size ≤ g) := Lib.hid (by simp at hg1; omega); have G2 := Lib.hid hg2; have G3 := Lib.hid hg3; have G4 := Lib.hid hg4; have HB1 : Aside0 (Below wr.heap.size wr w1) := Aside0.mk ((below_alloc (Below.refl _ _) _).trans (hb1.mono (by simp))); clear hg1 hg2 hg3 hg4 hb1 HA)
      | ((with_reducible refine gate_builtin (b := .copy) rfl ?_); refine wpList_copy_splice rfl (.tmp 21) (.tmp 24) 25 25 rfl TB Tryz.underlying25 size_u8 _ _ _ _ _ _ rfl rfl g 0 cur TB G2.out ((cs.take m).map (Value.int .u8)) HM.out (fun h0 => ⟨rfl, HTC.out _ HB1.out⟩) (by simp only [Nat.zero_add]; rw [HM.out]; exact Nat.le_trans (Nat.min_le_right m m) G4.out) (u8_one _) wr.heap.size wr HB1.out G1.out ?_; intro w2 hg2 hb2; have G5 := hg2; have HB2 := Aside0.mk hb2; clear hg2 hb2)
      | (at_builtin; refine Kd.R_append kData (w0 := w) w.heap.size rfl (.tmp 26) (.tmp 28) 158 25 (.slice none 0 0) 24 rfl Tryz.underlying158 info_row rfl (by decide) (by decide) (.slice A5 rows.length c5) rows (full m (cs.take m)) [.slice (some ⟨g, 0, none⟩) m m] (fun j => w.heap.size ≤ j) (fun k => wr.heap.size ≤ k) rfl (by simp [Act.eval]) (pad_row HB.out G1.out G3.out G4.out G5.out (by rw [HTL.out]; omega) (by omega) HB.out.size) (fun k hk => ⟨Nat.le_trans HB.out.size hk, fun e => by have := HRO.out k e.symm; omega⟩) (fun i hi => Nat.le_trans HB.out.size (Nat.le_trans HB2.out.size hi)) (Kd.R_below HR.out HB2.out) (HB.out.trans (HB2.out.mono HB.out.size)) (Nat.le_trans HB.out.size HB2.out.size) (by have := HRL.out; omega) ?_; intro v1 w3 hr1 hb3 _ _; have HR1 := Aside0.mk hr1; have HB3 := Aside0.mk hb3; clear hr1 hb3))
     have hpd : (rows ++ [full m (cs.take m)]) ++ padL m (cs.drop m) = padL m bs := by
      rw [List.append_assoc]
      show rows ++ (full m (cs.take m) :: padL m (cs.drop m)) = _
      rw [← HPL.out, HPAD.out]
     exact ⟨⟨_, c' - m, cs.drop m, rows ++ [full m (cs.take m)], by rw [HDL.out]; simp [hcm], by rw [HDL.out]; omega, HDC.out, by rw [HDL.out]; have := HRL.out; have := HQ.out; simp; omega, hpd, HR1.out, HB3.out⟩, by simp [sliceLen]; omega⟩
    ·have htl : (cs.take m).length = m := by rw [List.length_take]; have := HQ.out; omega
     have hpl := padL_cons (n := m) (bs := cs) (by have := HQ.out; omega) h1
     skip
     have HM := Lib.hid (show ((cs.take m).map (Value.int .u8)).length = Nat.min m m by rw [List.length_map, htl]; exact (Nat.min_eq_left hm3).symm)
     have HTL := Lib.hid htl
     have HPL := Lib.hid hpl
     have i0 : (0 : Int) ≤ (m : Int) := by omega
     have i1 : (m : Int) ≤ (q : Int) := by omega
     have i2 : (q : Int) ≤ (c' : Int) := by omega
     have i3 : (m : Int) ≤ (c' : Int) := by omega
     have HA : Hid ((wr.alloc (.cells #[.int .u8 255] TB)).cell? ⟨wr.heap.size, 0, none⟩ = some (.int .u8 255)) := Lib.hid (by rw [bcell (blk_new wr _)]; rfl)
     have htc := fun (W : World) (hW : Below wr.heap.size wr W) => C_cells (Kd.C_below (Kd.C_take HCR.out (show m ≤ cs.length by have := HQ.out; omega)) (HB.out.trans (hW.mono HB.out.size))) (by rw [htl]; omega)
     have HTC := Lib.hid htc
     have hdc := Kd.C_drop (m := m) (c := c') HCR.out (by have := HQ.out; omega) HCC.out
     have hz : m * kB.sz = m := Nat.mul_one m
     rw [hz, if_neg hcm] at hdc
     have HDC := Lib.hid hdc
     have hdl : (cs.drop m).length = q - m := by rw [List.length_drop, HQ.out]
     have HDL := Lib.hid hdl
     have hro := fun k hk => pad_own HR.out k hk
     have HRO := Lib.hid hro
     clear htl htk hdr hpl hca htc hdc hz hdl hro
     go_wp2_with (first
      | (go_at_call 101; (with_reducible refine (Repeat_any _ m _ HA.out (by omega) (by omega)).mono ?_); rintro e w1 ⟨g, cur, rfl, hg1, hg2, hg3, hg4, hb1⟩; have G1 : Hid (wr.heap.size ≤ g) := Lib.hid (by simp at hg1; omega); have G2 := Lib.hid hg2; have G3 := Lib.hid hg3; have G4 := Lib.hid hg4; have HB1 : Aside0 (Below wr.heap.size wr w1) := Aside0.mk ((below_alloc (Below.refl _ _) _).trans (hb1.mono (by simp))); clear hg1 hg2 hg3 hg4 hb1 HA)
      | ((with_reducible refine gate_builtin (b := .copy) rfl ?_); refine wpList_copy_splice rfl (.tmp 21) (.tmp 24) 25 25 rfl TB Tryz.underlying25 size_u8 _ _ _ _ _ _ rfl rfl g 0 cur TB G2.out ((cs.take m).map (Value.int .u8)) HM.out (fun h0 => ⟨rfl, HTC.out _ HB1.out⟩) (by simp only [Nat.zero_add]; rw [HM.out]; exact Nat.le_trans (Nat.min_le_right m m) G4.out) (u8_one _) wr.heap.size wr HB1.out G1.out ?_; intro w2 hg2 hb2; have G5 := hg2; have HB2 := Aside0.mk hb2; clear hg2 hb2)
      | (at_builtin; refine Kd.R_append kData (w0 := w) w.heap.size rfl (.tmp 26) (.tmp 28) 158 25 (.slice none 0 0) 24 rfl Tryz.underlying158 info_row rfl (by decide) (by decide) (.slice A5 rows.length c5) rows (full m (cs.take m)) [.slice (some ⟨g, 0, none⟩) m m] (fun j => w.heap.size ≤ j) (fun k => wr.heap.size ≤ k) rfl (by simp [Act.eval]) (pad_row HB.out G1.out G3.out G4.out G5.out (by rw [HTL.out]; omega) (by omega) HB.out.size) (fun k hk => ⟨Nat.le_trans HB.out.size hk, fun e => by have := HRO.out k e.symm; omega⟩) (fun i hi => Nat.le_trans HB.out.size (Nat.le_trans HB2.out.size hi)) (Kd.R_below HR.out HB2.out) (HB.out.trans (HB2.out.mono HB.out.size)) (Nat.le_trans HB.out.size HB2.out.size) (by have := HRL.out; omega) ?_; intro v1 w3 hr1 hb3 _ _; have HR1 := Aside0.mk hr1; have HB3 := Aside0.mk hb3; clear hr1 hb3))
     have hpd : (rows ++ [full m (cs.take m)]) ++ padL m (cs.drop m) = padL m bs := by
      rw [List.append_assoc]
      show rows ++ (full m (cs.take m) :: padL m (cs.drop m)) = _
      rw [← HPL.out, HPAD.out]
     exact ⟨⟨_, c' - m, cs.drop m, rows ++ [full m (cs.take m)], by rw [HDL.out]; simp [hcm], by rw [HDL.out]; omega, HDC.out, by rw [HDL.out]; have := HRL.out; have := HQ.out; simp; omega, hpd, HR1.out, HB3.out⟩, by simp [sliceLen]; omega⟩
end
theorem padL_len {n : Nat} (hn : 1 ≤ n) : ∀ (k : Nat) (bs : List Int), bs.length ≤ k → (padL n bs).length = (bs.length + n - 1) / n
 | 0, bs, h => by
  have : bs = [] := List.eq_nil_of_length_eq_zero (by omega)
  rw [this, padL_nil]
  simp
  exact (Nat.div_eq_of_lt (by omega)).symm
 | k + 1, bs, h => by
  by_cases h0 : 0 < bs.length
  ·rw [padL_cons h0 hn, List.length_cons, padL_len hn k (bs.drop n) (by rw [List.length_drop]; omega), List.length_drop]
   by_cases h1 : n ≤ bs.length
   ·rw [show bs.length + n - 1 = (bs.length - n + n - 1) + n by omega, Nat.add_div_right _ (by omega)]
   ·rw [show bs.length - n + n - 1 = n - 1 by omega, Nat.div_eq_of_lt (show n - 1 < n by omega), show bs.length + n - 1 = bs.length - 1 + n by omega, Nat.add_div_right _ (by omega), Nat.div_eq_of_lt (show bs.length - 1 < n by omega)]
  ·have : bs = [] := List.eq_nil_of_length_eq_zero (by omega)
   rw [this, padL_nil]
   simp
   exact (Nat.div_eq_of_lt (by omega)).symm
end Go.Proofs.YtmbiebdcnadhkaaGreat.Fl
namespace Go.Proofs.YtmbiebdcnadhkaaGreat.Fl
def chunkL (n : Nat) (bs : List Int) : List (List Int) := if h : bs = [] ∨ n = 0 then [] else bs.take n :: chunkL n (bs.drop n)
termination_by bs.length
decreasing_by
 have h1 : bs ≠ [] := fun e => h (.inl e)
 have h2 : n ≠ 0 := fun e => h (.inr e)
 have h3 : 0 < bs.length := List.length_pos_iff.2 h1
 simp only [List.length_drop]
 omega
theorem chunkL_nil (n : Nat) : chunkL n [] = [] := by rw [chunkL]; simp
theorem chunkL_cons {n : Nat} {bs : List Int} (h0 : 0 < bs.length) (hn : 1 ≤ n) : chunkL n bs = bs.take n :: chunkL n (bs.drop n) := by
 rw [chunkL, dif_neg]
 rintro (h | h)
 ·rw [h] at h0; simp at h0
 ·omega
theorem padL_chunk {n : Nat} (hn : 1 ≤ n) : ∀ (k : Nat) (bs : List Int), bs.length ≤ k → padL n bs = (chunkL n bs).map (full n)
 | 0, bs, h => by
  have : bs = [] := List.eq_nil_of_length_eq_zero (by omega)
  rw [this, padL_nil, chunkL_nil]
  rfl
 | k + 1, bs, h => by
  by_cases h0 : 0 < bs.length
  ·rw [padL_cons h0 hn, chunkL_cons h0 hn, padL_chunk hn k (bs.drop n) (by rw [List.length_drop]; omega)]
   rfl
  ·have : bs = [] := List.eq_nil_of_length_eq_zero (by omega)
   rw [this, padL_nil, chunkL_nil]
   rfl
theorem padL_chunks {n : Nat} (hn : 1 ≤ n) (bs : List Int) : padL n bs = (chunkL n bs).map (full n) := padL_chunk hn _ bs (Nat.le_refl _)
theorem chunk_len {n : Nat} (hn : 1 ≤ n) (bs : List Int) : (chunkL n bs).length = (bs.length + n - 1) / n := by
 have := padL_len hn bs.length bs (Nat.le_refl _)
 rw [padL_chunks hn, List.length_map] at this
 exact this
theorem chunk_get {n : Nat} (hn : 1 ≤ n) : ∀ (i : Nat) (bs row : List Int), (chunkL n bs)[i]? = some row → i * n < bs.length ∧ row = (bs.drop (i * n)).take n
 | 0, bs, row, h => by
  by_cases h0 : 0 < bs.length
  ·rw [chunkL_cons h0 hn] at h
   simp at h
   exact ⟨by omega, by rw [← h]; simp⟩
  ·have : bs = [] := List.eq_nil_of_length_eq_zero (by omega)
   rw [this, chunkL_nil] at h
   cases h
 | i + 1, bs, row, h => by
  by_cases h0 : 0 < bs.length
  ·rw [chunkL_cons h0 hn, List.getElem?_cons_succ] at h
   obtain ⟨h1, h2⟩ := chunk_get hn i (bs.drop n) row h
   rw [List.length_drop] at h1
   rw [List.drop_drop] at h2
   have e : (i + 1) * n = n + i * n := by rw [Nat.succ_mul, Nat.add_comm]
   exact ⟨by omega, by rw [e]; exact h2⟩
  ·have : bs = [] := List.eq_nil_of_length_eq_zero (by omega)
   rw [this, chunkL_nil] at h
   cases h
def wrD (a b : Int) : List (List Int) → PD → PD
 | [], D => D
 | r :: rs, D => wrD a (b + 1) rs (writeD D a b r)
def wrP (s : Int × Int × Int) (a b : Int) : List (List Int) → List Pg → List Pg
 | [], ps => ps
 | r :: rs, ps => wrP s a (b + 1) rs (rwP s ps a b r)
theorem wrD_snoc (a : Int) (r : List Int) : ∀ (rs : List (List Int)) (b : Int) (D : PD), wrD a b (rs ++ [r]) D = writeD (wrD a b rs D) a (b + rs.length) r
 | [], b, D => by simp [wrD]
 | q :: rs, b, D => by
  show wrD a (b + 1) (rs ++ [r]) (writeD D a b q) = _
  rw [wrD_snoc a r rs]
  show writeD (wrD a (b + 1) rs _) a (b + 1 + rs.length) r = writeD (wrD a (b + 1) rs _) a (b + ((rs.length + 1 : Nat) : Int)) r
  rw [show b + 1 + (rs.length : Int) = b + ((rs.length + 1 : Nat) : Int) by omega]
theorem wrP_snoc (s : Int × Int × Int) (a : Int) (r : List Int) : ∀ (rs : List (List Int)) (b : Int) (ps : List Pg), wrP s a b (rs ++ [r]) ps = rwP s (wrP s a b rs ps) a (b + rs.length) r
 | [], b, ps => by simp [wrP]
 | q :: rs, b, ps => by
  show wrP s a (b + 1) (rs ++ [r]) (rwP s ps a b q) = _
  rw [wrP_snoc s a r rs]
  show rwP s (wrP s a (b + 1) rs _) a (b + 1 + rs.length) r = rwP s (wrP s a (b + 1) rs _) a (b + ((rs.length + 1 : Nat) : Int)) r
  rw [show b + 1 + (rs.length : Int) = b + ((rs.length + 1 : Nat) : Int) by omega]
theorem writeD_s (D : PD) (a b : Int) (l : List Int) : (writeD D a b l).s = D.s := by
 unfold writeD
 split <;> rfl
theorem wrD_s (a : Int) : ∀ (rs : List (List Int)) (b : Int) (D : PD), (wrD a b rs D).s = D.s
 | [], _, _ => rfl
 | r :: rs, b, D => by
  show (wrD a (b + 1) rs (writeD D a b r)).s = D.s
  rw [wrD_s a rs, writeD_s]
theorem full_full {n : Nat} {l : List Int} (h : l.length ≤ n) : full n (full n l) = full n l := full_self (full_length h)
theorem writeD_full {D : PD} {a b : Int} {l : List Int} (hs : 0 ≤ D.s.2.2) (h : l.length ≤ D.s.2.2.toNat) : writeD D a b (full D.s.2.2.toNat l) = writeD D a b l := by
 have h1 : (full D.s.2.2.toNat l).length = D.s.2.2.toNat := full_length h
 have he : writeE D a b (full D.s.2.2.toNat l) = writeE D a b l := by
  unfold writeE
  rw [h1]
  have e1 : ¬ D.s.2.2 < ((D.s.2.2.toNat : Nat) : Int) := by omega
  have e2 : ¬ D.s.2.2 < (l.length : Int) := by omega
  rw [if_neg e1, if_neg e2]
 unfold writeD
 rw [he]
 unfold numB
 rw [full_full h]
variable {D : PD} {s : Int × Int × Int} {ps : List Pg}
theorem Sim.wr (a : Int) : ∀ (rs : List (List Int)) (b : Int) (D : PD) (ps : List Pg), Sim D s ps → Sim (wrD a b rs D) s (wrP s a b rs ps)
 | [], _, _, _, h => h
 | r :: rs, b, D, ps, h => Sim.wr a rs (b + 1) _ _ (h.write a b r)
theorem BytP.wr (a : Int) : ∀ (rs : List (List Int)) (b : Int) (ps : List Pg), BytP ps → (∀ r ∈ rs, Byt r) → BytP (wrP s a b rs ps)
 | [], _, _, h, _ => h
 | r :: rs, b, ps, h, k => BytP.wr a rs (b + 1) _ (h.write a b (k r (by simp))) (fun q hq => k q (by simp [hq]))
theorem wrP_len (s : Int × Int × Int) (a : Int) : ∀ (rs : List (List Int)) (b : Int) (ps : List Pg), (wrP s a b rs ps).length ≤ ps.length + rs.length
 | [], _, _ => Nat.le_refl _
 | r :: rs, b, ps => by
  have h1 := wrP_len s a rs (b + 1) (rwP s ps a b r)
  have h2 := rwP_len s ps a b r
  show (wrP s a (b + 1) rs (rwP s ps a b r)).length ≤ _
  rw [List.length_cons]
  omega
theorem chunk_byt {n : Nat} (hn : 1 ≤ n) {bs : List Int} (h : Byt bs) : ∀ r ∈ chunkL n bs, Byt r := fun r hr => by
 obtain ⟨i, hi, e⟩ := List.getElem_of_mem hr
 obtain ⟨_, h2⟩ := chunk_get hn i bs r (by rw [← e, List.getElem?_eq_getElem hi])
 rw [h2]
 exact (h.drop _).take _
theorem chunk_le {n : Nat} (hn : 1 ≤ n) {bs : List Int} : ∀ r ∈ chunkL n bs, r.length ≤ n := fun r hr => by
 obtain ⟨i, hi, e⟩ := List.getElem_of_mem hr
 obtain ⟨_, h2⟩ := chunk_get hn i bs r (by rw [← e, List.getElem?_eq_getElem hi])
 rw [h2, List.length_take]
 omega
def kpg (s : Int × Int × Int) (n : Nat) : Nat := (n + 16 + s.2.2.toNat - 1) / s.2.2.toNat
def anyUsed (a b : Int) (k : Nat) (ps : List Pg) : Bool := (List.range k).any (fun i => decide (0 ≤ findI a (b + (i : Int)) ps))
def appR (s : Int × Int × Int) (ps : List Pg) (a b : Int) (n : Nat) : Int × Int :=
 if hasB s a b = false then (0, 6) else if 4096 < n then (0, 10) else if s.2.1 < b + (kpg s n : Int) then (0, 5) else if anyUsed a b (kpg s n) ps = true then (0, 7) else ((kpg s n : Int), 0)
def appP (s : Int × Int × Int) (ps : List Pg) (a b : Int) (n : Nat) (bs : List Int) : List Pg := if (appR s ps a b n).2 = 0 then wrP s a b (chunkL s.2.2.toNat bs) ps else ps
def anyUsedD (a b : Int) (k : Nat) (D : PD) : Bool := (List.range k).any (fun i => usedB D a (b + (i : Int)))
def appE (D : PD) (a b : Int) (n : Nat) : Int × Int :=
 if hasB D.s a b = false then (0, 6) else if 4096 < n then (0, 10) else if D.s.2.1 < b + (kpg D.s n : Int) then (0, 5) else if anyUsedD a b (kpg D.s n) D = true then (0, 7) else ((kpg D.s n : Int), 0)
def appD (D : PD) (a b : Int) (n : Nat) (bs : List Int) : PD := if (appE D a b n).2 = 0 then wrD a b (chunkL D.s.2.2.toNat bs) D else D
theorem Sim.appE (h : Sim D s ps) (a b : Int) (n : Nat) : Fl.appE D a b n = appR s ps a b n := by
 unfold Fl.appE appR
 have hu : anyUsedD a b (kpg D.s n) D = anyUsed a b (kpg s n) ps := by
  unfold anyUsedD anyUsed
  rw [h.sh]
  congr 1
  funext i
  exact h.used _ _
 rw [hu, h.sh]
theorem Sim.app (h : Sim D s ps) (a b : Int) (n : Nat) (bs : List Int) : Sim (appD D a b n bs) s (appP s ps a b n bs) := by
 unfold appD appP
 rw [h.appE, h.sh]
 split
 ·exact Sim.wr a _ b D ps h
 ·exact h
end Go.Proofs.YtmbiebdcnadhkaaGreat.Fl
namespace Go.Proofs.YtmbiebdcnadhkaaGreat.Hand
open Go.RowKit Go.Proofs.YtmbiebdcnadhkaaGreatW.PrintWords
theorem C_cell {k : IntKind} {w : World} {A : Option Addr} {n : Nat} {l : List Int} (h : (Kd.int k).C w A n l) (i : Nat) (hi : i < n) :
  ∃ ad, A = some ad ∧ w.cell? (ad.add i) = some (.int k (rd l (i : Int))) := by
 have h' := (Kd.reads_of_C (d := (0 : Int)) h).at_ (i : Int) (by omega) (by omega)
 simpa [rdOf, rd] using h'
theorem C_take {α : Type} {d : Kd α} {w : World} {A : Option Addr} {n : Nat} {l : List α} (h : d.C w A n l) (i : Nat) (hi : i ≤ n) : d.C w A i (l.take i) := by
 obtain ⟨h1, h2, h3⟩ := h
 refine ⟨by rw [List.length_take]; omega, by omega, fun hp => ?_⟩
 obtain ⟨ad, e, hc⟩ := h3 (by omega)
 refine ⟨ad, e, fun j p hj => hc j p ?_⟩
 rw [List.getElem?_take] at hj
 split at hj
 ·exact hj
 ·cases hj
theorem bcell {W w1 : World} (hb : Below W.heap.size W w1) : (∀ b o, b < W.heap.size → w1.cell? ⟨b, o, none⟩ = W.cell? ⟨b, o, none⟩) ∧ (∀ b o, b < W.heap.size → w1.frozen? ⟨b, o, none⟩ = W.frozen? ⟨b, o, none⟩) :=
 ⟨fun b o h => hb.cell (p := ⟨b, o, none⟩) h, fun b o h => hb.frozen (p := ⟨b, o, none⟩) h⟩
end Go.Proofs.YtmbiebdcnadhkaaGreat.Hand
namespace Go.Proofs.YtmbiebdcnadhkaaGreat.Hand
open Go.RowKit Go.Proofs.YtmbiebdcnadhkaaGreatW.PrintWords Go.Proofs.YtmbiebdcnadhkaaGreatW.PrintLast Go.Proofs.YtmbiebdcnadhkaaGreatW.PrintMore
theorem info_u8 : (Tryz.prog.info? 5).map (fun i => (i.zero, i.size, i.bytes)) = some (some (.int .u8 0), 1, 1) := by kernel_rfl
set_option maxHeartbeats 400000 in
set_option maxRecDepth 100000 in
theorem grow_any (n : Int) (w : World) (h0 : 0 < n) (hl : n ≤ 140737488355328) :
  Calls Tryz.prog 151 #[.slice none 0 0, .int .i64 n] w fun e w' => ∃ v0_ : Value, e = .returned (v0_) ∧ Kd.R (Kd.int .u8) 5 w' w.heap.size (fun _ => True) v0_ ([] : List Int) ∧ Below w.heap.size w w' := by
 have HB := Aside0.mk (Below.refl w.heap.size w)
 have h1 : 0 ≤ n := by omega
 have h2 : n ≤ 9223372036854775807 := by omega
 go_enter Tryz.func151, Tryz.ntmps151
 go_wp2_with (first | (at_builtin; refine Kd.R_append_zeros (Kd.int .u8) (w0 := w) w.heap.size rfl (.tmp 20) (.tmp 21) 25 3 5 (.int .u8 0) 1 rfl Tryz.underlying25 Tryz.underlying3 info_u8 rfl (by decide) (by decide) (.slice none 0 0) [] (0 : Int) n (fun _ => True) rfl rfl (by rfl) (fun _ _ => trivial) (Kd.R_nil _ _ _ _ _) h1 HB.out HB.out.size (by simp; omega) ?_; intro v1 w1 ho hb hg hat; clear hg hat; obtain ⟨A1, c1, e1⟩ := Kd.R_slice ho; subst e1; have HO := Aside0.mk (Kd.R_take ho (Nat.zero_le _)); have HB1 := Aside0.mk hb; clear ho hb))
 go_ret
 exact ⟨_, rfl, HO.out, HB1.out⟩
set_option maxHeartbeats 1000000 in
set_option maxRecDepth 100000 in
theorem concat_any (g : Nat) (A B : Option Addr) (ca cb : Nat) (a b : List Int) (w : World) (h0 : w.cell? ⟨g, 0, none⟩ = some (.slice A a.length ca)) (h1 : w.cell? ⟨g, 1, none⟩ = some (.slice B b.length cb))
  (hA : Kd.C (Kd.int .u8) w A a.length a) (hB : Kd.C (Kd.int .u8) w B b.length b) (hp : 0 < a.length + b.length) (hl : a.length + b.length ≤ 1000000) :
  Calls Tryz.prog 147 #[.slice (some ⟨g, 0, none⟩) 2 2] w fun e w' => ∃ v0_ : Value, e = .returned (v0_) ∧ Kd.R (Kd.int .u8) 5 w' w.heap.size (fun _ => True) v0_ (a ++ b) ∧ Below w.heap.size w w' := by
 have HA := Aside0.mk hA
 have HB := Aside0.mk hB
 have HB0 := Aside0.mk (Below.refl w.heap.size w)
 clear hA hB
 have hla : (a.length : Int) ≤ 1000000 := by omega
 have hlb : (b.length : Int) ≤ 1000000 := by omega
 go_enter Tryz.func147, Tryz.ntmps147
 go_wp2
 go_loop [3, 11] (fun v3 v11 => ∃ k : Nat, k ≤ 2 ∧ v11 = .int .i64 (k : Int) ∧ v3 = .int .i64 (if k = 0 then 0 else if k = 1 then (a.length : Int) else (a.length : Int) + (b.length : Int))) (fun _ v11 => 2 - (intOf v11).toNat)
 case atStart => exact ⟨0, by omega, rfl, rfl⟩
 case round =>
  obtain ⟨k, hk, rfl, rfl⟩ := hrel
  match k, hk with
  | 0, _ =>
   go_wp2
   go_round
   case rel => exact ⟨1, by omega, rfl, rfl⟩
   case measure => simp [intOf]
  | 1, _ =>
   go_wp2
   go_round
   case rel => exact ⟨2, by omega, rfl, by simp⟩
   case measure => simp [intOf]
  | 2, _ =>
   have hpos : (0 : Int) < (a.length : Int) + (b.length : Int) := by omega
   go_wp2_with (first | (go_at_call 151; refine (grow_any _ _ hpos (by omega)).mono ?_; rintro e w1 ⟨v1, rfl, ho, hb⟩; have HO1 := Aside0.mk ho; have HB1 := Aside0.mk hb; clear ho hb))
   have c0 : w1.cell? ⟨g, 0, none⟩ = some (.slice A a.length ca) := by rw [HB1.out.cell (World.block_lt_of_cell? w _ h0)]; exact h0
   have c1 : w1.cell? ⟨g, 1, none⟩ = some (.slice B b.length cb) := by rw [HB1.out.cell (World.block_lt_of_cell? w _ h1)]; exact h1
   have hg := World.block_lt_of_cell? w _ h0
   clear h0 h1
   go_loopw [6, 27] (fun v6 v27 wr => ∃ (k : Nat) (v : Value), k ≤ 2 ∧ v27 = .int .i64 (k : Int) ∧ v = v6 ∧ Below w.heap.size w wr ∧ Kd.R (Kd.int .u8) 5 wr w.heap.size (fun _ => True) v (if k = 0 then [] else if k = 1 then a else a ++ b)) (fun _ v27 _ => 2 - (intOf v27).toNat)
   case atStart => exact ⟨0, _, by omega, rfl, rfl, HB1.out, HO1.out⟩
   case round =>
    obtain ⟨k, v, hk, rfl, rfl, hb2, ho2⟩ := hrel
    have HB2 := Aside0.mk hb2
    have d0 : wr.cell? ⟨g, 0, none⟩ = some (.slice A a.length ca) := by rw [hb2.cell (p := ⟨g, 0, none⟩) hg, ← HB1.out.cell (p := ⟨g, 0, none⟩) hg, c0]
    have d1 : wr.cell? ⟨g, 1, none⟩ = some (.slice B b.length cb) := by rw [hb2.cell (p := ⟨g, 1, none⟩) hg, ← HB1.out.cell (p := ⟨g, 1, none⟩) hg, c1]
    clear c0 c1 hb2
    match k, hk with
    | 0, _ =>
     have HO2 : Aside0 (Kd.R (Kd.int .u8) 5 wr w.heap.size (fun _ => True) v ([] : List Int)) := Aside0.mk ho2
     clear ho2
     go_wp2_with (first | (at_builtin; refine Kd.R_append_row (Value.int .u8) (0 : Int) (w0 := w) w.heap.size rfl (.tmp 31) (.tmp 32) 25 5 (.int .u8 0) 1 rfl Tryz.underlying25 info_u8 rfl (by decide) v [] a A a.length ca (fun _ => True) rfl rfl (fun _ _ => trivial) HO2.out (Kd.C_below HA.out HB2.out) HB2.out HB2.out.size (by simp; omega) ?_; intro v2 w2 ho3 hb3 hg3 hat3; clear hg3 hat3; have HO3 := Aside0.mk ho3; have HB3 := Aside0.mk hb3; clear ho3 hb3))
     go_roundw
     case rel => exact ⟨1, _, by omega, rfl, rfl, HB3.out, HO3.out⟩
     case measure => simp [intOf]
    | 1, _ =>
     have HO2 : Aside0 (Kd.R (Kd.int .u8) 5 wr w.heap.size (fun _ => True) v a) := Aside0.mk ho2
     clear ho2
     go_wp2_with (first | (at_builtin; refine Kd.R_append_row (Value.int .u8) (0 : Int) (w0 := w) w.heap.size rfl (.tmp 31) (.tmp 32) 25 5 (.int .u8 0) 1 rfl Tryz.underlying25 info_u8 rfl (by decide) v a b B b.length cb (fun _ => True) rfl rfl (fun _ _ => trivial) HO2.out (Kd.C_below HB.out HB2.out) HB2.out HB2.out.size (by simp; omega) ?_; intro v2 w2 ho3 hb3 hg3 hat3; clear hg3 hat3; have HO3 := Aside0.mk ho3; have HB3 := Aside0.mk hb3; clear ho3 hb3))
     go_roundw
     case rel => exact ⟨2, _, by omega, rfl, rfl, HB3.out, HO3.out⟩
     case measure => simp [intOf]
    | 2, _ =>
     have HO2 := Aside0.mk ho2
     clear ho2
     go_wp2
     go_ret
     exact ⟨_, rfl, HO2.out, HB2.out⟩
set_option maxHeartbeats 400000 in
set_option maxRecDepth 100000 in
theorem clone_any (A0 : Option Addr) (c0 : Nat) (l0 : List Int) (w : World) (hr0 : Kd.C (Kd.int .u8) w A0 l0.length l0) (hl : l0.length * 1 ≤ 140737488355328) :
  Calls Tryz.prog 137 #[.slice A0 l0.length c0] w fun e w' => ∃ v0_ : Value, e = .returned (v0_) ∧ Kd.R (Kd.int .u8) 5 w' w.heap.size (fun _ => True) v0_ l0 ∧ Below w.heap.size w w' := by
 have HR0 := Aside0.mk hr0
 have HL := Aside0.mk hl
 have HB := Aside0.mk (Below.refl w.heap.size w)
 clear hr0 hl
 have en := fun (w : World) (a : Option Addr) (n c : Nat) => Lib.run_eql_slice_nil (P := Tryz.prog) w 25 5 a n c 0 0 Tryz.underlying25
 cases A0 with
 | none =>
  obtain rfl : l0 = [] := by
   by_cases h : 0 < l0.length
   ·obtain ⟨ad, e, _⟩ := HR0.out.2.2 h
    cases e
   ·exact List.eq_nil_of_length_eq_zero (by omega)
  go_enter Tryz.func137, Tryz.ntmps137
  go_wp2
  go_ret
  exact ⟨_, rfl, Kd.R_nil _ _ _ _ _, HB.out⟩
 | some ad =>
  go_enter Tryz.func137, Tryz.ntmps137
  go_wp2_with (first | ((with_reducible refine gate_dst (N := 5) rfl ?_); refine Kd.R_lit (Kd.int .u8) w.heap.size 5 ?hg (N := 5) ?hd (xs := ([] : List Int)) (inner := []) (ok := fun _ => True) (okp := fun _ => True) ?hr ?hp (fun _ hk => hk) trivial (Below.refl _ _) (Nat.le_refl _) (by simp) ?_; (case hd => rfl); (case hg => rfl); (case hr => first | (go_simp; done) | (go_simp; rfl)); (case hp => exact Reps.none _ _); intro v1 w1 ho hb hg_ hnew_; clear hg_ hnew_; have HO := Aside0.mk ho; have HB1 := Aside0.mk hb; clear ho hb) | (at_builtin; refine Kd.R_append_row (Value.int .u8) (0 : Int) (w0 := w) w.heap.size rfl (.tmp 5) (.tmp 6) 25 5 (.int .u8 0) 1 rfl Tryz.underlying25 info_u8 rfl (by decide) v1 [] l0 (some ad) l0.length c0 (fun _ => True) rfl rfl (fun _ _ => trivial) HO.out (Kd.C_below HR0.out HB1.out) HB1.out HB1.out.size (by have := HL.out; simp; omega) ?_; intro v2 w2 ho2 hb2 hg2 hat2; clear hg2 hat2; have HO2 := Aside0.mk ho2; have HB2 := Aside0.mk hb2; clear ho2 hb2))
  go_ret
  exact ⟨_, rfl, HO2.out, HB2.out⟩
end Go.Proofs.YtmbiebdcnadhkaaGreat.Hand
