/- The device: used, read, written, synced, made: walked. No condition. -/
import Derived.Test.YtkmanjfmffdcbaaFlRep
import Derived.Deep.RegionHeld3
import Derived.StillTailTactics
namespace Go.Proofs.Ytkmanjfmffdcbaa.Fl
open Go.RowKit Go.Proofs.YtkmanjfmffdcbaaW.PrintWords Go.Proofs.YtkmanjfmffdcbaaW.PrintMore Go.Maps
set_option linter.unusedSimpArgs false
set_option linter.unusedVariables false
def usedB (D : PD) (a b : Int) : Bool := hasB D.s a b && (look (a, b) D.mp).isSome
def numB (D : PD) : Nat := D.s.2.2.toNat
theorem TD_ne : TB ≠ TD ∧ TA ≠ TD ∧ TB ≠ TA := ⟨by decide, by decide, by decide⟩
theorem DevAt.setDirty {N0 p : Nat} {D : PD} {ok : Nat → Prop} {w : World} {m : Nat} {v : Value} {es : Array MapEntry} {ck : Nat} (h : DevAt N0 p D ok w m v es ck) {v2 : Value} {d2 : List Adr} (hd : kAddr.R TA (w.setCell ⟨p, 4, none⟩ v2) N0 ok v2 d2) (hi : ∀ a ∈ d2, InR a) :
    DevIs N0 p { D with dirty := d2 } ok (w.setCell ⟨p, 4, none⟩ v2) := by
  refine ⟨m, v2, es, ck, h.base, h.okp, by rw [bset h.blk]; rfl, h.okm, h.basem, ?_, ?_, hd, h.shape, hi, h.nodup, h.lens⟩
  · rw [Below.heap_setCell _ _ _ _ (Ne.symm (map_ne h.blk h.map))]
    exact h.map
  · exact h.ents.imp (fun _ _ hr => hr.typed (fun k cs hk _ => Below.heap_setCell _ _ _ _ (not_typ h.blk TD_ne.1 hk)))
section
variable {N0 p : Nat} {D : PD} {ok : Nat → Prop} {w : World}
set_option maxHeartbeats 1000000 in
set_option maxRecDepth 100000 in
theorem Used_any (hD : DevIs N0 p D ok w) (a b : Int) : Calls Try.prog 39 #[.pointer (some ⟨p, 0, none⟩), .int .i64 a, .int .i64 b] w fun e w' => e = .returned (.bool (usedB D a b)) ∧ w = w' := by
  obtain ⟨m, v, es, ck, hD⟩ := hD
  have HS := Lib.hid hD.shape
  have HP := Lib.hid hD.blk
  cases hb : hasB D.s a b with
  | true =>
    obtain ⟨v1, hr, _⟩ := run_look hD.map hD.ents hD.nodup (hasB_inr hD.shape hb) true
    have hL : (Instr.lookup TM (.map (some m)) (.agg #[.int .i64 a, .int .i64 b]) true).run Try.prog w = .ok (.tuple #[v1, .bool (look (a, b) D.mp).isSome]) w := hr
    have HR := Lib.hid (show usedB D a b = (look (a, b) D.mp).isSome by simp [usedB, hb])
    have hc3 : w.cell? ⟨p, 3, none⟩ = some (.map (some m)) := bcell hD.blk 3
    have HE := Lib.hid (show hasE D.s a b = 0 by simp [hasE, hb])
    clear hb hr hD
    go_enter Try.func39, Try.ntmps39
    go_wp2_with (go_at_call 69; (with_reducible refine (has_blk HS.out HP.out a b).mono ?_); rw [HE.out]; rintro e w' ⟨rfl, rfl⟩)
    go_ret
    exact ⟨by rw [HR.out]; rfl, rfl⟩
  | false =>
    have HR := Lib.hid (show usedB D a b = false by simp [usedB, hb])
    have HE := Lib.hid (show hasE D.s a b = 6 by simp [hasE, hb])
    clear hb hD
    go_enter Try.func39, Try.ntmps39
    go_wp2_with (go_at_call 69; (with_reducible refine (has_blk HS.out HP.out a b).mono ?_); rw [HE.out]; rintro e w' ⟨rfl, rfl⟩)
    go_ret
    exact ⟨by rw [HR.out]; rfl, rfl⟩
/-- What a page reads as. -/
def readD (D : PD) (a b : Int) : List Int := full (numB D) ((look (a, b) D.mp).getD [])
def gotD (D : PD) (a b : Int) : List Int := if hasB D.s a b then readD D a b else []
theorem look_len (h : ∀ q ∈ D.mp, q.2.length = D.s.2.2.toNat) (c : Adr) : ((look c D.mp).getD []).length ≤ D.s.2.2.toNat := by
  cases hl : look c D.mp with
  | none => simp
  | some l => simpa using Nat.le_of_eq (h _ (look_mem hl))
set_option maxHeartbeats 1000000 in
set_option maxRecDepth 100000 in
theorem Read_any (hD : DevIs N0 p D ok w) (a b : Int) : Calls Try.prog 38 #[.pointer (some ⟨p, 0, none⟩), .int .i64 a, .int .i64 b] w fun e w' => ∃ v, e = .returned (.tuple #[v, .int .i64 (hasE D.s a b)]) ∧ Row w' w.heap.size (fun k => w.heap.size ≤ k) v (gotD D a b) ∧ Below w.heap.size w w' := by
  obtain ⟨m, v, es, ck, hD⟩ := hD
  have HS := Lib.hid hD.shape
  have HP := Lib.hid hD.blk
  cases hb : hasB D.s a b with
  | true =>
    obtain ⟨v1, hr, hrow⟩ := run_look hD.map hD.ents hD.nodup (hasB_inr hD.shape hb) false
    obtain ⟨A, c, rfl, hlc, hC⟩ := hrow.reads
    have hL : (Instr.lookup TM (.map (some m)) (.agg #[.int .i64 a, .int .i64 b]) false).run Try.prog w = .ok (.slice A ((look (a, b) D.mp).getD []).length c) w := hr
    have hc3 : w.cell? ⟨p, 3, none⟩ = some (.map (some m)) := bcell hD.blk 3
    have HE := Lib.hid (show hasE D.s a b = 0 by simp [hasE, hb])
    have HC := Aside0.mk hC
    have HL := Lib.hid (look_len hD.lens (a, b))
    obtain ⟨l, hl⟩ : ∃ l, l = (look (a, b) D.mp).getD [] := ⟨_, rfl⟩
    rw [← hl] at hL HC HL
    have hq : gotD D a b = full D.s.2.2.toNat l := by rw [gotD, if_pos hb, readD, ← hl]; rfl
    have HQ := Lib.hid hq
    clear hb hr hD hC hrow hlc hl hq
    go_enter Try.func38, Try.ntmps38
    go_wp2_with (first | (go_at_call 69; (with_reducible refine (has_blk HS.out HP.out a b).mono ?_); rw [HE.out]; rintro e w' ⟨rfl, rfl⟩) | (go_at_call 70; (with_reducible refine (filled_blk HS.out HP.out A c l HC.out HL.out).mono ?_); rintro e w1 ⟨v1, rfl, hrow, hbel⟩; have HR := Aside0.mk hrow; have HB := Aside0.mk hbel; clear hrow hbel))
    go_ret2
    exact ⟨v1, by rw [HE.out]; rfl, by rw [HQ.out]; exact HR.out, HB.out⟩
  | false =>
    have HE := Lib.hid (show hasE D.s a b = 6 by simp [hasE, hb])
    have HQ := Lib.hid (show gotD D a b = [] by simp [gotD, hb])
    clear hb hD
    go_enter Try.func38, Try.ntmps38
    go_wp2_with (go_at_call 69; (with_reducible refine (has_blk HS.out HP.out a b).mono ?_); rw [HE.out]; rintro e w' ⟨rfl, rfl⟩)
    go_ret2
    exact ⟨.slice none 0 0, by rw [HE.out]; rfl, by rw [HQ.out]; exact Row.nil _ _ _, Below.refl _ _⟩
set_option maxHeartbeats 1000000 in
set_option maxRecDepth 100000 in
theorem Dirty_any (hD : DevIs N0 p D ok w) : Calls Try.prog 40 #[.pointer (some ⟨p, 0, none⟩)] w fun e w' => e = .returned (.int .i64 (D.dirty.length : Int)) ∧ w = w' := by
  obtain ⟨m, v, es, ck, hD⟩ := hD
  have HP := Lib.hid hD.blk
  obtain ⟨A, c, rfl⟩ := Kd.R_slice hD.dirty
  have hc4 : w.cell? ⟨p, 4, none⟩ = some (.slice A D.dirty.length c) := bcell hD.blk 4
  clear hD
  go_enter Try.func40, Try.ntmps40
  go_wp2_with (go_at_call 68; (with_reducible refine (ok_blk HP.out).mono ?_); rintro e w' ⟨rfl, rfl⟩)
  go_ret
  exact ⟨rfl, rfl⟩
theorem Shape_any (hD : DevIs N0 p D ok w) : Calls Try.prog 43 #[.pointer (some ⟨p, 0, none⟩)] w fun e w' => e = .returned (.agg #[.int .i64 D.s.1, .int .i64 D.s.2.1, .int .i64 D.s.2.2]) ∧ Below w.heap.size w w' := by
  obtain ⟨m, v, es, ck, hD⟩ := hD
  exact Shape_blk hD.blk
set_option maxHeartbeats 1000000 in
set_option maxRecDepth 100000 in
theorem Sync_any (hD : DevIs N0 p D ok w) : Calls Try.prog 31 #[.pointer (some ⟨p, 0, none⟩)] w fun e w' => e = .returned (.tuple #[]) ∧ DevIs N0 p { D with dirty := [] } ok w' ∧ Upd (Mut ok w) w w' := by
  obtain ⟨m, v, es, ck, hD⟩ := hD
  have HP := Lib.hid hD.blk
  have HD := Aside0.mk hD
  have hc4 : w.cell? ⟨p, 4, none⟩ = some v := bcell hD.blk 4
  have hf4 : w.frozen? ⟨p, 4, none⟩ = false := bfrozen hD.blk 4
  clear hD
  go_enter Try.func31, Try.ntmps31
  go_wp2_with (go_at_call 68; (with_reducible refine (ok_blk HP.out).mono ?_); rintro e w' ⟨rfl, rfl⟩)
  go_end0
  have hD := HD.out
  exact ⟨rfl, hD.setDirty (Kd.R_nil _ _ _ _ _) (by simp), Upd.setCell w hD.mutp _⟩
/-- What a write answers. -/
def writeE (D : PD) (a b : Int) (l : List Int) : Int := if hasB D.s a b = false then 6 else if D.s.2.2 < (l.length : Int) then 10 else if usedB D a b then 7 else 0
def writeD (D : PD) (a b : Int) (l : List Int) : PD := if writeE D a b l = 0 then { D with mp := put (a, b) (full (numB D) l) D.mp, dirty := D.dirty ++ [(a, b)] } else D
theorem own_TA {v : Value} {xs : List Adr} (h : kAddr.R TA w N0 ok v xs) {k : Nat} (hk : v.ownBlock = some k) : ok k ∧ N0 ≤ k ∧ k < w.heap.size ∧ ∃ cs, w.heap[k]? = some (.cells cs TA (0, 0)) := by
  obtain ⟨h1, h2, h3, q, hq, cs, hc⟩ := (Kd.R_bound h).1 k hk
  have : q = TA := by simpa [kAddr, Kd.pair, Kd.int, Kd.scalar] using hq
  subst this
  exact ⟨h1, h2, h3, cs, hc⟩
theorem write_end {m : Nat} {v v3 : Value} {es es' : Array MapEntry} {ck ck' : Nat} {w1 w3 : World} {a b : Int} {L : List Int} (hD : DevAt N0 p D ok w m v es ck) (ha : InR (a, b)) (hb1 : Below w.heap.size w w1)
    (hents : Ents N0 (fun k => ok k ∨ w.heap.size ≤ k) (putMap w1 m es' ck') es'.toList (put (a, b) L D.mp)) (hL : L.length = D.s.2.2.toNat) (hR3 : kAddr.R TA w3 N0 (fun k => ok k ∨ w.heap.size ≤ k) v3 (D.dirty ++ [(a, b)]))
    (hg : (putMap w1 m es' ck').grownBy w3 v.ownBlock) :
    DevIs N0 p { D with mp := put (a, b) L D.mp, dirty := D.dirty ++ [(a, b)] } (fun k => ok k ∨ w.heap.size ≤ k) (w3.setCell ⟨p, 4, none⟩ v3) ∧ Upd (Mut ok w) w (w3.setCell ⟨p, 4, none⟩ v3) := by
  have lp := blt hD.blk
  have lm := blt hD.map
  have pm := map_ne hD.blk hD.map
  have ho := fun {k : Nat} => own_TA hD.dirty (k := k)
  have np : some p ≠ v.ownBlock := fun e => by
    obtain ⟨_, _, _, cs, hc⟩ := ho e.symm
    exact typ_ne hD.blk hc (Ne.symm TD_ne.2.1) rfl
  have nm : some m ≠ v.ownBlock := fun e => by
    obtain ⟨_, _, _, cs, hc⟩ := ho e.symm
    exact map_ne hc hD.map rfl
  have hs1 := hb1.size
  have hs2 : (putMap w1 m es' ck').heap.size = w1.heap.size := putMap_size _ _ _ _
  have bp : w3.heap[p]? = some (.cells #[.int .i64 D.s.1, .int .i64 D.s.2.1, .int .i64 D.s.2.2, .map (some m), v] TD (0, 0)) :=
    (hg.block p (by omega) np).trans ((putMap_other w1 pm es' ck').trans ((hb1.block p lp).trans hD.blk))
  have bm : w3.heap[m]? = some (.map es' ck') := (hg.block m (by omega) nm).trans (putMap_same ((hb1.block m lm).trans hD.map) _ _)
  refine ⟨⟨m, v3, es', ck', hD.base, .inl hD.okp, by rw [bset bp]; rfl, .inl hD.okm, hD.basem, ?_, ?_, ?_, hD.shape, ?_, nodup_put hD.nodup, ?_⟩, ?_⟩
  · rw [Below.heap_setCell _ _ _ _ (Ne.symm pm)]
    exact bm
  · refine hents.imp (fun _ _ hr => Row.typed (w := w3) (Row.typed hr (fun k cs hk _ => ?_)) (fun k cs hk _ => Below.heap_setCell _ _ _ _ (not_typ bp TD_ne.1 hk)))
    refine hg.block k (blt hk) (fun e => ?_)
    obtain ⟨_, _, lk, cs', hc⟩ := ho e.symm
    have h2 : (putMap w1 m es' ck').heap[k]? = some (.cells cs' TA (0, 0)) := by
      rw [putMap_other w1 (map_ne hc hD.map) es' ck', hb1.block k lk]
      exact hc
    exact typ_ne hk h2 TD_ne.2.2 rfl
  · exact A_typed hR3 (fun k cs hk _ => Below.heap_setCell _ _ _ _ (not_typ bp TD_ne.2.1 hk))
  · intro x hx
    rcases List.mem_append.1 hx with hx | hx
    · exact hD.inr x hx
    · rw [List.mem_singleton.1 hx]; exact ha
  · intro q hq
    rcases put_keys hq with rfl | hq
    · exact hL
    · exact hD.lens q hq
  · have u1 : Upd (Mut ok w) w w1 := Upd.ofBelow hb1 _
    have u2 : Upd (Mut ok w) w1 (putMap w1 m es' ck') := putMap_upd w1 hD.mutm es' ck'
    have u3 : Upd (Mut ok w) (putMap w1 m es' ck') w3 := Upd.grown hg (fun k hk => by
      obtain ⟨h1, _, _, cs, hc⟩ := ho hk
      exact mut_of h1 hc (Ne.symm TD_ne.2.2))
    exact ((u1.trans u2 (fun _ h _ => h)).trans u3 (fun _ h _ => h)).trans (Upd.setCell w3 hD.mutp v3) (fun _ h _ => h)
theorem putMap_cell {w1 : World} {m k o : Nat} {x : Option Value} (h : w1.cell? ⟨k, o, none⟩ = x) (hk : k ≠ m) (es : Array MapEntry) (ck : Nat) : (putMap w1 m es ck).cell? ⟨k, o, none⟩ = x := by
  rw [← h]
  exact World.cell?_of_block (w := w1) (a := ⟨k, o, none⟩) (putMap_other w1 hk es ck)
theorem undrew {W w1 : World} (h : Below W.drew.heap.size W.drew w1) : Below W.heap.size W w1 := ((Below.refl W.heap.size W).drew).trans h
theorem write_mid {m : Nat} {v v1 : Value} {es : Array MapEntry} {ck : Nat} {W w1 : World} {a b : Int} {L : List Int} (hD : DevAt N0 p D ok w m v es ck) (hW : Below w.heap.size w W) (ha : InR (a, b)) (hrow : Row w1 W.drew.heap.size (fun k => W.drew.heap.size ≤ k) v1 L) (hb : Below W.drew.heap.size W.drew w1) :
    ∃ es' ck', (Instr.mapUpdate TM (.map (some m)) (kv (a, b)) v1).run Try.prog w1 = .ok () (putMap w1 m es' ck') ∧ Ents N0 (fun k => ok k ∨ w.heap.size ≤ k) (putMap w1 m es' ck') es'.toList (put (a, b) L D.mp) := by
  have hs : w.heap.size ≤ W.heap.size := hW.size
  have hb2 : Below w.heap.size w w1 := hW.trans (Below.mono (undrew hb) hs)
  refine run_update ((hb2.block m (blt hD.map)).trans hD.map) (hD.ents.imp (fun _ _ hr => (hr.step (fun k _ hlt => hb2.block k hlt)).mono (fun _ h => .inl h))) hD.nodup ha ((hrow.lower ?_).mono (fun k hk => .inr ?_))
  · have := hD.base; have := blt hD.blk; show N0 ≤ W.heap.size; omega
  · exact Nat.le_trans hs hk
theorem info_addr : (Try.prog.info? TA).map (fun i => (i.zero, i.size, i.bytes)) = some (some (.agg #[.int .i64 0, .int .i64 0]), 2, 16) := by kernel_rfl
theorem kAddr_mk (w : World) (base : Nat) (ok : Nat → Prop) (a b : Int) : kAddr.M w base ok (a, b) [.int .i64 a, .int .i64 b] := ⟨[.int .i64 a], [.int .i64 b], rfl, rfl, rfl⟩
set_option maxHeartbeats 2000000 in
set_option maxRecDepth 100000 in
theorem Write_ok (hD : DevIs N0 p D ok w) (a b : Int) (A : Option Addr) (c : Nat) (l : List Int) (hl : kB.C w A l.length l) (h0 : writeE D a b l = 0) (hm : D.dirty.length < 1000000) :
    Calls Try.prog 34 #[.pointer (some ⟨p, 0, none⟩), .int .i64 a, .int .i64 b, .slice A l.length c] w fun e w' => e = .returned (.int .i64 0) ∧ DevIs N0 p (writeD D a b l) (fun k => ok k ∨ w.heap.size ≤ k) w' ∧ Upd (Mut ok w) w w' := by
  have hb : hasB D.s a b = true := by
    unfold writeE at h0
    split at h0
    · cases h0
    · rename_i hx; simpa using hx
  have h1 : (l.length : Int) ≤ D.s.2.2 := by
    unfold writeE at h0
    rw [if_neg (by simp [hb])] at h0
    split at h0
    · cases h0
    · omega
  have h2 : usedB D a b = false := by
    unfold writeE at h0
    rw [if_neg (by simp [hb]), if_neg (by omega)] at h0
    split at h0
    · cases h0
    · rename_i hx; simpa using hx
  have hDI := hD
  obtain ⟨m, v, es, ck, hD⟩ := hD
  have HS := Lib.hid hD.shape
  have HP := Lib.hid hD.blk
  have HDI := Aside0.mk hDI
  have HD := Aside0.mk hD
  have HE := Lib.hid (show hasE D.s a b = 0 by simp [hasE, hb])
  have HU := Lib.hid h2
  have HIn := Lib.hid (hasB_inr hD.shape hb)
  have HWD := Lib.hid (show writeD D a b l = { D with mp := put (a, b) (full D.s.2.2.toNat l) D.mp, dirty := D.dirty ++ [(a, b)] } by rw [writeD, if_pos h0]; rfl)
  have HL := Aside0.mk hl
  have hc2 : w.cell? ⟨p, 2, none⟩ = some (.int .i64 D.s.2.2) := bcell hD.blk 2
  clear hb h2 hDI hl h0
  go_enter Try.func34, Try.ntmps34
  go_wp2_with (first | (go_at_call 69; (with_reducible refine (has_blk HS.out HP.out a b).mono ?_); rw [HE.out]; rintro e w' ⟨rfl, rfl⟩) | (go_at_call 39; (with_reducible refine (Used_any HDI.out a b).mono ?_); rw [HU.out]; rintro e w' ⟨rfl, rfl⟩))
  obtain ⟨W, hW⟩ : ∃ W, W = w.alloc (.cells #[.int .i64 a, .int .i64 b] TA) := ⟨_, rfl⟩
  have hlp := blt HP.out
  have q1 : W.heap[p]? = some (.cells #[.int .i64 D.s.1, .int .i64 D.s.2.1, .int .i64 D.s.2.2, .map (some m), v] TD (0, 0)) := by rw [hW]; exact (Below.heap_alloc _ _ _ hlp).trans HP.out
  have q2 : W.heap[w.heap.size]? = some (.cells #[.int .i64 a, .int .i64 b] TA (0, 0)) := by rw [hW]; exact blk_new w _
  have q3 : Below w.heap.size w W := by rw [hW]; exact below_alloc (Below.refl _ _) _
  have q4 : kB.C W A l.length l := Kd.C_below HL.out q3
  have Q1 := Lib.hid q1; have Q2 := Lib.hid q2; have Q3 := Aside0.mk q3; have Q4 := Aside0.mk q4
  have k1 : W.cell? ⟨p, 3, none⟩ = some (.map (some m)) := bcell q1 3
  have k2 : W.cell? ⟨w.heap.size, 0, none⟩ = some (.int .i64 a) := bcell q2 0
  have k3 : W.cell? ⟨w.heap.size, 1, none⟩ = some (.int .i64 b) := bcell q2 1
  have hsz : W.heap.size = w.heap.size + 1 := by rw [hW]; simp
  rw [← hW]
  have HSZ := Lib.hid hsz
  have hn : l.length ≤ D.s.2.2.toNat := by omega
  have hIn : InR (a, b) := HIn.out
  clear hW q1 q2 q3 q4 hsz hc2
  go_region_held3 (fun w' => w'.cell? ⟨p, 3, none⟩ = some (.map (some m)) ∧ w'.cell? ⟨w.heap.size, 0, none⟩ = some (.int .i64 a) ∧ w'.cell? ⟨w.heap.size, 1, none⟩ = some (.int .i64 b)) (first | go_keep | exact ⟨k4, k5, k6⟩ | exact ⟨k7, k8, k9⟩)
    ((go_at_call 70; refine (filled_blk (w := W.drew) HS.out Q1.out A c l Q4.out hn).mono ?_; rintro e w1 ⟨v1, rfl, hrow, hbel⟩; obtain ⟨es', ck', hrun, hen⟩ := write_mid HD.out Q3.out hIn hrow hbel; have hU : (Instr.mapUpdate TM (.map (some m)) (.agg #[.int .i64 a, .int .i64 b]) v1).run Try.prog w1 = .ok () (putMap w1 m es' ck') := hrun; have HEN := Aside0.mk hen; have hB0 : Below w.heap.size w w1 := Q3.out.trans (Below.mono (undrew hbel) Q3.out.size); have HB0 := Aside0.mk hB0; clear hrun hen hB0; have k4 : w1.cell? ⟨p, 3, none⟩ = some (.map (some m)) := (hbel.cell (p := ⟨p, 3, none⟩) (blt Q1.out)).trans k1; have k5 : w1.cell? ⟨w.heap.size, 0, none⟩ = some (.int .i64 a) := (hbel.cell (p := ⟨w.heap.size, 0, none⟩) (blt Q2.out)).trans k2; have k6 : w1.cell? ⟨w.heap.size, 1, none⟩ = some (.int .i64 b) := (hbel.cell (p := ⟨w.heap.size, 1, none⟩) (blt Q2.out)).trans k3; have k7 := putMap_cell k4 (map_ne HP.out HD.out.map) es' ck'; have k8 := putMap_cell k5 (Nat.ne_of_gt (blt HD.out.map)) es' ck'; have k9 := putMap_cell k6 (Nat.ne_of_gt (blt HD.out.map)) es' ck'; have HV4 := Lib.hid hrow; clear hrow hbel))
  clear k1 k2 k3 k4 k5 k6 hU
  obtain ⟨W2, hW2⟩ : ∃ W2, W2 = putMap w1 m es' ck' := ⟨_, rfl⟩
  have r1 : W2.cell? ⟨p, 4, none⟩ = some v := by
    rw [hW2]
    refine putMap_cell ?_ (map_ne HP.out HD.out.map) es' ck'
    rw [bcell ((HB0.out.block p hlp).trans HP.out)]
    rfl
  rw [← hW2] at k7 k8 k9
  have hlt2 : W2.heap.size = w1.heap.size := by rw [hW2]; exact putMap_size _ _ _ _
  have hR2 : kAddr.R TA W2 N0 (fun k => ok k ∨ w.heap.size ≤ k) v D.dirty := by
    rw [hW2]
    exact Kd.R_mono (R_putMap ⟨_, _, (HB0.out.block m (blt HD.out.map)).trans HD.out.map⟩ (Kd.R_below HD.out.dirty HB0.out) es' ck') (fun _ h => .inl h)
  have HR2 := Aside0.mk hR2
  have HW2 := Lib.hid hW2
  have hp2 : p < W2.heap.size := by have := HB0.out.size; omega
  have np : ∀ k, v.ownBlock = some k → k < w.heap.size := fun k hk => (own_TA HD.out.dirty hk).2.2.1
  have NP := Lib.hid np
  have HB2 : Aside0 (Upd ok w W2) := Aside0.mk (by rw [hW2]; exact (Upd.ofBelow HB0.out ok).trans (putMap_upd w1 HD.out.okm es' ck') (fun _ h _ => h))
  have hne : v.ownBlock ≠ some p := fun e => by
    obtain ⟨_, _, _, cs, hc⟩ := own_TA HD.out.dirty e
    exact typ_ne HP.out hc (Ne.symm TD_ne.2.1) rfl
  have HNE := Lib.hid hne
  clear hlt2 hR2 np hne
  rw [← hW2]
  clear hW2
  go_wp2
  have hf1 : ∀ w3 : World, W2.drew.grownBy w3 v.ownBlock → w3.cell? ⟨p, 4, none⟩ = some v ∧ w3.cell? ⟨w.heap.size, 0, none⟩ = some (.int .i64 a) ∧ w3.cell? ⟨w.heap.size, 1, none⟩ = some (.int .i64 b) := fun w3 hg => by
    refine ⟨hg.cell (a := ⟨p, 4, none⟩) r1 (fun e => HNE.out e.symm), hg.cell (a := ⟨w.heap.size, 0, none⟩) k8 (fun e => ?_), hg.cell (a := ⟨w.heap.size, 1, none⟩) k9 (fun e => ?_)⟩
    · exact Nat.lt_irrefl _ (NP.out _ e.symm)
    · exact Nat.lt_irrefl _ (NP.out _ e.symm)
  have HF1 := Lib.hid hf1
  have hp2b : W2.heap[p]? = some (.cells #[.int .i64 D.s.1, .int .i64 D.s.2.1, .int .i64 D.s.2.2, .map (some m), v] TD (0, 0)) := by
    rw [HW2.out]
    exact (putMap_other w1 (map_ne HP.out HD.out.map) es' ck').trans ((HB0.out.block p hlp).trans HP.out)
  have hf2 : ∀ w3 : World, W2.drew.grownBy w3 v.ownBlock → w3.frozen? ⟨p, 4, none⟩ = false := fun w3 hg => by
    rw [World.frozen?_of_block (w := W2) (a := ⟨p, 4, none⟩) (hg.block p hp2 (fun e => HNE.out e.symm))]
    exact bfrozen hp2b 4
  have HF2 := Lib.hid hf2
  clear hf2 hp2b
  clear hf1
  go_region_law
    ((refine Kd.R_append_step kAddr (w0 := W2.drew) (W := W2.drew) N0 (by rfl) (.tmp 48) (.tmp 50) 83 TA (.agg #[.int .i64 0, .int .i64 0]) 16 (by rfl) Try.underlying83 info_addr rfl (by decide) (by decide) v D.dirty (a, b) [.int .i64 a, .int .i64 b] (fun k => ok k ∨ w.heap.size ≤ k) (fun _ => False) (by rfl) (by rfl) (kAddr_mk _ _ _ _ _) (fun _ hk => hk.elim) (fun k hk => .inr (Nat.le_trans HB2.out.size hk)) (Kd.R_step HR2.out (fun _ _ _ => rfl)) (Below.refl _ _) (Nat.le_trans (Nat.le_of_lt (Nat.lt_of_le_of_lt HD.out.base hlp)) HB2.out.size) (by omega) ?_; intro v3 w3 hr3 hb3 hg3 hat3; obtain ⟨A3, c3, rfl⟩ := Kd.R_slice hr3; have hf4 : w3.frozen? ⟨p, 4, none⟩ = false := HF2.out _ hg3; have hc4 : w3.cell? ⟨p, 4, none⟩ = some v := (HF1.out _ hg3).1; have HR3 := Aside0.mk hr3; have HG3 := Aside0.mk hg3; clear hr3 hb3 hat3))
  all_goals
    go_wp2
    go_ret
    have hG : (putMap w1 m es' ck').grownBy w3 v.ownBlock := by
      rw [← HW2.out]
      exact ⟨HG3.out.os, HG3.out.tape, HG3.out.output, HG3.out.size, HG3.out.block⟩
    rw [HWD.out]
    have hR := HR3.out
    rw [List.length_append, List.length_singleton] at hR
    exact ⟨rfl, write_end HD.out HIn.out HB0.out HEN.out (full_length hn) hR hG⟩
theorem writeE_cases (D : PD) (a b : Int) (l : List Int) : (hasB D.s a b = false ∧ writeE D a b l = 6) ∨ (hasB D.s a b = true ∧ D.s.2.2 < (l.length : Int) ∧ writeE D a b l = 10) ∨ (hasB D.s a b = true ∧ (l.length : Int) ≤ D.s.2.2 ∧ usedB D a b = true ∧ writeE D a b l = 7) ∨ writeE D a b l = 0 := by
  cases h1 : hasB D.s a b with
  | false => exact .inl ⟨rfl, by simp [writeE, h1]⟩
  | true =>
    by_cases h2 : D.s.2.2 < (l.length : Int)
    · exact .inr (.inl ⟨rfl, h2, by simp [writeE, h1, h2]⟩)
    · cases h3 : usedB D a b with
      | true => exact .inr (.inr (.inl ⟨rfl, by omega, rfl, by simp [writeE, h1, h2, h3]⟩))
      | false => exact .inr (.inr (.inr (by simp [writeE, h1, h2, h3])))
set_option maxHeartbeats 2000000 in
set_option maxRecDepth 100000 in
theorem Write_no (hD : DevIs N0 p D ok w) (a b : Int) (A : Option Addr) (c : Nat) (l : List Int) (h0 : writeE D a b l ≠ 0) :
    Calls Try.prog 34 #[.pointer (some ⟨p, 0, none⟩), .int .i64 a, .int .i64 b, .slice A l.length c] w fun e w' => e = .returned (.int .i64 (writeE D a b l)) ∧ w = w' := by
  have hDI := hD
  obtain ⟨m, v, es, ck, hD⟩ := hD
  have HS := Lib.hid hD.shape
  have HP := Lib.hid hD.blk
  have HDI := Aside0.mk hDI
  have hc2 : w.cell? ⟨p, 2, none⟩ = some (.int .i64 D.s.2.2) := bcell hD.blk 2
  clear hDI hD
  rcases writeE_cases D a b l with ⟨h1, h2⟩ | ⟨h1, h2, h3⟩ | ⟨h1, h2, h3, h4⟩ | h1
  · have HE := Lib.hid (show hasE D.s a b = 6 by simp [hasE, h1])
    have HW := Lib.hid h2
    clear h1 h2 h0
    go_enter Try.func34, Try.ntmps34
    go_wp2_with (go_at_call 69; (with_reducible refine (has_blk HS.out HP.out a b).mono ?_); rw [HE.out]; rintro e w' ⟨rfl, rfl⟩)
    go_ret
    exact ⟨by rw [HW.out]; rfl, rfl⟩
  · have HE := Lib.hid (show hasE D.s a b = 0 by simp [hasE, h1])
    have HW := Lib.hid h3
    clear h1 h3 h0
    go_enter Try.func34, Try.ntmps34
    go_wp2_with (go_at_call 69; (with_reducible refine (has_blk HS.out HP.out a b).mono ?_); rw [HE.out]; rintro e w' ⟨rfl, rfl⟩)
    go_ret
    exact ⟨by rw [HW.out]; rfl, rfl⟩
  · have HE := Lib.hid (show hasE D.s a b = 0 by simp [hasE, h1])
    have HU := Lib.hid h3
    have HW := Lib.hid h4
    clear h1 h3 h4 h0
    go_enter Try.func34, Try.ntmps34
    go_wp2_with (first | (go_at_call 69; (with_reducible refine (has_blk HS.out HP.out a b).mono ?_); rw [HE.out]; rintro e w' ⟨rfl, rfl⟩) | (go_at_call 39; (with_reducible refine (Used_any HDI.out a b).mono ?_); rw [HU.out]; rintro e w' ⟨rfl, rfl⟩))
    go_ret
    exact ⟨by rw [HW.out]; rfl, rfl⟩
  · exact absurd h1 h0
/-- Write, whatever it answers. -/
theorem Write_any (hD : DevIs N0 p D ok w) (a b : Int) (A : Option Addr) (c : Nat) (l : List Int) (hl : kB.C w A l.length l) (hm : D.dirty.length < 1000000) :
    Calls Try.prog 34 #[.pointer (some ⟨p, 0, none⟩), .int .i64 a, .int .i64 b, .slice A l.length c] w fun e w' => e = .returned (.int .i64 (writeE D a b l)) ∧ DevIs N0 p (writeD D a b l) (fun k => ok k ∨ w.heap.size ≤ k) w' ∧ Upd (Mut ok w) w w' := by
  by_cases h0 : writeE D a b l = 0
  · refine (Write_ok hD a b A c l hl h0 hm).mono fun e w' ⟨h1, h2⟩ => ⟨by rw [h0]; exact h1, h2⟩
  · refine (Write_no hD a b A c l h0).mono fun e w' ⟨h1, h2⟩ => ?_
    subst h2
    exact ⟨h1, by rw [writeD, if_neg h0]; exact hD.mono (fun _ h => .inl h), Upd.refl _ _⟩
set_option maxHeartbeats 1000000 in
set_option maxRecDepth 100000 in
theorem Right_any (s : Int × Int × Int) (w : World) : Calls Try.prog 28 #[.agg #[.int .i64 s.1, .int .i64 s.2.1, .int .i64 s.2.2]] w fun e w' => e = .returned (.bool (fitsB s.1 1 16 && fitsB s.2.1 1 64 && fitsB s.2.2 16 256)) ∧ Below w.heap.size w w' := by
  obtain ⟨s1, s2, s3⟩ := s
  obtain ⟨r, hr⟩ : ∃ r, r = (fitsB s1 1 16 && fitsB s2 1 64 && fitsB s3 16 256) := ⟨_, rfl⟩
  simp only
  cases h1 : fitsB s1 1 16 with
  | false =>
    go_enter Try.func28, Try.ntmps28
    go_wp2_with (go_at_call 61; (with_reducible refine (Fits_any _ _ _ _).mono ?_); (try rw [h1]); rintro e w' ⟨rfl, rfl⟩)
    go_ret
    exact ⟨rfl, below_alloc (Below.refl _ _) _⟩
  | true =>
    cases h2 : fitsB s2 1 64 with
    | false =>
      go_enter Try.func28, Try.ntmps28
      go_wp2_with (go_at_call 61; (with_reducible refine (Fits_any _ _ _ _).mono ?_); (try rw [h1]); (try rw [h2]); rintro e w' ⟨rfl, rfl⟩)
      go_ret
      exact ⟨rfl, below_alloc (Below.refl _ _) _⟩
    | true =>
      go_enter Try.func28, Try.ntmps28
      go_wp2_with (go_at_call 61; (with_reducible refine (Fits_any _ _ _ _).mono ?_); (try rw [h1]); (try rw [h2]); rintro e w' ⟨rfl, rfl⟩)
      go_ret
      exact ⟨rfl, below_alloc (Below.refl _ _) _⟩
end
end Go.Proofs.Ytkmanjfmffdcbaa.Fl
