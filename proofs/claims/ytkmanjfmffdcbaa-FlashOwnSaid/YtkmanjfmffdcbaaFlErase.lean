/- The device: a segment erased: walked. No condition. -/
import Derived.Test.YtkmanjfmffdcbaaFlDel
namespace Go.Proofs.Ytkmanjfmffdcbaa.Fl
open Go.RowKit Go.Proofs.YtkmanjfmffdcbaaW.PrintWords Go.Proofs.YtkmanjfmffdcbaaW.PrintMore Go.Maps
set_option linter.unusedSimpArgs false
set_option linter.unusedVariables false
theorem Ents.drew {N0 : Nat} {ok : Nat → Prop} {w : World} {es : List MapEntry} {qs : List (Adr × List Int)} (h : Ents N0 ok w es qs) : Ents N0 ok w.drew es qs := Ents.imp (fun v xs (hr : Row w N0 ok v xs) => (hr.step (fun _ _ _ => rfl) : Row w.drew N0 ok v xs)) h
def delTo (s : Int) : Nat → List (Adr × List Int) → List (Adr × List Int)
  | 0, l => l
  | k + 1, l => del (s, (k : Int)) (delTo s k l)
theorem nodup_delTo (s : Int) : ∀ (k : Nat) {l : List (Adr × List Int)}, Nodup l → Nodup (delTo s k l)
  | 0, _, h => h
  | k + 1, _, h => nodup_del (nodup_delTo s k h)
theorem delTo_mem (s : Int) : ∀ (k : Nat) {l : List (Adr × List Int)} {q : Adr × List Int}, q ∈ delTo s k l → q ∈ l
  | 0, _, _, h => h
  | k + 1, _, _, h => delTo_mem s k (del_mem h)
theorem look_delTo (s : Int) (c : Adr) : ∀ (k : Nat) {l : List (Adr × List Int)}, Nodup l → look c (delTo s k l) = if c.1 = s ∧ 0 ≤ c.2 ∧ c.2 < (k : Int) then none else look c l
  | 0, l, _ => by rw [if_neg (by omega)]; rfl
  | k + 1, l, h => by
    show look c (del (s, (k : Int)) (delTo s k l)) = _
    rw [look_del _ _ (nodup_delTo s k h), look_delTo s c k h]
    by_cases h1 : c = (s, (k : Int))
    · rw [if_pos h1, if_pos (by rw [h1]; simp; omega)]
    · rw [if_neg h1]
      by_cases h2 : c.1 = s ∧ 0 ≤ c.2 ∧ c.2 < (k : Int)
      · rw [if_pos h2, if_pos ⟨h2.1, h2.2.1, by omega⟩]
      · rw [if_neg h2, if_neg (fun h3 => h2 ⟨h3.1, h3.2.1, by
          have : c.2 ≠ (k : Int) := fun e => h1 (by rw [← e, ← h3.1])
          omega⟩)]
def eraseD (D : PD) (s : Int) : PD := { D with mp := delTo s D.s.2.1.toNat D.mp, dirty := keepF (fun a => decide (a.1 = s)) D.dirty }
set_option maxHeartbeats 1000000 in
set_option maxRecDepth 100000 in
theorem Erase1_any (a : Adr) (b : Nat) (s : Int) (w : World) (hb : w.cell? ⟨b, 0, none⟩ = some (.int .i64 s)) :
    Calls Try.prog 71 (#[.agg #[.int .i64 a.1, .int .i64 a.2]] ++ #[.pointer (some ⟨b, 0, none⟩)]) w fun e w' => e = .returned (.bool (decide (a.1 = s))) ∧ Below w.heap.size w w' := by
  have hlt := blt_of_cell hb
  have hb2 : (w.alloc (.cells #[.int .i64 a.1, .int .i64 a.2] TA)).cell? ⟨b, 0, none⟩ = some (.int .i64 s) := (World.cell?_alloc_lt w _ _ hlt).trans hb
  clear hb
  go_enter Try.func71, Try.ntmps71
  go_wp2
  go_ret
  exact ⟨by first | rfl | (simp; done), below_alloc (Below.refl _ _) _⟩
theorem erase1_clo : CloFn 71 := ⟨_, Try.func71, by kernel_rfl, rfl⟩
theorem erase_keepB {w w1 w2 : World} {v : Value} {xs : List Adr} {k : Nat} {o : Obj} (h : kAddr.R TA w1 w.heap.size (fun k => w.heap.size ≤ k) v xs) (hu : Upd (fun k => some k = v.ownBlock) w1 w2) (hk : k < w.heap.size) (ho : w1.heap[k]? = some o) : w2.heap[k]? = some o :=
  hu.blk ho (fun e => by have := h.1 k e.symm; omega)
theorem erase_keep {w w1 : World} {v : Value} {xs : List Adr} {k : Nat} {x : Value} (h : kAddr.R TA w1 w.heap.size (fun k => w.heap.size ≤ k) v xs) (hk : k < w.heap.size) :
    ∀ W W' : World, W.cell? ⟨k, 0, none⟩ = some x → Upd (fun k => some k = v.ownBlock) W W' → W'.cell? ⟨k, 0, none⟩ = some x := fun W W' hc hu => by
  rw [World.cell?_of_block (w := W) (a := ⟨k, 0, none⟩) (hu.block k (World.block_lt_of_cell? W ⟨k, 0, none⟩ hc) (fun e => by have := h.1 k e.symm; omega))]
  exact hc
theorem dev_end {N0 p : Nat} {D : PD} {ok ok' : Nat → Prop} {w w1 : World} {m : Nat} {v v' : Value} {es es' : Array MapEntry} {ck ck' : Nat} {mp' : List (Adr × List Int)} {d' : List Adr} (hD : DevAt N0 p D ok w m v es ck)
    (hp : w1.heap[p]? = some (.cells #[.int .i64 D.s.1, .int .i64 D.s.2.1, .int .i64 D.s.2.2, .map (some m), v] TD (0, 0))) (hm : w1.heap[m]? = some (.map es' ck')) (he : Ents N0 ok' w1 es'.toList mp') (hd : kAddr.R TA w1 N0 ok' v' d') (hn : Nodup mp') (hl : ∀ q ∈ mp', q.2.length = D.s.2.2.toNat) (hi : ∀ a ∈ d', InR a) (hok : ∀ k, ok k → ok' k) :
    DevIs N0 p { D with mp := mp', dirty := d' } ok' (w1.setCell ⟨p, 4, none⟩ v') := by
  refine ⟨m, v', es', ck', hD.base, hok _ hD.okp, by rw [bset hp]; rfl, hok _ hD.okm, hD.basem, ?_, ?_, ?_, hD.shape, hi, hn, hl⟩
  · rw [Below.heap_setCell _ _ _ _ (Ne.symm (map_ne hp hm))]
    exact hm
  · exact he.imp (fun _ _ hr => Row.typed (w := w1) hr (fun k cs hk _ => Below.heap_setCell _ _ _ _ (not_typ hp TD_ne.1 hk)))
  · exact A_typed hd (fun k cs hk _ => Below.heap_setCell _ _ _ _ (not_typ hp TD_ne.2.1 hk))
section
variable {N0 p : Nat} {D : PD} {ok : Nat → Prop} {w : World}
set_option maxHeartbeats 2000000 in
set_option maxRecDepth 100000 in
theorem Erase_ok (hD : DevIs N0 p D ok w) (s : Int) (h0 : hasB D.s s 0 = true) (hm : D.dirty.length < 1000000) :
    Calls Try.prog 41 #[.pointer (some ⟨p, 0, none⟩), .int .i64 s] w fun e w' => e = .returned (.int .i64 0) ∧ DevIs N0 p (eraseD D s) (fun k => ok k ∨ w.heap.size ≤ k) w' ∧ Upd (Mut ok w) w w' := by
  obtain ⟨m, v, es, ck, hD⟩ := hD
  have HS := Lib.hid hD.shape
  have HP := Lib.hid hD.blk
  have HD := Aside0.mk hD
  have HE := Lib.hid (show hasE D.s s 0 = 0 by simp [hasE, h0])
  have HH := Lib.hid h0
  obtain ⟨W, hW⟩ : ∃ W, W = w.alloc (.cells #[.int .i64 s] 3) := ⟨_, rfl⟩
  have hlp := blt HP.out
  have q1 : W.heap[p]? = some (.cells #[.int .i64 D.s.1, .int .i64 D.s.2.1, .int .i64 D.s.2.2, .map (some m), v] TD (0, 0)) := by rw [hW]; exact (Below.heap_alloc _ _ _ hlp).trans HP.out
  have q2 : W.heap[w.heap.size]? = some (.cells #[.int .i64 s] 3 (0, 0)) := by rw [hW]; exact blk_new w _
  have q3 : Below w.heap.size w W := by rw [hW]; exact below_alloc (Below.refl _ _) _
  have Q1 := Lib.hid q1; have Q2 := Lib.hid q2; have Q3 := Aside0.mk q3
  have k2 : W.cell? ⟨w.heap.size, 0, none⟩ = some (.int .i64 s) := bcell q2 0
  have k1 : W.cell? ⟨p, 1, none⟩ = some (.int .i64 D.s.2.1) := bcell q1 1
  obtain ⟨n, hn⟩ : ∃ n : Nat, D.s.2.1 = (n : Int) := ⟨D.s.2.1.toNat, by have := hD.shape.b0; omega⟩
  have hn1 : n ≤ 64 := by have := hD.shape.b1; omega
  have HN := Lib.hid hn
  rw [hn] at k1
  have HW := Lib.hid hW
  clear hD h0 q1 q2 q3 hn hW
  go_enter Try.func41, Try.ntmps41
  go_wp2_with fail
  rw [← HW.out]
  go_wp2_with (go_at_call 69; (with_reducible refine (has_blk HS.out Q1.out s 0).mono ?_); rw [HE.out]; rintro e w' ⟨rfl, rfl⟩)
  have HLP := Lib.hid (blt HD.out.map)
  go_loopw [20] (fun v20 wr => ∃ (k : Nat) (es' : Array MapEntry) (ck' : Nat), k ≤ n ∧ v20 = .int .i64 (k : Int) ∧ wr.heap[m]? = some (.map es' ck') ∧ Ents N0 ok wr es'.toList (delTo s k D.mp) ∧ Upd (fun j => j = m) W wr) (fun v20 _ => n - (intOf v20).toNat)
  case atStart => exact ⟨0, es, ck, Nat.zero_le _, rfl, (Q3.out.block m (blt HD.out.map)).trans HD.out.map, HD.out.ents.imp (fun _ _ hr => hr.step (fun k _ hlt => Q3.out.block k hlt)), Upd.refl _ _⟩
  case round =>
    obtain ⟨k, es', ck', hk, rfl, hmb, hen, hup⟩ := hrel
    have HMB := Lib.hid hmb
    have HEN := Aside0.mk hen
    have HUP := Aside0.mk hup
    clear hmb hen hup
    by_cases hlt : k < n
    · have pm : p ≠ m := map_ne HP.out HD.out.map
      have bm : w.heap.size ≠ m := Nat.ne_of_gt (blt HD.out.map)
      have b1 : wr.heap[p]? = some (.cells #[.int .i64 D.s.1, .int .i64 D.s.2.1, .int .i64 D.s.2.2, .map (some m), v] TD (0, 0)) := HUP.out.blk Q1.out pm
      have b2 : wr.heap[w.heap.size]? = some (.cells #[.int .i64 s] 3 (0, 0)) := HUP.out.blk Q2.out bm
      have c1 : wr.cell? ⟨p, 3, none⟩ = some (.map (some m)) := bcell b1 3
      have c2 : wr.cell? ⟨w.heap.size, 0, none⟩ = some (.int .i64 s) := bcell b2 0
      have hin : InR (s, (k : Int)) := by
        have h3 := hasB_inr HS.out HH.out
        exact ⟨h3.a0, h3.a1, by simp, by simp; omega⟩
      obtain ⟨es2, ck2, hr2, he2⟩ := run_delete (w := wr.drew) HMB.out HEN.out.drew (nodup_delTo s k HD.out.nodup) hin 0
      have hr3 : (Builtin.delete_ #[TM, TA] 0 #[.map (some m), .agg #[.int .i64 s, .int .i64 (k : Int)]]).run Try.prog wr.drew = .ok (.tuple #[]) (putMap wr.drew m es2 ck2) := hr2
      have c3 := putMap_cell (w1 := wr.drew) c1 pm es2 ck2
      have c4 := putMap_cell (w1 := wr.drew) c2 bm es2 ck2
      have HE2 := Aside0.mk he2
      have kn : (k : Int) < (n : Int) := by omega
      clear hr2 b1 b2 hin he2
      go_wp2
      go_region_held3 (fun w' => w'.cell? ⟨p, 3, none⟩ = some (.map (some m)) ∧ w'.cell? ⟨w.heap.size, 0, none⟩ = some (.int .i64 s)) (first | go_keep | exact ⟨c3, c4⟩) (fail)
      go_wp2
      go_roundw
      case rel => exact ⟨k + 1, es2, ck2, by omega, by go_num, putMap_same HMB.out es2 ck2, HE2.out, (HUP.out.trans (Upd.ofBelow ((Below.refl _ wr).drew) _) (fun _ h _ => h)).trans (putMap_upd (S := fun j => j = m) wr.drew rfl es2 ck2) (fun _ h _ => h)⟩
      case measure => simp [intOf]; omega
    · obtain rfl : k = n := by omega
      have pm : p ≠ m := map_ne HP.out HD.out.map
      have bm : w.heap.size ≠ m := Nat.ne_of_gt (blt HD.out.map)
      have b1 : wr.heap[p]? = some (.cells #[.int .i64 D.s.1, .int .i64 D.s.2.1, .int .i64 D.s.2.2, .map (some m), v] TD (0, 0)) := HUP.out.blk Q1.out pm
      have b2 : wr.heap[w.heap.size]? = some (.cells #[.int .i64 s] 3 (0, 0)) := HUP.out.blk Q2.out bm
      have c1 : wr.cell? ⟨p, 4, none⟩ = some v := bcell b1 4
      have hRv : kAddr.R TA wr N0 ok v D.dirty := A_typed (Kd.R_below HD.out.dirty Q3.out) (fun j cs hj _ => HUP.out.block j (blt hj) (map_ne hj ((Q3.out.block m HLP.out).trans HD.out.map)))
      have RV := Aside0.mk hRv
      have B1 := Lib.hid b1
      have B2 := Lib.hid b2
      clear hRv b1 b2
      go_wp2_with (first | (go_at_call 73; (with_reducible refine (Clone_any RV.out hm).mono ?_); rintro e w1 ⟨v1, rfl, hr1, hnil, hb1⟩; have HR1 := Aside0.mk hr1; have HB1 := Aside0.mk hb1; clear hr1 hnil hb1) | (go_at_call 72; refine (DeleteFunc_any HR1.out hm erase1_clo (fun W => W.cell? ⟨w.heap.size, 0, none⟩ = some (.int .i64 s)) (erase_keep HR1.out (blt B2.out)) (fun a => decide (a.1 = s)) (fun W a hW _ => Erase1_any a _ s W hW) ((HB1.out.cell (p := ⟨w.heap.size, 0, none⟩) (blt B2.out)).trans (bcell B2.out 0))).mono ?_; rintro e w2 ⟨v2, rfl, hr2, hu2⟩; obtain ⟨A2, c2, rfl⟩ := Kd.R_slice hr2; have h6 := erase_keepB HR1.out hu2 (blt B1.out) ((HB1.out.block p (blt B1.out)).trans B1.out); have HR2 := Aside0.mk hr2; have HU2 := Aside0.mk hu2; have c6 : w2.cell? ⟨p, 4, none⟩ = some v := bcell h6 4; have f6 : w2.frozen? ⟨p, 4, none⟩ = false := bfrozen h6 4; have H6 := Lib.hid h6; clear hr2 hu2 h6))
      go_ret
      have hmv : ∀ j, j < wr.heap.size → w2.heap[j]? = wr.heap[j]? := fun j hj => (HU2.out.block j (Nat.lt_of_lt_of_le hj HB1.out.size) (fun e => by have := HR1.out.1 j e.symm; omega)).trans (HB1.out.block j hj)
      have hm0 : (wr.heap[m]? = some (.map es' ck')) := HMB.out
      have hs1 : w.heap.size ≤ wr.heap.size := by have := Q3.out.size; have := HUP.out.size; omega
      have hN0 : N0 ≤ w.heap.size := by have := HD.out.base; omega
      have hpg : D.s.2.1.toNat = k := by rw [HN.out]; rfl
      have hfin := dev_end (ok' := fun k => ok k ∨ w.heap.size ≤ k) (v' := .slice A2 (keepF (fun a => decide (a.1 = s)) D.dirty).length c2) HD.out H6.out ((hmv m (blt hm0)).trans hm0) (HEN.out.imp (fun _ _ hr => (hr.step (fun j _ hlt => hmv j hlt)).mono (fun _ h => .inl h))) (Kd.R_mono (Kd.R_lower HR2.out (by omega)) (fun j hj => .inr (Nat.le_trans hs1 hj))) (nodup_delTo s k HD.out.nodup) (fun q hq => HD.out.lens q (delTo_mem s k hq)) (fun a ha => HD.out.inr a (List.mem_filter.1 ha).1) (fun _ h => .inl h)
      refine ⟨rfl, ?_, ?_⟩
      · rw [eraseD, hpg]; exact hfin
      · have u1 : Upd (Mut ok w) w wr := (Upd.ofBelow Q3.out _).trans (HUP.out.mono (S' := Mut ok w) (fun j hj _ => by rw [hj]; exact HD.out.mutm)) (fun _ h _ => h)
        have u2 : Upd (Mut ok w) w w2 := u1.trans ((Upd.ofBelow HB1.out (fun j => some j = (v1).ownBlock)).trans HU2.out (fun _ h _ => h)) (fun j hj hlt => by have := HR1.out.1 j hj.symm; omega)
        exact u2.trans (Upd.setCell w2 (p := ⟨p, 4, none⟩) HD.out.mutp _) (fun _ h _ => h)
set_option maxHeartbeats 1000000 in
set_option maxRecDepth 100000 in
theorem Erase_no (hD : DevIs N0 p D ok w) (s : Int) (h0 : hasB D.s s 0 = false) :
    Calls Try.prog 41 #[.pointer (some ⟨p, 0, none⟩), .int .i64 s] w fun e w' => e = .returned (.int .i64 6) ∧ Below w.heap.size w w' := by
  obtain ⟨m, v, es, ck, hD⟩ := hD
  have HS := Lib.hid hD.shape
  have HE := Lib.hid (show hasE D.s s 0 = 6 by simp [hasE, h0])
  have hp := hD.blk
  obtain ⟨W, hW⟩ : ∃ W, W = w.alloc (.cells #[.int .i64 s] 3) := ⟨_, rfl⟩
  have q1 : W.heap[p]? = some (.cells #[.int .i64 D.s.1, .int .i64 D.s.2.1, .int .i64 D.s.2.2, .map (some m), v] TD (0, 0)) := by rw [hW]; exact (Below.heap_alloc _ _ _ (blt hp)).trans hp
  have k2 : W.cell? ⟨w.heap.size, 0, none⟩ = some (.int .i64 s) := bcell (by rw [hW]; exact blk_new w _ : W.heap[w.heap.size]? = some (.cells #[.int .i64 s] 3 (0, 0))) 0
  have Q1 := Lib.hid q1
  have HW := Lib.hid hW
  clear hD h0 q1 hW hp
  go_enter Try.func41, Try.ntmps41
  go_wp2_with fail
  rw [← HW.out]
  go_wp2_with (go_at_call 69; (with_reducible refine (has_blk HS.out Q1.out s 0).mono ?_); rw [HE.out]; rintro e w' ⟨rfl, rfl⟩)
  go_ret
  exact ⟨rfl, by rw [HW.out]; exact below_alloc (Below.refl _ _) _⟩
def eraseE (D : PD) (s : Int) : Int := if hasB D.s s 0 then 0 else 6
def erasedD (D : PD) (s : Int) : PD := if hasB D.s s 0 then eraseD D s else D
theorem Erase_any (hD : DevIs N0 p D ok w) (s : Int) (hm : D.dirty.length < 1000000) :
    Calls Try.prog 41 #[.pointer (some ⟨p, 0, none⟩), .int .i64 s] w fun e w' => e = .returned (.int .i64 (eraseE D s)) ∧ DevIs N0 p (erasedD D s) (fun k => ok k ∨ w.heap.size ≤ k) w' ∧ Upd (Mut ok w) w w' := by
  cases h0 : hasB D.s s 0 with
  | true =>
    rw [eraseE, erasedD, if_pos h0, if_pos h0]
    exact Erase_ok hD s h0 hm
  | false =>
    rw [eraseE, erasedD, if_neg (by rw [h0]; decide), if_neg (by rw [h0]; decide)]
    exact (Erase_no hD s h0).mono fun e w' ⟨h1, h2⟩ => ⟨h1, (hD.below h2).mono (fun _ h => .inl h), Upd.ofBelow h2 _⟩
end
end Go.Proofs.Ytkmanjfmffdcbaa.Fl
