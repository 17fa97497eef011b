/- The device: a crash: walked. No condition. -/
import Derived.Test.YtkmanjfmffdcbaaFlErase
namespace Go.Proofs.Ytkmanjfmffdcbaa.Fl
open Go.RowKit Go.Proofs.YtkmanjfmffdcbaaW.PrintWords Go.Proofs.YtkmanjfmffdcbaaW.PrintMore Go.Maps
set_option linter.unusedSimpArgs false
set_option linter.unusedVariables false
structure PlanT where
  keep : Int
  torn : Int
  cut : Int
/-- How many bytes of a torn page are left. -/
def cutV (n : Int) (P : PlanT) : Int := if n < (if P.cut < 0 then 0 else P.cut) then n else (if P.cut < 0 then 0 else P.cut)
/-- Whether the plan keeps page number i, torn or not. -/
def bitB (keep : Int) (i : Nat) : Bool := decide (Go.bits .and .u64 (keep / 2 ^ i) 1 = 0)
def stepC (n : Int) (P : PlanT) (i : Nat) (a : Adr) (mp : List (Adr × List Int)) : List (Adr × List Int) :=
  if (i : Int) = P.torn ∧ 0 < cutV n P then put a (full n.toNat (((look a mp).getD []).take (cutV n P).toNat)) mp
  else if (i : Int) = P.torn ∨ 64 ≤ i ∨ bitB P.keep i = true then del a mp else mp
def crashTo (n : Int) (P : PlanT) (d : List Adr) (mp : List (Adr × List Int)) : Nat → List (Adr × List Int)
  | 0 => mp
  | k + 1 => match d[k]? with
    | some a => stepC n P k a (crashTo n P d mp k)
    | none => crashTo n P d mp k
theorem crashTo_succ {n : Int} {P : PlanT} {d : List Adr} {mp : List (Adr × List Int)} {k : Nat} {a : Adr} (h : d[k]? = some a) : crashTo n P d mp (k + 1) = stepC n P k a (crashTo n P d mp k) := by
  show (match d[k]? with | some a => stepC n P k a (crashTo n P d mp k) | none => crashTo n P d mp k) = _
  rw [h]
theorem nodup_stepC {n : Int} {P : PlanT} {i : Nat} {a : Adr} {mp : List (Adr × List Int)} (h : Nodup mp) : Nodup (stepC n P i a mp) := by
  unfold stepC
  split
  · exact nodup_put h
  · split
    · exact nodup_del h
    · exact h
theorem nodup_crashTo {n : Int} {P : PlanT} {d : List Adr} {mp : List (Adr × List Int)} (h : Nodup mp) : ∀ k, Nodup (crashTo n P d mp k)
  | 0 => h
  | k + 1 => by
    unfold crashTo
    split
    · exact nodup_stepC (nodup_crashTo h k)
    · exact nodup_crashTo h k
theorem look_stepC {n : Int} {P : PlanT} {i : Nat} {a c : Adr} {mp : List (Adr × List Int)} (h : Nodup mp) (hc : c ≠ a) : look c (stepC n P i a mp) = look c mp := by
  unfold stepC
  split
  · rw [look_put, if_neg hc]
  · split
    · rw [look_del _ _ h, if_neg hc]
    · rfl
/-- Who comes up later is there still. -/
theorem look_crashTo {n : Int} {P : PlanT} {d : List Adr} {mp : List (Adr × List Int)} (h : Nodup mp) {c : Adr} : ∀ k, (∀ j, j < k → d[j]? ≠ some c) → look c (crashTo n P d mp k) = look c mp
  | 0, _ => rfl
  | k + 1, hk => by
    have ih := look_crashTo (n := n) (P := P) h (c := c) k (fun j hj => hk j (by omega))
    cases hd : d[k]? with
    | none => unfold crashTo; rw [hd]; exact ih
    | some a =>
      rw [crashTo_succ hd, look_stepC (nodup_crashTo h k) (fun e => hk k (by omega) (by rw [hd, e])), ih]
theorem lens_crashTo {n : Int} {P : PlanT} {d : List Adr} {mp : List (Adr × List Int)} (h0 : 0 ≤ n) (h : ∀ q ∈ mp, q.2.length = n.toNat) : ∀ k, ∀ q ∈ crashTo n P d mp k, q.2.length = n.toNat
  | 0 => h
  | k + 1 => by
    have ih := lens_crashTo (P := P) (d := d) h0 h k
    unfold crashTo
    split
    · intro q hq
      unfold stepC at hq
      split at hq
      · rcases put_keys hq with rfl | hq
        · refine full_length ?_
          have : cutV n P ≤ n := by unfold cutV; split <;> omega
          rw [List.length_take]
          omega
        · exact ih q hq
      · split at hq
        · exact ih q (del_mem hq)
        · exact ih q hq
    · exact ih
def crashD (D : PD) (P : PlanT) : PD := { D with mp := crashTo D.s.2.2 P D.dirty D.mp D.dirty.length, dirty := [] }
theorem C_take {α : Type} {d : Kd α} {w : World} {A : Option Addr} {n : Nat} {l : List α} (h : d.C w A n l) (i : Nat) (hi : i ≤ n) : d.C w A i (l.take i) := by
  obtain ⟨h1, h2, h3⟩ := h
  refine ⟨by rw [List.length_take]; omega, by omega, fun hp => ?_⟩
  obtain ⟨ad, e, hc⟩ := h3 (by omega)
  refine ⟨ad, e, fun j p hj => hc j p ?_⟩
  rw [List.getElem?_take] at hj
  split at hj
  · exact hj
  · cases hj
theorem redrew {W w1 : World} (h : Below W.heap.size W w1) : Below W.drew.heap.size W.drew w1 := ⟨h.os, h.tape, h.output, h.size, h.block⟩
theorem upd_mid {N0 m : Nat} {ok2 : Nat → Prop} {v1 : Value} {es : Array MapEntry} {ck : Nat} {W w1 : World} {a : Adr} {L : List Int} {mp : List (Adr × List Int)} (xm : W.heap[m]? = some (.map es ck)) (xe : Ents N0 ok2 W es.toList mp) (hn : Nodup mp) (ha : InR a)
    (hrow : Row w1 W.drew.heap.size (fun k => W.drew.heap.size ≤ k) v1 L) (hb : Below W.drew.heap.size W.drew w1) (hok : ∀ k, W.heap.size ≤ k → ok2 k) (hN : N0 ≤ W.heap.size) :
    ∃ es' ck', (Instr.mapUpdate TM (.map (some m)) (kv a) v1).run Try.prog w1 = .ok () (putMap w1 m es' ck') ∧ Ents N0 ok2 (putMap w1 m es' ck') es'.toList (put a L mp) :=
  run_update (((undrew hb).block m (blt xm)).trans xm) (xe.imp (fun _ _ hr => Row.step (w' := w1) hr (fun k _ hlt => (undrew hb).block k hlt))) hn ha ((hrow.lower hN).mono (fun k hk => hok k hk))
section
variable {N0 p : Nat} {D : PD} {ok : Nat → Prop} {w : World}
attribute [local go_sem] max_two max2_int min_two min2_int
set_option maxHeartbeats 4000000 in
set_option maxRecDepth 100000 in
theorem Crash_any (hD : DevIs N0 p D ok w) (P : PlanT) (hk0 : 0 ≤ P.keep) (hk1 : P.keep < 18446744073709551616) (hm : D.dirty.length < 1000000) (hdn : D.dirty.Pairwise (· ≠ ·)) (hdk : ∀ a ∈ D.dirty, (look a D.mp).isSome = true) :
    Calls Try.prog 36 #[.pointer (some ⟨p, 0, none⟩), .agg #[.int .u64 P.keep, .int .i64 P.torn, .int .i64 P.cut]] w fun e w' => e = .returned (.tuple #[]) ∧ DevIs N0 p (crashD D P) (fun k => ok k ∨ w.heap.size ≤ k) w' ∧ Upd (Mut ok w) w w' := by
  obtain ⟨m, v, es, ck, hD⟩ := hD
  have HS := Lib.hid hD.shape
  have HP := Lib.hid hD.blk
  have HD := Aside0.mk hD
  obtain ⟨W, hW⟩ : ∃ W, W = w.alloc (.cells #[.int .u64 P.keep, .int .i64 P.torn, .int .i64 P.cut] 59) := ⟨_, rfl⟩
  have hlp := blt HP.out
  have q1 : W.heap[p]? = some (.cells #[.int .i64 D.s.1, .int .i64 D.s.2.1, .int .i64 D.s.2.2, .map (some m), v] TD (0, 0)) := by rw [hW]; exact (Below.heap_alloc _ _ _ hlp).trans HP.out
  have q2 : W.heap[w.heap.size]? = some (.cells #[.int .u64 P.keep, .int .i64 P.torn, .int .i64 P.cut] 59 (0, 0)) := by rw [hW]; exact blk_new w _
  have q3 : Below w.heap.size w W := by rw [hW]; exact below_alloc (Below.refl _ _) _
  have Q1 := Lib.hid q1; have Q2 := Lib.hid q2; have Q3 := Aside0.mk q3
  have k2 : W.cell? ⟨w.heap.size, 2, none⟩ = some (.int .i64 P.cut) := bcell q2 2
  have k1 : W.cell? ⟨p, 2, none⟩ = some (.int .i64 D.s.2.2) := bcell q1 2
  have k3 : W.cell? ⟨p, 4, none⟩ = some v := bcell q1 4
  have HW := Lib.hid hW
  have HDN := Lib.hid hdn
  have HK1 := Lib.hid hk1
  clear hk1
  have HDK := Lib.hid hdk
  obtain ⟨A, c, rfl⟩ := Kd.R_slice hD.dirty
  clear hD q1 q2 q3 hW hdn hdk
  go_enter Try.func36, Try.ntmps36
  go_wp2_with fail
  rw [← HW.out]
  go_wp2_with (go_at_call 68; (with_reducible refine (ok_blk Q1.out).mono ?_); rintro e w' ⟨rfl, rfl⟩)
  go_region_held3 (fun w' => w'.cell? ⟨w.heap.size, 2, none⟩ = some (.int .i64 P.cut) ∧ w'.cell? ⟨p, 2, none⟩ = some (.int .i64 D.s.2.2)) (go_keep) (fail)
  obtain ⟨q, hq⟩ : ∃ q, q = cutV D.s.2.2 P := ⟨_, rfl⟩
  obtain ⟨r, hr⟩ : ∃ r, (if P.cut < 0 then 0 else P.cut) = r := ⟨_, rfl⟩
  have hcv : (if D.s.2.2 < r then D.s.2.2 else r) = q := by rw [hq, ← hr]; rfl
  simp only [hr, hcv]
  have hqn : q ≤ D.s.2.2 := by rw [hq]; unfold cutV; split <;> omega
  have hq0 : 0 ≤ q := by
    have := HS.out.c0
    rw [hq]; unfold cutV; split
    · omega
    · split <;> omega
  have HQ := Lib.hid hq
  clear hq hcv hr
  obtain ⟨d, hd⟩ : ∃ d : Nat, d = D.dirty.length := ⟨_, rfl⟩
  have HDL := Lib.hid hd
  rw [← hd] at k3 hm
  clear hd k1 k2
  go_wp2
  have hmw : (W.drew).heap[m]? = some (.map es ck) := (Q3.out.block m (blt HD.out.map)).trans HD.out.map
  have HMW := Lib.hid hmw
  clear hmw
  have he0 : Ents N0 (fun j => ok j ∨ w.heap.size ≤ j) W es.toList D.mp := HD.out.ents.imp (fun _ _ hr => (Row.step (w' := W) hr (fun k _ hlt => Q3.out.block k hlt)).mono (fun _ h => Or.inl h))
  have HE0 := Aside0.mk he0.drew
  clear he0
  have HA1 : Hid (0 < d → ∃ g, A = some ⟨g, 0, none⟩ ∧ ARow w g c D.dirty) := Lib.hid (fun h => by
    obtain ⟨g, cap, e, _, _, hr⟩ := ARow.of_R HD.out.dirty (fun e => by
      injection e with _ h2 _
      have := HDL.out
      omega)
    injection e with e1 e2 e3
    subst e3
    exact ⟨g, e1, hr⟩)
  go_loopw [24] (fun v24 wr => ∃ (k : Nat) (es' : Array MapEntry) (ck' : Nat), k ≤ d ∧ v24 = .int .i64 (k : Int) ∧ wr.heap[m]? = some (.map es' ck') ∧ Ents N0 (fun j => ok j ∨ w.heap.size ≤ j) wr es'.toList (crashTo D.s.2.2 P D.dirty D.mp k) ∧ Upd (fun j => j = m) W wr) (fun v24 _ => d - (intOf v24).toNat)
  case atStart => exact ⟨0, es, ck, Nat.zero_le _, rfl, HMW.out, HE0.out, Upd.ofBelow ((Below.refl _ W).drew) _⟩
  case round =>
    obtain ⟨k, es', ck', hk, rfl, hmb, hen, hup⟩ := hrel
    have HMB := Lib.hid hmb
    have HEN := Aside0.mk hen
    have HUP := Aside0.mk hup
    clear hmb hen hup
    by_cases hlt : k < d
    · obtain ⟨a, ha⟩ : ∃ a, D.dirty[k]? = some a := ⟨_, List.getElem?_eq_getElem (by have := HDL.out; omega)⟩
      have HA := Lib.hid ha
      obtain ⟨g, rfl, hrow⟩ := HA1.out (by omega)
      have glt := hrow.lt
      have hgm : g ≠ m := by
        obtain ⟨cur, hh, _⟩ := hrow.ex
        exact map_ne hh HD.out.map
      have hkeep : ∀ j, j < w.heap.size → j ≠ m → wr.heap[j]? = w.heap[j]? := fun j h1 h2 => (HUP.out.block j (Nat.lt_of_lt_of_le h1 Q3.out.size) h2).trans (Q3.out.block j h1)
      have hcl := (hrow.step (hkeep g glt hgm)).cell ha
      have c1 := hcl.1
      have c2 := hcl.2.1
      have pm : p ≠ m := map_ne HP.out HD.out.map
      have b1 : wr.heap[p]? = some (.cells #[.int .i64 D.s.1, .int .i64 D.s.2.1, .int .i64 D.s.2.2, .map (some m), .slice (some ⟨g, 0, none⟩) D.dirty.length c] TD (0, 0)) := (hkeep p hlp pm).trans HP.out
      have bm : w.heap.size ≠ m := Nat.ne_of_gt (blt HD.out.map)
      have b2 : wr.heap[w.heap.size]? = some (.cells #[.int .u64 P.keep, .int .i64 P.torn, .int .i64 P.cut] 59 (0, 0)) := HUP.out.blk Q2.out bm
      have B1 := Lib.hid b1
      have B2 := Lib.hid b2
      have hin : InR a := HD.out.inr a (List.mem_of_getElem? ha)
      have kn : (k : Int) < (d : Int) := by omega
      have k00 : (0 : Int) ≤ (k : Int) := by omega
      obtain ⟨X, hX⟩ : ∃ X, X = wr.alloc (.cells #[.int .i64 a.1, .int .i64 a.2] TA) := ⟨_, rfl⟩
      have HX := Lib.hid hX
      have hX0 : Below wr.heap.size wr X := by rw [hX]; exact below_alloc (Below.refl _ _) _
      have HX0 := Aside0.mk hX0
      have x1 : X.cell? ⟨p, 3, none⟩ = some (.map (some m)) := bcell ((hX0.block p (blt b1)).trans b1) 3
      have x2 : X.cell? ⟨w.heap.size, 0, none⟩ = some (.int .u64 P.keep) := bcell ((hX0.block _ (blt b2)).trans b2) 0
      have x3 : X.cell? ⟨w.heap.size, 1, none⟩ = some (.int .i64 P.torn) := bcell ((hX0.block _ (blt b2)).trans b2) 1
      have bx : X.heap[wr.heap.size]? = some (.cells #[.int .i64 a.1, .int .i64 a.2] TA (0, 0)) := by rw [hX]; exact blk_new wr _
      have x4 : X.cell? ⟨wr.heap.size, 0, none⟩ = some (.int .i64 a.1) := bcell bx 0
      have x5 : X.cell? ⟨wr.heap.size, 1, none⟩ = some (.int .i64 a.2) := bcell bx 1
      have xm : X.heap[m]? = some (.map es' ck') := (hX0.block m (blt HMB.out)).trans HMB.out
      have hent : Ents N0 (fun j => ok j ∨ w.heap.size ≤ j) X es'.toList (crashTo D.s.2.2 P D.dirty D.mp k) := HEN.out.imp (fun _ _ hr => Row.step (w' := X) hr (fun k _ hlt => hX0.block k hlt))
      have XM := Lib.hid xm
      have XE := Aside0.mk hent
      have HIN := Lib.hid hin
      have y2 := x2
      have y3 := x3
      rw [hX] at y2 y3
      have hux : Upd (fun j => j = m) W X.drew := (HUP.out.trans (Upd.ofBelow hX0 _) (fun _ h _ => h)).trans (Upd.ofBelow ((Below.refl _ X).drew) _) (fun _ h _ => h)
      have HUX := Aside0.mk hux
      have hpx : X.heap[p]? = some (.cells #[.int .i64 D.s.1, .int .i64 D.s.2.1, .int .i64 D.s.2.2, .map (some m), .slice (some ⟨g, 0, none⟩) D.dirty.length c] TD (0, 0)) := (hX0.block p (blt b1)).trans b1
      have HPX := Lib.hid hpx
      have HBX := Lib.hid bx
      have hst := crashTo_succ (n := D.s.2.2) (P := P) (d := D.dirty) (mp := D.mp) HA.out
      have HST := Lib.hid hst
      have bm2 : wr.heap.size ≠ m := Nat.ne_of_gt (blt HMB.out)
      have hdl := run_delete (w := X.drew) XM.out XE.out.drew (nodup_crashTo HD.out.nodup k) HIN.out 0
      have HDEL := Lib.hid hdl
      clear ha hkeep hcl b1 b2 hX0 bx xm hent hin hrow hX hux hst hpx hdl
      by_cases ht : (k : Int) = P.torn
      · have e1 : ((k : Int) == P.torn) = true := by simp [ht]
        have HT := Lib.hid ht
        clear ht
        by_cases hq1 : 0 < q
        · have hs := HST.out
          rw [stepC, if_pos ⟨HT.out, by rw [← HQ.out]; exact hq1⟩, ← HQ.out] at hs
          have hlk : look a (crashTo D.s.2.2 P D.dirty D.mp k) = look a D.mp := look_crashTo HD.out.nodup k (fun j hj e => by
            obtain ⟨hj2, ej⟩ := List.getElem?_eq_some_iff.1 e
            obtain ⟨hk2, ek⟩ := List.getElem?_eq_some_iff.1 HA.out
            exact (List.pairwise_iff_getElem.1 HDN.out) j k hj2 hk2 hj (by rw [ej, ek]))
          obtain ⟨l, hl⟩ := Option.isSome_iff_exists.1 (HDK.out a (List.mem_of_getElem? HA.out))
          have hlen : l.length = D.s.2.2.toNat := HD.out.lens _ (look_mem hl)
          have hc0 := HS.out.c0
          obtain ⟨v1, hr, hrow⟩ := run_look (w := X.drew) XM.out XE.out.drew (nodup_crashTo HD.out.nodup k) HIN.out false
          rw [hlk, hl] at hr hrow hs
          obtain ⟨A1, c1, rfl, hlc, hC⟩ := hrow.reads
          simp only [Option.getD_some] at hr hC hlc hs
          obtain ⟨qn, hqe⟩ := Int.eq_ofNat_of_zero_le hq0
          subst hqe
          simp only [Int.toNat_natCast] at hs
          have hLk : (Instr.lookup TM (.map (some m)) (.agg #[.int .i64 a.1, .int .i64 a.2]) false).run Try.prog X.drew = .ok (.slice A1 l.length c1) X.drew := hr
          have hq3 : qn ≤ l.length := by omega
          have hcall := filled_blk (w := X.drew) HS.out HPX.out A1 c1 (l.take qn) (by rw [List.length_take, Nat.min_eq_left hq3]; exact C_take hC qn hq3) (by rw [List.length_take]; omega)
          rw [List.length_take, Nat.min_eq_left hq3] at hcall
          have HCALL := Lib.hid hcall
          obtain ⟨ln, hln⟩ : ∃ ln, ln = l.length := ⟨_, rfl⟩
          rw [← hln] at hLk hq3 hlc
          have q5 : (qn : Int) ≤ (c1 : Int) := by omega
          have hfl : (l.take qn).length ≤ D.s.2.2.toNat := by rw [List.length_take]; omega
          have HFL := Lib.hid hfl
          have HSD := Lib.hid hs
          have hNX : N0 ≤ X.heap.size := by have := blt HPX.out; have := HD.out.base; omega
          have hOX : ∀ j, X.heap.size ≤ j → ok j ∨ w.heap.size ≤ j := fun j hj => Or.inr (by have := HUX.out.size; have := Q3.out.size; have h5 : X.drew.heap.size = X.heap.size := rfl; omega)
          have HNX := Lib.hid hNX
          have HOX := Lib.hid hOX
          clear hs hlk hl hlen hr hrow hC hcall hln hfl hNX hOX
          go_wp2_with fail
          rw [← HX.out]
          clear y2 y3
          go_region_held3 (fun w' => w'.cell? ⟨p, 3, none⟩ = some (.map (some m)) ∧ w'.cell? ⟨wr.heap.size, 0, none⟩ = some (.int .i64 a.1) ∧ w'.cell? ⟨wr.heap.size, 1, none⟩ = some (.int .i64 a.2)) (first | go_keep | exact ⟨k4, k5, k6⟩ | exact ⟨k7, k8, k9⟩)
            ((go_at_call 70; refine HCALL.out.mono ?_; rintro e w1 ⟨v1, rfl, hrow, hbel⟩; obtain ⟨es2, ck2, hrun, hen⟩ := upd_mid XM.out XE.out (nodup_crashTo HD.out.nodup k) HIN.out hrow hbel HOX.out HNX.out; have hU : (Instr.mapUpdate TM (.map (some m)) (.agg #[.int .i64 a.1, .int .i64 a.2]) v1).run Try.prog w1 = .ok () (putMap w1 m es2 ck2) := hrun; have HEN2 := Aside0.mk hen; have HB0 := Aside0.mk (undrew hbel); have k4 : w1.cell? ⟨p, 3, none⟩ = some (.map (some m)) := (hbel.cell (p := ⟨p, 3, none⟩) (blt HPX.out)).trans x1; have k5 : w1.cell? ⟨wr.heap.size, 0, none⟩ = some (.int .i64 a.1) := (hbel.cell (p := ⟨wr.heap.size, 0, none⟩) (blt HBX.out)).trans x4; have k6 : w1.cell? ⟨wr.heap.size, 1, none⟩ = some (.int .i64 a.2) := (hbel.cell (p := ⟨wr.heap.size, 1, none⟩) (blt HBX.out)).trans x5; have k7 := putMap_cell k4 pm es2 ck2; have k8 := putMap_cell k5 bm2 es2 ck2; have k9 := putMap_cell k6 bm2 es2 ck2; clear hrow hbel hrun hen))
          go_wp2
          go_roundw
          case rel => exact ⟨k + 1, es2, ck2, by omega, by go_num, putMap_same ((HB0.out.block m (blt XM.out)).trans XM.out) es2 ck2, by rw [HSD.out]; exact HEN2.out, (HUX.out.trans (Upd.ofBelow (w := X.drew) (show Below X.drew.heap.size X.drew w1 from redrew HB0.out) _) (fun _ h _ => h)).trans (putMap_upd (S := fun j => j = m) w1 rfl es2 ck2) (fun _ h _ => h)⟩
          case measure => simp [intOf]; omega
        · have hs := HST.out
          rw [stepC, if_neg (fun h => hq1 (by rw [HQ.out]; exact h.2)), if_pos (Or.inl HT.out)] at hs
          have HSD := Lib.hid hs
          clear hs
          go_wp2_with fail
          rw [← HX.out]
          clear y2 y3
          obtain ⟨es2, ck2, hr2, he2⟩ := HDEL.out
          have hr3 : (Builtin.delete_ #[TM, TA] 0 #[.map (some m), .agg #[.int .i64 a.1, .int .i64 a.2]]).run Try.prog X.drew = .ok (.tuple #[]) (putMap X.drew m es2 ck2) := hr2
          have c3 := putMap_cell (w1 := X.drew) x1 pm es2 ck2
          have c4 := putMap_cell (w1 := X.drew) x4 bm2 es2 ck2
          have c5 := putMap_cell (w1 := X.drew) x5 bm2 es2 ck2
          have HE2 := Aside0.mk he2
          clear hr2 he2
          go_region_held3 (fun w' => w'.cell? ⟨p, 3, none⟩ = some (.map (some m)) ∧ w'.cell? ⟨wr.heap.size, 0, none⟩ = some (.int .i64 a.1) ∧ w'.cell? ⟨wr.heap.size, 1, none⟩ = some (.int .i64 a.2)) (first | go_keep | exact ⟨c3, c4, c5⟩) (fail)
          go_wp2
          go_roundw
          case rel => exact ⟨k + 1, es2, ck2, by omega, by go_num, putMap_same XM.out es2 ck2, by rw [HSD.out]; exact HE2.out, HUX.out.trans (putMap_upd (S := fun j => j = m) X.drew rfl es2 ck2) (fun _ h _ => h)⟩
          case measure => simp [intOf]; omega
      · have e1 : ((k : Int) == P.torn) = false := by simp [ht]
        have HT := Lib.hid ht
        clear ht
        by_cases h64 : 64 ≤ k
        · have e2 : (64 : Int) ≤ (k : Int) := by omega
          have hs := HST.out
          rw [stepC, if_neg (fun h => HT.out h.1), if_pos (Or.inr (Or.inl h64))] at hs
          have HSD := Lib.hid hs
          clear hs
          go_wp2_with fail
          rw [← HX.out]
          clear y2 y3
          obtain ⟨es2, ck2, hr2, he2⟩ := HDEL.out
          have hr3 : (Builtin.delete_ #[TM, TA] 0 #[.map (some m), .agg #[.int .i64 a.1, .int .i64 a.2]]).run Try.prog X.drew = .ok (.tuple #[]) (putMap X.drew m es2 ck2) := hr2
          have c3 := putMap_cell (w1 := X.drew) x1 pm es2 ck2
          have c4 := putMap_cell (w1 := X.drew) x4 bm2 es2 ck2
          have c5 := putMap_cell (w1 := X.drew) x5 bm2 es2 ck2
          have HE2 := Aside0.mk he2
          clear hr2 he2
          go_region_held3 (fun w' => w'.cell? ⟨p, 3, none⟩ = some (.map (some m)) ∧ w'.cell? ⟨wr.heap.size, 0, none⟩ = some (.int .i64 a.1) ∧ w'.cell? ⟨wr.heap.size, 1, none⟩ = some (.int .i64 a.2)) (first | go_keep | exact ⟨c3, c4, c5⟩) (fail)
          go_wp2
          go_roundw
          case rel => exact ⟨k + 1, es2, ck2, by omega, by go_num, putMap_same XM.out es2 ck2, by rw [HSD.out]; exact HE2.out, HUX.out.trans (putMap_upd (S := fun j => j = m) X.drew rfl es2 ck2) (fun _ h _ => h)⟩
          case measure => simp [intOf]; omega
        · have e2 : (k : Int) < 64 := by omega
          cases hb : bitB P.keep k with
          | true =>
            have e3 : (Go.bits .and .u64 (P.keep / 2 ^ k) 1 == 0) = true := by simpa [bitB] using hb
            have hs := HST.out
            rw [stepC, if_neg (fun h => HT.out h.1), if_pos (Or.inr (Or.inr hb))] at hs
            have HSD := Lib.hid hs
            clear hs hb
            go_wp2_with fail
            rw [← HX.out]
            clear y2 y3
            obtain ⟨es2, ck2, hr2, he2⟩ := HDEL.out
            have hr3 : (Builtin.delete_ #[TM, TA] 0 #[.map (some m), .agg #[.int .i64 a.1, .int .i64 a.2]]).run Try.prog X.drew = .ok (.tuple #[]) (putMap X.drew m es2 ck2) := hr2
            have c3 := putMap_cell (w1 := X.drew) x1 pm es2 ck2
            have c4 := putMap_cell (w1 := X.drew) x4 bm2 es2 ck2
            have c5 := putMap_cell (w1 := X.drew) x5 bm2 es2 ck2
            have HE2 := Aside0.mk he2
            clear hr2 he2
            go_region_held3 (fun w' => w'.cell? ⟨p, 3, none⟩ = some (.map (some m)) ∧ w'.cell? ⟨wr.heap.size, 0, none⟩ = some (.int .i64 a.1) ∧ w'.cell? ⟨wr.heap.size, 1, none⟩ = some (.int .i64 a.2)) (first | go_keep | exact ⟨c3, c4, c5⟩) (fail)
            go_wp2
            go_roundw
            case rel => exact ⟨k + 1, es2, ck2, by omega, by go_num, putMap_same XM.out es2 ck2, by rw [HSD.out]; exact HE2.out, HUX.out.trans (putMap_upd (S := fun j => j = m) X.drew rfl es2 ck2) (fun _ h _ => h)⟩
            case measure => simp [intOf]; omega
          | false =>
            have e3 : (Go.bits .and .u64 (P.keep / 2 ^ k) 1 == 0) = false := by simpa [bitB] using hb
            have hs := HST.out
            rw [stepC, if_neg (fun h => HT.out h.1), if_neg (fun h => h.elim HT.out (fun h => h.elim h64 (fun h => by rw [hb] at h; cases h)))] at hs
            have HSD := Lib.hid hs
            clear hs hb
            go_wp2_with fail
            rw [← HX.out]
            exact ⟨⟨k + 1, es', ck', by omega, by go_num, XM.out, by rw [HSD.out]; exact XE.out, ⟨HUX.out.os, HUX.out.tape, HUX.out.output, HUX.out.size, HUX.out.block⟩⟩, by simp [intOf]; omega⟩
    · obtain rfl : k = d := by omega
      have pm : p ≠ m := map_ne HP.out HD.out.map
      have b1 : wr.heap[p]? = some (.cells #[.int .i64 D.s.1, .int .i64 D.s.2.1, .int .i64 D.s.2.2, .map (some m), .slice A D.dirty.length c] TD (0, 0)) := (HUP.out.block p (Nat.lt_of_lt_of_le hlp Q3.out.size) pm).trans ((Q3.out.block p hlp).trans HP.out)
      have c1 : wr.cell? ⟨p, 4, none⟩ = some (.slice A D.dirty.length c) := bcell b1 4
      have c2 : wr.frozen? ⟨p, 4, none⟩ = false := bfrozen b1 4
      have B1 := Lib.hid b1
      clear b1
      go_wp2
      go_end0
      have hs0 := HS.out.c0
      have hfin := dev_end (ok' := fun k => ok k ∨ w.heap.size ≤ k) (v' := .slice none 0 0) (d' := []) HD.out B1.out HMB.out HEN.out (Kd.R_nil _ _ _ _ _) (nodup_crashTo HD.out.nodup k) (lens_crashTo (by omega) HD.out.lens k) (by simp) (fun _ h => .inl h)
      refine ⟨rfl, ?_, ?_⟩
      · rw [crashD, ← HDL.out]; exact hfin
      · exact ((Upd.ofBelow Q3.out _).trans (HUP.out.mono (S' := Mut ok w) (fun j hj _ => by rw [hj]; exact HD.out.mutm)) (fun _ h _ => h)).trans (Upd.setCell wr (p := ⟨p, 4, none⟩) HD.out.mutp _) (fun _ h _ => h)
end
end Go.Proofs.Ytkmanjfmffdcbaa.Fl
