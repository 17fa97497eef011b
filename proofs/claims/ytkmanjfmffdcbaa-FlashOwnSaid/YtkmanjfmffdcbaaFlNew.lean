/- The device: made, copied: walked. No condition. -/
import Derived.Test.YtkmanjfmffdcbaaFlCrash
namespace Go.Proofs.Ytkmanjfmffdcbaa.Fl
open Go.RowKit Go.Proofs.YtkmanjfmffdcbaaW.PrintWords Go.Proofs.YtkmanjfmffdcbaaW.PrintMore Go.Maps
set_option linter.unusedSimpArgs false
set_option linter.unusedVariables false
def shapeB (s : Int × Int × Int) : Bool := fitsB s.1 1 16 && fitsB s.2.1 1 64 && fitsB s.2.2 16 256
theorem shapeB_ok {s : Int × Int × Int} (h : shapeB s = true) : ShapeOk s := by
  simp [shapeB, fitsB] at h
  exact ⟨by omega, by omega, by omega, by omega, by omega, by omega⟩
set_option maxHeartbeats 1000000 in
set_option maxRecDepth 100000 in
theorem New_no (s : Int × Int × Int) (h : shapeB s = false) (w : World) : Calls Try.prog 27 #[.agg #[.int .i64 s.1, .int .i64 s.2.1, .int .i64 s.2.2]] w fun e w' => e = .returned (.tuple #[.pointer none, .int .i64 1]) ∧ Below w.heap.size w w' := by
  have hR : ∀ W, Calls Try.prog 28 #[.agg #[.int .i64 s.1, .int .i64 s.2.1, .int .i64 s.2.2]] W fun e w' => e = .returned (.bool false) ∧ Below W.heap.size W w' := fun W => by have := Right_any s W; rw [← shapeB, h] at this; exact this
  have HR := Lib.hid hR
  clear hR h
  go_enter Try.func27, Try.ntmps27
  go_wp2_with (go_at_call 28; (with_reducible refine (HR.out _).mono ?_); rintro e w1 ⟨rfl, hb⟩; have HB := Aside0.mk (below_then (below_alloc (Below.refl _ _) _) (by simp) hb); clear hb)
  go_ret2
  exact ⟨rfl, HB.out⟩
theorem Ents.empty (N0 : Nat) (ok : Nat → Prop) (w : World) : Ents N0 ok w [] [] := trivial
set_option maxHeartbeats 1000000 in
set_option maxRecDepth 100000 in
theorem New_ok (s : Int × Int × Int) (h : shapeB s = true) (w : World) (N0 : Nat) (hN : N0 ≤ w.heap.size) : Calls Try.prog 27 #[.agg #[.int .i64 s.1, .int .i64 s.2.1, .int .i64 s.2.2]] w fun e w' => ∃ p, e = .returned (.tuple #[.pointer (some ⟨p, 0, none⟩), .int .i64 0]) ∧ DevIs N0 p ⟨s, [], []⟩ (fun k => w.heap.size ≤ k) w' ∧ Below w.heap.size w w' := by
  have hR : ∀ W, Calls Try.prog 28 #[.agg #[.int .i64 s.1, .int .i64 s.2.1, .int .i64 s.2.2]] W fun e w' => e = .returned (.bool true) ∧ Below W.heap.size W w' := fun W => by have := Right_any s W; rw [← shapeB, h] at this; exact this
  have HR := Lib.hid hR
  have HS := Lib.hid (shapeB_ok h)
  have HN := Lib.hid hN
  have hmm := @run_makeMap Try.prog
  clear hR h hN
  go_enter Try.func27, Try.ntmps27
  go_wp2_with (go_at_call 28; (with_reducible refine (HR.out _).mono ?_); rintro e w1 ⟨rfl, hb⟩; have hbx : w1.heap[w.heap.size]? = some (.cells #[.int .i64 s.1, .int .i64 s.2.1, .int .i64 s.2.2] 46 (0, 0)) := (hb.block _ (by simp)).trans (blk_new w _); have b0 : w1.cell? ⟨w.heap.size, 0, none⟩ = some (.int .i64 s.1) := bcell hbx 0; have b1 : w1.cell? ⟨w.heap.size, 1, none⟩ = some (.int .i64 s.2.1) := bcell hbx 1; have b2 : w1.cell? ⟨w.heap.size, 2, none⟩ = some (.int .i64 s.2.2) := bcell hbx 2; have HB := Aside0.mk (below_then (below_alloc (Below.refl _ _) _) (by simp) hb); clear hb hbx)
  go_ret2
  have h1 := HB.out.size
  have h2 := HN.out
  refine ⟨w1.heap.size + 1, rfl, ⟨w1.heap.size, .slice none 0 0, #[], 0, by omega, Nat.le_succ_of_le h1, ?_, h1, by omega, ?_, Ents.empty _ _ _, Kd.R_nil _ _ _ _ _, HS.out, by simp, List.Pairwise.nil, by simp⟩, ?_⟩
  · have := blk_new (w1.alloc (.map #[] 0)) (.cells #[.int .i64 s.1, .int .i64 s.2.1, .int .i64 s.2.2, .map (some w1.heap.size), .slice none 0 0] TD (0, 0))
    simpa using this
  · exact (Below.heap_alloc _ _ _ (by simp)).trans (blk_new w1 _)
  · exact (HB.out.alloc h1 _).alloc (by simp; omega) _
section
variable {N0 p : Nat} {D : PD} {ok : Nat → Prop} {w : World}
set_option maxHeartbeats 1000000 in
set_option maxRecDepth 100000 in
theorem MapClone_any {m : Nat} {es : Array MapEntry} {ck : Nat} (hm : w.heap[m]? = some (.map es ck)) : Calls Try.prog 74 #[.map (some m)] w fun e w' => ∃ m', e = .returned (.map (some m')) ∧ w.heap.size ≤ m' ∧ w'.heap[m']? = some (.map es ck) ∧ Below w.heap.size w w' := by
  have en := fun (w : World) (r : Option Nat) => run_eql_map_nil (P := Try.prog) w TM TA 22 r Try.underlying99
  have hcall : (callFunc 90 #[.iface TM (.map (some m))]).run Try.prog w = .ok (.value (.iface TM (.map (some w.heap.size)))) (w.alloc (.map es ck)) := by
    rw [run_callFunc_extern Try.func90 (by kernel_rfl) (by kernel_rfl) (by kernel_rfl) (e := Extern.MapsClone.clone) (by kernel_rfl)]
    have hdef : Extern.MapsClone.clone #[.iface TM (.map (some m))] = (do
        let .map entries clock ← getObj m | stuck "maps.clone: a map expected"
        pure (.iface TM (.map (some (← newObj (.map entries clock)))))) := rfl
    rw [hdef]
    simp [MapKept.run_getObj_map hm, newObj, Result.andThen]
    rfl
  have hta : ∀ (w : World) (v : Value), (Instr.typeAssert (.iface TM v) 20 TM false).run Try.prog w = .ok v w := by
    intro w v
    simp [Instr.typeAssert, run_underlying Try.underlying99, Result.andThen]
  go_enter Try.func74, Try.ntmps74
  go_wp2_with fail
  go_ret
  exact ⟨w.heap.size, rfl, Nat.le_refl _, blk_new w _, below_alloc (Below.refl _ _) _⟩
/-- What a copy is made of: what is new, and rows of bytes. -/
def CopyOk (ok : Nat → Prop) (w : World) : Nat → Prop := fun k => w.heap.size ≤ k ∨ (ok k ∧ ∃ cs fr, w.heap[k]? = some (.cells cs TB fr))
theorem copy_end {m m1 : Nat} {v v1 : Value} {es : Array MapEntry} {ck : Nat} {w2 : World} (hD : DevAt N0 p D ok w m v es ck) (hm1 : w.heap.size ≤ m1) (hm2 : w2.heap[m1]? = some (.map es ck)) (hr : kAddr.R TA w2 w.heap.size (fun k => w.heap.size ≤ k) v1 D.dirty) (hb : Below w.heap.size w w2) :
    DevIs N0 w2.heap.size D (CopyOk ok w) (w2.alloc (.cells #[.int .i64 D.s.1, .int .i64 D.s.2.1, .int .i64 D.s.2.2, .map (some m1), v1] TD (0, 0))) ∧ Below w.heap.size w (w2.alloc (.cells #[.int .i64 D.s.1, .int .i64 D.s.2.1, .int .i64 D.s.2.2, .map (some m1), v1] TD (0, 0))) := by
  have hs := hb.size
  have hN : N0 ≤ w.heap.size := Nat.le_of_lt (Nat.lt_of_le_of_lt hD.base (blt hD.blk))
  have hb2 := below_alloc (Below.refl w2.heap.size w2) (.cells #[.int .i64 D.s.1, .int .i64 D.s.2.1, .int .i64 D.s.2.2, .map (some m1), v1] TD (0, 0))
  refine ⟨⟨m1, v1, es, ck, by omega, .inl hs, blk_new w2 _, .inl hm1, by omega, (hb2.block m1 (blt hm2)).trans hm2, ?_, ?_, hD.shape, hD.inr, hD.nodup, hD.lens⟩, hb.trans (hb2.mono hs)⟩
  · refine hD.ents.imp (fun _ _ hrow => ?_)
    refine ((hrow.bound.step (fun k _ hlt => hb.block k hlt)).below hb2).mono (fun k hk => .inr ⟨hk.1, ?_⟩)
    obtain ⟨_, _, _, q, hq, cs, hc⟩ := hk
    obtain rfl : q = TB := by simpa using hq
    exact ⟨cs, _, hc⟩
  · exact Kd.R_mono (Kd.R_lower (Kd.R_below hr hb2) hN) (fun k hk => .inl hk)
set_option maxHeartbeats 4000000 in
set_option maxRecDepth 100000 in
theorem Copy_any (hD : DevIs N0 p D ok w) (hm : D.dirty.length < 1000000) : Calls Try.prog 42 #[.pointer (some ⟨p, 0, none⟩)] w fun e w' => ∃ p', e = .returned (.pointer (some ⟨p', 0, none⟩)) ∧ w.heap.size ≤ p' ∧ DevIs N0 p' D (CopyOk ok w) w' ∧ Below w.heap.size w w' := by
  obtain ⟨m, v, es, ck, hD⟩ := hD
  have HP := Lib.hid hD.blk
  have HD := Aside0.mk hD
  have k0 : w.cell? ⟨p, 0, none⟩ = some (.int .i64 D.s.1) := bcell hD.blk 0
  have k1 : w.cell? ⟨p, 1, none⟩ = some (.int .i64 D.s.2.1) := bcell hD.blk 1
  have k2 : w.cell? ⟨p, 2, none⟩ = some (.int .i64 D.s.2.2) := bcell hD.blk 2
  have k3 : w.cell? ⟨p, 3, none⟩ = some (.map (some m)) := bcell hD.blk 3
  have k4 : w.cell? ⟨p, 4, none⟩ = some v := bcell hD.blk 4
  have lp := blt hD.blk
  have LP := Lib.hid lp
  have hmm := hm
  have LM := Lib.hid (blt hD.map)
  have HM := Lib.hid hD.map
  clear hD lp
  go_enter Try.func42, Try.ntmps42
  go_wp2_with (go_at_call 68; (with_reducible refine (ok_blk HP.out).mono ?_); rintro e w' ⟨rfl, rfl⟩)
  go_region_held3 (fun w' => w'.cell? ⟨p, 0, none⟩ = some (.int .i64 D.s.1) ∧ w'.cell? ⟨p, 1, none⟩ = some (.int .i64 D.s.2.1) ∧ w'.cell? ⟨p, 2, none⟩ = some (.int .i64 D.s.2.2) ∧ w'.cell? ⟨p, 3, none⟩ = some (.map (some m)) ∧ w'.cell? ⟨p, 4, none⟩ = some v) (first | go_keep)
    (first
      | (go_at_call 74; refine (MapClone_any (m := m) (es := es) (ck := ck) (((undrew RR.out.2).block m LM.out).trans HM.out)).mono ?_; rintro e w1 ⟨m1, rfl, hm⟩; have hB : Below w.heap.size w w1 := (undrew RR.out.2).trans (hm.2.2.mono (undrew RR.out.2).size); have c0 : w1.cell? ⟨p, 0, none⟩ = some (.int .i64 D.s.1) := (hB.cell (p := ⟨p, 0, none⟩) LP.out).trans k0; have c1 : w1.cell? ⟨p, 1, none⟩ = some (.int .i64 D.s.2.1) := (hB.cell (p := ⟨p, 1, none⟩) LP.out).trans k1; have c2 : w1.cell? ⟨p, 2, none⟩ = some (.int .i64 D.s.2.2) := (hB.cell (p := ⟨p, 2, none⟩) LP.out).trans k2; have c3 : w1.cell? ⟨p, 3, none⟩ = some (.map (some m)) := (hB.cell (p := ⟨p, 3, none⟩) LP.out).trans k3; have c4 : w1.cell? ⟨p, 4, none⟩ = some (v) := (hB.cell (p := ⟨p, 4, none⟩) LP.out).trans k4; have MM := Aside0.mk hm; clear hm hB)
      | (go_at_call 74; refine (MapClone_any (w := w.drew) (m := m) (es := es) (ck := ck) (HM.out)).mono ?_; rintro e w1 ⟨m1, rfl, hm⟩; have hB : Below w.heap.size w w1 := undrew hm.2.2; have c0 : w1.cell? ⟨p, 0, none⟩ = some (.int .i64 D.s.1) := (hB.cell (p := ⟨p, 0, none⟩) LP.out).trans k0; have c1 : w1.cell? ⟨p, 1, none⟩ = some (.int .i64 D.s.2.1) := (hB.cell (p := ⟨p, 1, none⟩) LP.out).trans k1; have c2 : w1.cell? ⟨p, 2, none⟩ = some (.int .i64 D.s.2.2) := (hB.cell (p := ⟨p, 2, none⟩) LP.out).trans k2; have c3 : w1.cell? ⟨p, 3, none⟩ = some (.map (some m)) := (hB.cell (p := ⟨p, 3, none⟩) LP.out).trans k3; have c4 : w1.cell? ⟨p, 4, none⟩ = some (v) := (hB.cell (p := ⟨p, 4, none⟩) LP.out).trans k4; have MM := Aside0.mk hm; clear hm hB)
      | (go_at_call 73; refine (Clone_any (v := v) (xs := D.dirty) (N0 := N0) (ok := ok) (Kd.R_below HD.out.dirty (undrew MM.out.2.2)) hmm).mono ?_; rintro e w1 ⟨v1, rfl, hr1, _, hb1⟩; obtain ⟨A1, c1, rfl⟩ := Kd.R_slice hr1; have hB : Below w.heap.size w w1 := (undrew MM.out.2.2).trans (hb1.mono (undrew MM.out.2.2).size); have c0 : w1.cell? ⟨p, 0, none⟩ = some (.int .i64 D.s.1) := (hB.cell (p := ⟨p, 0, none⟩) LP.out).trans k0; have c1 : w1.cell? ⟨p, 1, none⟩ = some (.int .i64 D.s.2.1) := (hB.cell (p := ⟨p, 1, none⟩) LP.out).trans k1; have c2 : w1.cell? ⟨p, 2, none⟩ = some (.int .i64 D.s.2.2) := (hB.cell (p := ⟨p, 2, none⟩) LP.out).trans k2; have c3 : w1.cell? ⟨p, 3, none⟩ = some (.map (some m)) := (hB.cell (p := ⟨p, 3, none⟩) LP.out).trans k3; have c4 : w1.cell? ⟨p, 4, none⟩ = some (v) := (hB.cell (p := ⟨p, 4, none⟩) LP.out).trans k4; have RR := Aside0.mk (And.intro hr1 hb1); clear hr1 hb1 hB)
      | (go_at_call 73; refine (Clone_any (v := v) (xs := D.dirty) (N0 := N0) (ok := ok) (Kd.R_step (w1 := w.drew) HD.out.dirty (fun _ _ _ => rfl)) hmm).mono ?_; rintro e w1 ⟨v1, rfl, hr1, _, hb1⟩; obtain ⟨A1, c1, rfl⟩ := Kd.R_slice hr1; have hB : Below w.heap.size w w1 := undrew hb1; have c0 : w1.cell? ⟨p, 0, none⟩ = some (.int .i64 D.s.1) := (hB.cell (p := ⟨p, 0, none⟩) LP.out).trans k0; have c1 : w1.cell? ⟨p, 1, none⟩ = some (.int .i64 D.s.2.1) := (hB.cell (p := ⟨p, 1, none⟩) LP.out).trans k1; have c2 : w1.cell? ⟨p, 2, none⟩ = some (.int .i64 D.s.2.2) := (hB.cell (p := ⟨p, 2, none⟩) LP.out).trans k2; have c3 : w1.cell? ⟨p, 3, none⟩ = some (.map (some m)) := (hB.cell (p := ⟨p, 3, none⟩) LP.out).trans k3; have c4 : w1.cell? ⟨p, 4, none⟩ = some (v) := (hB.cell (p := ⟨p, 4, none⟩) LP.out).trans k4; have RR := Aside0.mk (And.intro hr1 hb1); clear hr1 hb1 hB))
  · go_wp2
    go_ret
    have hb2 : Below w.heap.size w _ := (undrew MM.out.2.2).trans (RR.out.2.mono (undrew MM.out.2.2).size)
    have hr2 := Kd.R_mono (Kd.R_lower RR.out.1 (undrew MM.out.2.2).size) (fun k hk => Nat.le_trans (undrew MM.out.2.2).size hk)
    exact ⟨_, rfl, hb2.size, copy_end HD.out MM.out.1 (RR.out.2.block _ (blt MM.out.2.1) |>.trans MM.out.2.1) hr2 hb2⟩
end
end Go.Proofs.Ytkmanjfmffdcbaa.Fl
