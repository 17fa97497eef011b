/- The law's own awake: walked. No condition. -/
import Derived.Test.YtkmanjfmffdcbaaFlLike
namespace Go.Proofs.Ytkmanjfmffdcbaa.Fl
open Go.RowKit Go.Proofs.YtkmanjfmffdcbaaW.PrintWords Go.Proofs.YtkmanjfmffdcbaaW.PrintMore Go.Maps
set_option linter.unusedSimpArgs false
set_option linter.unusedVariables false
def aS : Int × Int × Int := (1, 1, 16)
def aD0 : PD := ⟨aS, [], []⟩
def aP : PlanT := ⟨0, -1, 0⟩
def aD1 : PD := writeD aD0 0 0 [7]
theorem a1 : writeE aD0 0 0 [7] = 0 := by decide
theorem a2 : usedB aD1 0 0 = true := by decide
theorem a3 : usedB (crashD aD1 aP) 0 0 = false := by decide
theorem a4 : aD1.dirty.length < 1000000 := by decide
theorem a5 : aD1.dirty.Pairwise (· ≠ ·) := by decide
theorem a6 : ∀ a ∈ aD1.dirty, (look a aD1.mp).isSome = true := by decide
theorem C_one {w : World} {g : Nat} {v : Int} (h : w.cell? ⟨g, 0, none⟩ = some (.int .u8 v)) : kB.C w (some ⟨g, 0, none⟩) [v].length [v] := by
  refine Kd.C_of_reads (d := 0) ⟨rfl, by simp, fun _ => ⟨_, rfl, fun j hj => ?_⟩⟩
  have : j = 0 := by simp at hj; exact hj
  subst this
  exact h
/-- One device above N0. -/
def Dev1 (N0 p : Nat) (D : PD) (w : World) : Prop := DevIs N0 p D (fun k => N0 ≤ k) w ∧ N0 ≤ w.heap.size
theorem Dev1.op {N0 p : Nat} {D D' : PD} {w : World} {f : FuncId} {args : Array Value} {res : Ending} (h : Dev1 N0 p D w) (hc : Calls Try.prog f args w fun e w' => e = res ∧ DevIs N0 p D' (fun k => N0 ≤ k ∨ w.heap.size ≤ k) w' ∧ Upd (Mut (fun k => N0 ≤ k) w) w w') :
    Calls Try.prog f args w fun e w' => e = res ∧ Dev1 N0 p D' w' ∧ Below N0 w w' :=
  hc.mono fun e w1 ⟨he, hd, hu⟩ => ⟨he, ⟨hd.mono (fun k hk => hk.elim id (fun h1 => Nat.le_trans h.2 h1)), Nat.le_trans h.2 hu.size⟩, upd_below hu h.2 (fun _ h => h)⟩
set_option maxHeartbeats 1000000 in
set_option maxRecDepth 100000 in
theorem Awake_any (w : World) : Calls Try.prog 24 #[] w fun e w' => e = .returned (.bool true) ∧ Below w.heap.size w w' := by
  have hnew : Calls Try.prog 27 #[.agg #[.int .i64 1, .int .i64 1, .int .i64 16]] w fun e w' => ∃ p, e = .returned (.tuple #[.pointer (some ⟨p, 0, none⟩), .int .i64 0]) ∧ DevIs w.heap.size p aD0 (fun k => w.heap.size ≤ k) w' ∧ Below w.heap.size w w' := New_ok aS rfl w w.heap.size (Nat.le_refl _)
  have hw : ∀ (p g : Nat) (W : World), Dev1 w.heap.size p aD0 W → W.cell? ⟨g, 0, none⟩ = some (.int .u8 7) → Calls Try.prog 34 #[.pointer (some ⟨p, 0, none⟩), .int .i64 0, .int .i64 0, .slice (some ⟨g, 0, none⟩) 1 1] W fun e w' => e = .returned (.int .i64 0) ∧ Dev1 w.heap.size p aD1 w' ∧ Below w.heap.size W w' := fun p g W hD hg => by
    have := hD.op (Write_any hD.1 0 0 (some ⟨g, 0, none⟩) 1 [7] (C_one hg) (by decide))
    rw [a1] at this
    exact this
  have hu : ∀ (p : Nat) (W : World), Dev1 w.heap.size p aD1 W → Calls Try.prog 39 #[.pointer (some ⟨p, 0, none⟩), .int .i64 0, .int .i64 0] W fun e w' => e = .returned (.bool true) ∧ W = w' := fun p W hD => by
    have := Used_any hD.1 0 0
    rw [a2] at this
    exact this
  have hc : ∀ (p : Nat) (W : World), Dev1 w.heap.size p aD1 W → Calls Try.prog 36 #[.pointer (some ⟨p, 0, none⟩), .agg #[.int .u64 0, .int .i64 (-1), .int .i64 0]] W fun e w' => e = .returned (.tuple #[]) ∧ Dev1 w.heap.size p (crashD aD1 aP) w' ∧ Below w.heap.size W w' := fun p W hD => hD.op (Crash_any hD.1 aP (by decide) (by decide) a4 a5 a6)
  have hu2 : ∀ (p : Nat) (W : World), Dev1 w.heap.size p (crashD aD1 aP) W → Calls Try.prog 39 #[.pointer (some ⟨p, 0, none⟩), .int .i64 0, .int .i64 0] W fun e w' => e = .returned (.bool false) ∧ W = w' := fun p W hD => by
    have := Used_any hD.1 0 0
    rw [a3] at this
    exact this
  have hal : ∀ (p : Nat) (W : World) (o : Obj), Dev1 w.heap.size p aD0 W → Dev1 w.heap.size p aD0 (W.alloc o) := fun p W o h => ⟨h.1.below (below_alloc (Below.refl _ _) _), by have := h.2; simp; omega⟩
  have HNEW := Lib.hid hnew
  have HW := Lib.hid hw
  have HU := Lib.hid hu
  have HC := Lib.hid hc
  have HU2 := Lib.hid hu2
  have HAL := Lib.hid hal
  clear hnew hw hu hc hu2 hal
  go_enter Try.func24, Try.ntmps24
  go_wp2_with (first
    | (go_at_call 27; (with_reducible refine HNEW.out.mono ?_); rintro e w1 ⟨p, rfl, hd, hb⟩; have HD1 := Aside0.mk (show Dev1 w.heap.size p aD0 w1 from ⟨hd, hb.size⟩); have HB1 := Aside0.mk hb; clear hd hb)
    | (go_at_call 34; (refine (HW.out _ _ _ (HAL.out _ _ _ HD1.out) (bcell (blk_new _ _) 0)).mono ?_); rintro e w2 ⟨rfl, hd, hb⟩; have HD2 := Aside0.mk hd; have HB2 := Aside0.mk ((HB1.out.alloc HB1.out.size _).trans hb); clear hd hb)
    | (go_at_call 39; (with_reducible refine (HU.out _ _ HD2.out).mono ?_); rintro e w3 ⟨rfl, rfl⟩)
    | (go_at_call 36; (refine (HC.out _ _ HD2.out).mono ?_); rintro e w4 ⟨rfl, hd, hb⟩; have HD4 := Aside0.mk hd; have HB4 := Aside0.mk (HB2.out.trans hb); clear hd hb)
    | (go_at_call 39; (with_reducible refine (HU2.out _ _ HD4.out).mono ?_); rintro e w5 ⟨rfl, rfl⟩))
  go_ret
  exact ⟨rfl, HB4.out⟩
end Go.Proofs.Ytkmanjfmffdcbaa.Fl
