/- The device's small functions, walked. No condition. -/
import Derived.Test.YtkmanjfmffdcbaaFlMap
import Derived.Deep.QuietTactic
import Derived.BigQuiet
import Derived.Lib.Hide
namespace Go.Proofs.Ytkmanjfmffdcbaa.Fl
open Go.RowKit Go.Proofs.YtkmanjfmffdcbaaW.PrintWords Go.Maps
set_option linter.unusedSimpArgs false
set_option linter.unusedVariables false
def fitsB (a b c : Int) : Bool := decide (b ≤ a ∧ a ≤ c)
set_option maxHeartbeats 400000 in
theorem Fits_any (a b c : Int) (w : World) : Calls Try.prog 61 #[.int .i64 a, .int .i64 b, .int .i64 c] w fun e w' => e = .returned (.bool (fitsB a b c)) ∧ w = w' := by
  by_cases h1 : b ≤ a
  · go_enter Try.func61, Try.ntmps61
    go_wp2
    all_goals (try go_ret)
    exact ⟨by simp [fitsB, h1], rfl⟩
  · have hd : decide (b ≤ a) = false := by simpa using h1
    go_enter Try.func61, Try.ntmps61
    go_wp2
    all_goals (try go_ret)
    exact ⟨by simp [fitsB]; omega, rfl⟩
set_option maxHeartbeats 400000 in
set_option maxRecDepth 100000 in
theorem ok_blk {w : World} {p : Nat} {c0 c1 c2 v : Value} {m : Nat} (hp : w.heap[p]? = some (.cells #[c0, c1, c2, .map (some m), v] TD (0, 0))) :
    Calls Try.prog 68 #[.pointer (some ⟨p, 0, none⟩)] w fun e w' => e = .returned (.bool true) ∧ w = w' := by
  have hc : w.cell? ⟨p, 3, none⟩ = some (.map (some m)) := bcell hp 3
  have nm := fun (w : World) (r : Option Nat) => run_neq_map_nil (P := Try.prog) w TM TA 22 r Try.underlying99
  clear hp
  go_enter Try.func68, Try.ntmps68
  go_wp2
  go_ret
  exact ⟨rfl, rfl⟩
set_option maxHeartbeats 400000 in
theorem ok_nil (w : World) : Calls Try.prog 68 #[.pointer none] w fun e w' => e = .returned (.bool false) ∧ w = w' := by
  go_enter Try.func68, Try.ntmps68
  go_wp2
  go_ret
  exact ⟨rfl, rfl⟩
def hasB (s : Int × Int × Int) (a b : Int) : Bool := fitsB a 0 (s.1 - 1) && fitsB b 0 (s.2.1 - 1)
def hasE (s : Int × Int × Int) (a b : Int) : Int := if hasB s a b then 0 else 6
theorem hasB_inr {s : Int × Int × Int} (hs : ShapeOk s) {a b : Int} (h : hasB s a b = true) : InR (a, b) := by
  have := hs.a1; have := hs.b1
  simp [hasB, fitsB] at h
  exact ⟨by simp; omega, by simp; omega, by simp; omega, by simp; omega⟩
set_option maxHeartbeats 400000 in
set_option maxRecDepth 100000 in
theorem has_blk {w : World} {p : Nat} {s : Int × Int × Int} {v : Value} {m : Nat} (hs : ShapeOk s) (hp : w.heap[p]? = some (.cells #[.int .i64 s.1, .int .i64 s.2.1, .int .i64 s.2.2, .map (some m), v] TD (0, 0))) (a b : Int) :
    Calls Try.prog 69 #[.pointer (some ⟨p, 0, none⟩), .int .i64 a, .int .i64 b] w fun e w' => e = .returned (.int .i64 (hasE s a b)) ∧ w = w' := by
  obtain ⟨s1, s2, s3⟩ := s
  have h1 := hs.a0; have h2 := hs.a1; have h3 := hs.b0; have h4 := hs.b1
  clear hs
  simp only at h1 h2 h3 h4
  have hc0 : w.cell? ⟨p, 0, none⟩ = some (.int .i64 s1) := bcell hp 0
  have hc1 : w.cell? ⟨p, 1, none⟩ = some (.int .i64 s2) := bcell hp 1
  have hP := Lib.hid hp
  clear hp
  cases e1 : fitsB a 0 (s1 - 1) with
  | true =>
    cases e2 : fitsB b 0 (s2 - 1) with
    | true =>
      have E3 := Lib.hid (show hasE (s1, s2, s3) a b = 0 by simp [hasE, hasB, e1, e2])
      go_enter Try.func69, Try.ntmps69
      go_wp2_with (first | (go_at_call 68; ((with_reducible refine (ok_blk hP.out).mono ?_); rintro e w' ⟨rfl, rfl⟩)) | (go_at_call 61; ((with_reducible refine (Fits_any _ _ _ _).mono ?_); rintro e w' ⟨rfl, rfl⟩)))
      go_ret
      exact ⟨by rw [E3.out]; rfl, rfl⟩
    | false =>
      have E3 := Lib.hid (show hasE (s1, s2, s3) a b = 6 by simp [hasE, hasB, e1, e2])
      go_enter Try.func69, Try.ntmps69
      go_wp2_with (first | (go_at_call 68; ((with_reducible refine (ok_blk hP.out).mono ?_); rintro e w' ⟨rfl, rfl⟩)) | (go_at_call 61; ((with_reducible refine (Fits_any _ _ _ _).mono ?_); rintro e w' ⟨rfl, rfl⟩)))
      go_ret
      exact ⟨by rw [E3.out]; rfl, rfl⟩
  | false =>
      have E3 := Lib.hid (show hasE (s1, s2, s3) a b = 6 by simp [hasE, hasB, e1])
      go_enter Try.func69, Try.ntmps69
      go_wp2_with (first | (go_at_call 68; ((with_reducible refine (ok_blk hP.out).mono ?_); rintro e w' ⟨rfl, rfl⟩)) | (go_at_call 61; ((with_reducible refine (Fits_any _ _ _ _).mono ?_); rintro e w' ⟨rfl, rfl⟩)))
      go_ret
      exact ⟨by rw [E3.out]; rfl, rfl⟩
theorem Shape_blk {w : World} {p : Nat} {s : Int × Int × Int} {v : Value} {m : Nat} (hp : w.heap[p]? = some (.cells #[.int .i64 s.1, .int .i64 s.2.1, .int .i64 s.2.2, .map (some m), v] TD (0, 0))) :
    Calls Try.prog 43 #[.pointer (some ⟨p, 0, none⟩)] w fun e w' => e = .returned (.agg #[.int .i64 s.1, .int .i64 s.2.1, .int .i64 s.2.2]) ∧ Below w.heap.size w w' := by
  have hc0 : w.cell? ⟨p, 0, none⟩ = some (.int .i64 s.1) := bcell hp 0
  have hc1 : w.cell? ⟨p, 1, none⟩ = some (.int .i64 s.2.1) := bcell hp 1
  have hc2 : w.cell? ⟨p, 2, none⟩ = some (.int .i64 s.2.2) := bcell hp 2
  have hl := blt hp
  have hP := Lib.hid hp
  clear hp
  go_enter Try.func43, Try.ntmps43
  go_wp2_with (first | (go_at_call 68; (refine (ok_blk ((Below.heap_alloc _ _ _ hl).trans hP.out)).mono ?_; rintro e w' ⟨rfl, rfl⟩)))
  exact bodyPost_ret (v := .agg #[.int .i64 s.1, .int .i64 s.2.1, .int .i64 s.2.2]) (by simp [results, Try.results43, go_sem]) rfl ⟨rfl, by repeat' (first | exact Below.refl _ _ | refine Below.setCell ?_ (Nat.le_refl _) _ | refine Below.alloc ?_ (Nat.le_refl _) _)⟩
end Go.Proofs.Ytkmanjfmffdcbaa.Fl
