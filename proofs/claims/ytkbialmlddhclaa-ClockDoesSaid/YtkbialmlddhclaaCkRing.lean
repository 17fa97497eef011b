/- The ring's questions: walked. -/
import Derived.Test.YtkbialmlddhclaaCkClone
namespace Go.Proofs.Ytkbialmlddhclaa.Ck
open Go.RowKit Go.Proofs.YtkbialmlddhclaaW.PrintWords Go.Proofs.YtkbialmlddhclaaW.PrintMore
set_option linter.unusedSimpArgs false
set_option linter.unusedVariables false
def mayB (o : Int) : Bool := decide (0 ≤ o ∧ o < 16)
set_option maxHeartbeats 400000 in
theorem may_any (o : Int) (w : World) : Calls Try.prog 75 #[.int .i64 o] w fun e w' => e = .returned (.bool (mayB o)) ∧ w = w' := by
  by_cases h1 : 0 ≤ o
  · have hd : decide (0 ≤ o) = true := by simpa using h1
    go_enter Try.func75, Try.ntmps75
    go_wp2
    all_goals (try go_ret)
    exact ⟨by simp [mayB, h1], rfl⟩
  · have hd : decide (0 ≤ o) = false := by simpa using h1
    go_enter Try.func75, Try.ntmps75
    go_wp2
    all_goals (try go_ret)
    exact ⟨by simp [mayB]; omega, rfl⟩
def newR : RG := ⟨[], List.replicate 16 false⟩
theorem ms16 {ms : List Bool} (h : ms.length = 16) : ∃ b0 b1 b2 b3 b4 b5 b6 b7 b8 b9 b10 b11 b12 b13 b14 b15 : Bool, ms = [b0, b1, b2, b3, b4, b5, b6, b7, b8, b9, b10, b11, b12, b13, b14, b15] := by
  match ms, h with
  | [b0, b1, b2, b3, b4, b5, b6, b7, b8, b9, b10, b11, b12, b13, b14, b15], _ => exact ⟨b0, b1, b2, b3, b4, b5, b6, b7, b8, b9, b10, b11, b12, b13, b14, b15, rfl⟩
/-- A ring's cells. -/
theorem RingIs.open_ {w : World} {V : Value} {r : RG} (h : RingIs w V r) : ∃ (A : Option Addr) (c : Nat) (b0 b1 b2 b3 b4 b5 b6 b7 b8 b9 b10 b11 b12 b13 b14 b15 : Bool), V = .agg #[.slice A r.row.length c, .bool b0, .bool b1, .bool b2, .bool b3, .bool b4, .bool b5, .bool b6, .bool b7, .bool b8, .bool b9, .bool b10, .bool b11, .bool b12, .bool b13, .bool b14, .bool b15] ∧ r.ms = [b0, b1, b2, b3, b4, b5, b6, b7, b8, b9, b10, b11, b12, b13, b14, b15] ∧ kI.C w A r.row.length r.row ∧ r.row.length ≤ c := by
  obtain ⟨v, rfl, ⟨A, c, rfl, hc, hC, -⟩, h16⟩ := h
  obtain ⟨b0, b1, b2, b3, b4, b5, b6, b7, b8, b9, b10, b11, b12, b13, b14, b15, hm⟩ := ms16 h16
  refine ⟨A, c, b0, b1, b2, b3, b4, b5, b6, b7, b8, b9, b10, b11, b12, b13, b14, b15, ?_, hm, hC, hc⟩
  rw [hm]
  rfl
section
variable {w : World} {V : Value} {r : RG}
set_option maxHeartbeats 1000000 in
set_option maxRecDepth 100000 in
theorem Len_any (h : RingIs w V r) : Calls Try.prog 36 #[V] w fun e w' => e = .returned (.int .i64 (r.row.length : Int)) ∧ Below w.heap.size w w' := by
  obtain ⟨A, c, b0, b1, b2, b3, b4, b5, b6, b7, b8, b9, b10, b11, b12, b13, b14, b15, rfl, -, -, -⟩ := h.open_
  clear h
  go_enter Try.func36, Try.ntmps36
  go_wp2
  go_ret
  exact ⟨rfl, below_alloc (Below.refl _ _) _⟩
set_option maxHeartbeats 1000000 in
set_option maxRecDepth 100000 in
theorem Has_any (h : RingIs w V r) (o : Int) : Calls Try.prog 39 #[V, .int .i64 o] w fun e w' => e = .returned (.bool (decide (o ∈ r.row))) ∧ Below w.heap.size w w' := by
  obtain ⟨A, c, b0, b1, b2, b3, b4, b5, b6, b7, b8, b9, b10, b11, b12, b13, b14, b15, rfl, -, hC, -⟩ := h.open_
  have hcon := fun (X : World) (hX : Below w.heap.size w X) => Contains_any (c := c) (Kd.C_below hC hX) o
  have HCON := Lib.hid hcon
  clear h hC hcon
  go_enter Try.func39, Try.ntmps39
  go_wp2_with (go_at_call 77; (refine (HCON.out _ (below_alloc (Below.refl _ _) _)).mono ?_); rintro e w1 ⟨rfl, rfl⟩)
  go_ret
  exact ⟨rfl, below_alloc (Below.refl _ _) _⟩
set_option maxHeartbeats 1000000 in
set_option maxRecDepth 100000 in
theorem All_any (h : RingIs w V r) (hm : r.row.length ≤ 1000) : Calls Try.prog 38 #[V] w fun e w' => ∃ v, e = .returned v ∧ RowV w' v r.row ∧ Below w.heap.size w w' := by
  obtain ⟨A, c, b0, b1, b2, b3, b4, b5, b6, b7, b8, b9, b10, b11, b12, b13, b14, b15, rfl, -, hC, -⟩ := h.open_
  have hcl := fun (X : World) (hX : Below w.heap.size w X) => Clone_any A c r.row X (Kd.C_below hC hX) (by omega)
  have HCL := Lib.hid hcl
  clear h hC hcl
  go_enter Try.func38, Try.ntmps38
  go_wp2_with (go_at_call 76; (refine (HCL.out _ (below_alloc (Below.refl _ _) _)).mono ?_); rintro e w1 ⟨v, rfl, hR, hb⟩; have HR := Aside0.mk hR; have HB := Aside0.mk hb; clear hR hb)
  go_ret
  exact ⟨_, rfl, RowV.ofR HR.out, (below_alloc (Below.refl _ _) _).trans (HB.out.mono (below_alloc (Below.refl _ w) _).size)⟩
def markB (r : RG) (o : Int) : Bool := mayB o && r.ms.getD o.toNat false
set_option maxHeartbeats 1000000 in
set_option maxRecDepth 100000 in
theorem Marked_any (h : RingIs w V r) (o : Int) : Calls Try.prog 37 #[V, .int .i64 o] w fun e w' => e = .returned (.bool (markB r o)) ∧ Below w.heap.size w w' := by
  obtain ⟨A, c, b0, b1, b2, b3, b4, b5, b6, b7, b8, b9, b10, b11, b12, b13, b14, b15, rfl, hms, -, -⟩ := h.open_
  have h16 : r.ms.length = 16 := by rw [hms]; rfl
  cases hmay : mayB o with
  | false =>
    have hv : markB r o = false := by unfold markB; rw [hmay]; rfl
    rw [hv]
    have HM := Lib.hid hmay
    clear h hv hmay h16 hms
    go_enter Try.func37, Try.ntmps37
    go_wp2_with (go_at_call 75; (refine (may_any _ _).mono ?_); rw [HM.out]; rintro e w1 ⟨rfl, rfl⟩)
    go_ret
    exact ⟨rfl, below_alloc (Below.refl _ _) _⟩
  | true =>
    have hma := hmay
    unfold mayB at hma
    rw [decide_eq_true_iff] at hma
    obtain ⟨n, rfl⟩ := Int.eq_ofNat_of_zero_le hma.1
    obtain ⟨x, hx⟩ : ∃ x, r.ms[n]? = some x := ⟨_, List.getElem?_eq_getElem (by omega)⟩
    have hv : markB r (n : Int) = x := by
      unfold markB
      rw [hmay, Int.toNat_natCast, List.getD_eq_getElem?_getD, hx]
      rfl
    rw [hv]
    obtain ⟨W, hW⟩ : ∃ W, W = w.alloc (.cells #[.slice A r.row.length c, .bool b0, .bool b1, .bool b2, .bool b3, .bool b4, .bool b5, .bool b6, .bool b7, .bool b8, .bool b9, .bool b10, .bool b11, .bool b12, .bool b13, .bool b14, .bool b15] TR) := ⟨_, rfl⟩
    have hc : W.cell? ⟨w.heap.size, 1 + n, none⟩ = some (.bool x) := by
      rw [hW, bcell (blk_new _ _), Nat.add_comm 1 n]
      rw [hms] at hx
      have h2 : (([b0, b1, b2, b3, b4, b5, b6, b7, b8, b9, b10, b11, b12, b13, b14, b15] : List Bool).map (fun x => Value.bool x))[n]? = some (.bool x) := by rw [List.getElem?_map, hx]; rfl
      simpa using h2
    have HM := Lib.hid hmay
    have HW := Lib.hid hW
    have n0 : (0 : Int) ≤ (n : Int) := by omega
    have n1 : (n : Int) < 16 := by omega
    clear h hv hmay h16 hms hW hx hma
    go_enter Try.func37, Try.ntmps37
    go_wp2_with fail
    rw [← HW.out]
    go_wp2_with (go_at_call 75; (refine (may_any _ _).mono ?_); rw [HM.out]; rintro e w1 ⟨rfl, rfl⟩)
    go_ret
    exact ⟨rfl, by rw [HW.out]; exact below_alloc (Below.refl _ _) _⟩
end
end Go.Proofs.Ytkbialmlddhclaa.Ck
