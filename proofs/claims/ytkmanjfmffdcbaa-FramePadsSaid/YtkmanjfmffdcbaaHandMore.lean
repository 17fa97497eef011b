/- Clone, Grow and Concat of bytes, walked. -/
import Derived.Test.YtkmanjfmffdcbaaHand
import Derived.Test.YtkmanjfmffdcbaaWZeros
namespace Go.Proofs.Ytkmanjfmffdcbaa.Hand
open Go.RowKit Go.Proofs.YtkmanjfmffdcbaaW.PrintWords Go.Proofs.YtkmanjfmffdcbaaW.PrintLast Go.Proofs.YtkmanjfmffdcbaaW.PrintMore
theorem info_u8 : (Try.prog.info? 5).map (fun i => (i.zero, i.size, i.bytes)) = some (some (.int .u8 0), 1, 1) := by kernel_rfl
set_option maxHeartbeats 400000 in
set_option maxRecDepth 100000 in
theorem grow_any (n : Int) (w : World) (h0 : 0 < n) (hl : n ≤ 140737488355328) :
    Calls Try.prog 95 #[.slice none 0 0, .int .i64 n] w fun e w' => ∃ v0_ : Value, e = .returned (v0_) ∧ Kd.R (Kd.int .u8) 5 w' w.heap.size (fun _ => True) v0_ ([] : List Int) ∧ Below w.heap.size w w' := by
  have HB := Aside0.mk (Below.refl w.heap.size w)
  have h1 : 0 ≤ n := by omega
  have h2 : n ≤ 9223372036854775807 := by omega
  go_enter Try.func95, Try.ntmps95
  go_wp2_with (first | (at_builtin; refine Kd.R_append_zeros (Kd.int .u8) (w0 := w) w.heap.size rfl (.tmp 20) (.tmp 21) 22 3 5 (.int .u8 0) 1 rfl Try.underlying22 Try.underlying3 info_u8 rfl (by decide) (by decide) (.slice none 0 0) [] (0 : Int) n (fun _ => True) rfl rfl (by rfl) (fun _ _ => trivial) (Kd.R_nil _ _ _ _ _) h1 HB.out HB.out.size (by simp; omega) ?_; intro v1 w1 ho hb hg hat; clear hg hat; obtain ⟨A1, c1, e1⟩ := Kd.R_slice ho; subst e1; have HO := Aside0.mk (Kd.R_take ho (Nat.zero_le _)); have HB1 := Aside0.mk hb; clear ho hb))
  go_ret
  exact ⟨_, rfl, HO.out, HB1.out⟩

set_option maxHeartbeats 1000000 in
set_option maxRecDepth 100000 in
theorem concat_any (g : Nat) (A B : Option Addr) (ca cb : Nat) (a b : List Int) (w : World) (h0 : w.cell? ⟨g, 0, none⟩ = some (.slice A a.length ca)) (h1 : w.cell? ⟨g, 1, none⟩ = some (.slice B b.length cb))
    (hA : Kd.C (Kd.int .u8) w A a.length a) (hB : Kd.C (Kd.int .u8) w B b.length b) (hp : 0 < a.length + b.length) (hl : a.length + b.length ≤ 1000000) :
    Calls Try.prog 86 #[.slice (some ⟨g, 0, none⟩) 2 2] w fun e w' => ∃ v0_ : Value, e = .returned (v0_) ∧ Kd.R (Kd.int .u8) 5 w' w.heap.size (fun _ => True) v0_ (a ++ b) ∧ Below w.heap.size w w' := by
  have HA := Aside0.mk hA
  have HB := Aside0.mk hB
  have HB0 := Aside0.mk (Below.refl w.heap.size w)
  clear hA hB
  have hla : (a.length : Int) ≤ 1000000 := by omega
  have hlb : (b.length : Int) ≤ 1000000 := by omega
  go_enter Try.func86, Try.ntmps86
  go_wp2
  go_loop [3, 11] (fun v3 v11 => ∃ k : Nat, k ≤ 2 ∧ v11 = .int .i64 (k : Int) ∧ v3 = .int .i64 (if k = 0 then 0 else if k = 1 then (a.length : Int) else (a.length : Int) + (b.length : Int))) (fun _ v11 => 2 - (intOf v11).toNat)
  case atStart => exact ⟨0, by omega, rfl, rfl⟩
  case round =>
    obtain ⟨k, hk, rfl, rfl⟩ := hrel
    match k, hk with
    | 0, _ =>
      go_wp2
      go_round
      case rel => exact ⟨1, by omega, rfl, rfl⟩
      case measure => simp [intOf]
    | 1, _ =>
      go_wp2
      go_round
      case rel => exact ⟨2, by omega, rfl, by simp⟩
      case measure => simp [intOf]
    | 2, _ =>
      have hpos : (0 : Int) < (a.length : Int) + (b.length : Int) := by omega
      go_wp2_with (first | (go_at_call 95; refine (grow_any _ _ hpos (by omega)).mono ?_; rintro e w1 ⟨v1, rfl, ho, hb⟩; have HO1 := Aside0.mk ho; have HB1 := Aside0.mk hb; clear ho hb))
      have c0 : w1.cell? ⟨g, 0, none⟩ = some (.slice A a.length ca) := by rw [HB1.out.cell (World.block_lt_of_cell? w _ h0)]; exact h0
      have c1 : w1.cell? ⟨g, 1, none⟩ = some (.slice B b.length cb) := by rw [HB1.out.cell (World.block_lt_of_cell? w _ h1)]; exact h1
      have hg := World.block_lt_of_cell? w _ h0
      clear h0 h1
      go_loopw [6, 27] (fun v6 v27 wr => ∃ (k : Nat) (v : Value), k ≤ 2 ∧ v27 = .int .i64 (k : Int) ∧ v = v6 ∧ Below w.heap.size w wr ∧ Kd.R (Kd.int .u8) 5 wr w.heap.size (fun _ => True) v (if k = 0 then [] else if k = 1 then a else a ++ b)) (fun _ v27 _ => 2 - (intOf v27).toNat)
      case atStart => exact ⟨0, _, by omega, rfl, rfl, HB1.out, HO1.out⟩
      case round =>
        obtain ⟨k, v, hk, rfl, rfl, hb2, ho2⟩ := hrel
        have HB2 := Aside0.mk hb2
        have d0 : wr.cell? ⟨g, 0, none⟩ = some (.slice A a.length ca) := by rw [hb2.cell (p := ⟨g, 0, none⟩) hg, ← HB1.out.cell (p := ⟨g, 0, none⟩) hg, c0]
        have d1 : wr.cell? ⟨g, 1, none⟩ = some (.slice B b.length cb) := by rw [hb2.cell (p := ⟨g, 1, none⟩) hg, ← HB1.out.cell (p := ⟨g, 1, none⟩) hg, c1]
        clear c0 c1 hb2
        match k, hk with
        | 0, _ =>
          have HO2 : Aside0 (Kd.R (Kd.int .u8) 5 wr w.heap.size (fun _ => True) v ([] : List Int)) := Aside0.mk ho2
          clear ho2
          go_wp2_with (first | (at_builtin; refine Kd.R_append_row (Value.int .u8) (0 : Int) (w0 := w) w.heap.size rfl (.tmp 31) (.tmp 32) 22 5 (.int .u8 0) 1 rfl Try.underlying22 info_u8 rfl (by decide) v [] a A a.length ca (fun _ => True) rfl rfl (fun _ _ => trivial) HO2.out (Kd.C_below HA.out HB2.out) HB2.out HB2.out.size (by simp; omega) ?_; intro v2 w2 ho3 hb3 hg3 hat3; clear hg3 hat3; have HO3 := Aside0.mk ho3; have HB3 := Aside0.mk hb3; clear ho3 hb3))
          go_roundw
          case rel => exact ⟨1, _, by omega, rfl, rfl, HB3.out, HO3.out⟩
          case measure => simp [intOf]
        | 1, _ =>
          have HO2 : Aside0 (Kd.R (Kd.int .u8) 5 wr w.heap.size (fun _ => True) v a) := Aside0.mk ho2
          clear ho2
          go_wp2_with (first | (at_builtin; refine Kd.R_append_row (Value.int .u8) (0 : Int) (w0 := w) w.heap.size rfl (.tmp 31) (.tmp 32) 22 5 (.int .u8 0) 1 rfl Try.underlying22 info_u8 rfl (by decide) v a b B b.length cb (fun _ => True) rfl rfl (fun _ _ => trivial) HO2.out (Kd.C_below HB.out HB2.out) HB2.out HB2.out.size (by simp; omega) ?_; intro v2 w2 ho3 hb3 hg3 hat3; clear hg3 hat3; have HO3 := Aside0.mk ho3; have HB3 := Aside0.mk hb3; clear ho3 hb3))
          go_roundw
          case rel => exact ⟨2, _, by omega, rfl, rfl, HB3.out, HO3.out⟩
          case measure => simp [intOf]
        | 2, _ =>
          have HO2 := Aside0.mk ho2
          clear ho2
          go_wp2
          go_ret
          exact ⟨_, rfl, HO2.out, HB2.out⟩
set_option maxHeartbeats 400000 in
set_option maxRecDepth 100000 in
theorem clone_any (A0 : Option Addr) (c0 : Nat) (l0 : List Int) (w : World) (hr0 : Kd.C (Kd.int .u8) w A0 l0.length l0) (hl : l0.length * 1 ≤ 140737488355328) :
    Calls Try.prog 84 #[.slice A0 l0.length c0] w fun e w' => ∃ v0_ : Value, e = .returned (v0_) ∧ Kd.R (Kd.int .u8) 5 w' w.heap.size (fun _ => True) v0_ l0 ∧ Below w.heap.size w w' := by
  have HR0 := Aside0.mk hr0
  have HL := Aside0.mk hl
  have HB := Aside0.mk (Below.refl w.heap.size w)
  clear hr0 hl
  have en := fun (w : World) (a : Option Addr) (n c : Nat) => Lib.run_eql_slice_nil (P := Try.prog) w 22 5 a n c 0 0 Try.underlying22
  cases A0 with
  | none =>
    obtain rfl : l0 = [] := by
      by_cases h : 0 < l0.length
      · obtain ⟨ad, e, _⟩ := HR0.out.2.2 h
        cases e
      · exact List.eq_nil_of_length_eq_zero (by omega)
    go_enter Try.func84, Try.ntmps84
    go_wp2
    go_ret
    exact ⟨_, rfl, Kd.R_nil _ _ _ _ _, HB.out⟩
  | some ad =>
    go_enter Try.func84, Try.ntmps84
    go_wp2_with (first | ((with_reducible refine gate_dst (N := 5) rfl ?_); refine Kd.R_lit (Kd.int .u8) w.heap.size 5 ?hg (N := 5) ?hd (xs := ([] : List Int)) (inner := []) (ok := fun _ => True) (okp := fun _ => True) ?hr ?hp (fun _ hk => hk) trivial (Below.refl _ _) (Nat.le_refl _) (by simp) ?_; (case hd => rfl); (case hg => rfl); (case hr => first | (go_simp; done) | (go_simp; rfl)); (case hp => exact Reps.none _ _); intro v1 w1 ho hb hg_ hnew_; clear hg_ hnew_; have HO := Aside0.mk ho; have HB1 := Aside0.mk hb; clear ho hb) | (at_builtin; refine Kd.R_append_row (Value.int .u8) (0 : Int) (w0 := w) w.heap.size rfl (.tmp 5) (.tmp 6) 22 5 (.int .u8 0) 1 rfl Try.underlying22 info_u8 rfl (by decide) v1 [] l0 (some ad) l0.length c0 (fun _ => True) rfl rfl (fun _ _ => trivial) HO.out (Kd.C_below HR0.out HB1.out) HB1.out HB1.out.size (by have := HL.out; simp; omega) ?_; intro v2 w2 ho2 hb2 hg2 hat2; clear hg2 hat2; have HO2 := Aside0.mk ho2; have HB2 := Aside0.mk hb2; clear ho2 hb2))
    go_ret
    exact ⟨_, rfl, HO2.out, HB2.out⟩
end Go.Proofs.Ytkmanjfmffdcbaa.Hand
