/- The statement CrcSums: what the law's code does, walked; and the contracts of the functions of the sum. -/
import Derived.Test.YtkbialmlddhclaaCrcFacts
import Derived.OpenShut
namespace Go.Proofs.Ytkbialmlddhclaa.CrcWalk
open Go.RowKit Go.Proofs.YtkbialmlddhclaaW.PrintWords Go.Proofs.YtkbialmlddhclaaW.PrintLast Go.Proofs.YtkbialmlddhclaaW.PrintMore Go.Proofs.Ytkbialmlddhclaa.QCrc Go.Proofs.Ytkbialmlddhclaa.CrcMath Go.Proofs.Ytkbialmlddhclaa.CrcFacts


def U32 (c : Int) : Prop := 0 ≤ c ∧ c ≤ 4294967295
theorem many_any (c : Int) (A : Option Addr) (cap : Nat) (n : Nat) (l : List Int) (w : World) (hr : Kd.C (Kd.int .u8) w A n l) (hc : n ≤ cap) (hb : Byt l) (h : U32 c) (hm : n ≤ 9223372036854775806) :
    Calls Try.prog 19 #[.int .u32 c, .slice A n cap] w fun e w' => e = .returned (.int .u32 (many c.toNat (nb l) : Nat)) ∧ ∃ n, w' = w.drewN n := by
  obtain rfl := hr.1
  obtain ⟨c, rfl⟩ := Int.eq_ofNat_of_zero_le h.1
  have hc' : c < 2 ^ 32 := by have := h.2; omega
  exact (crc_Many.calls (l.length + 10) c A cap l _ w hr hc (many_is _ c l hb hc' hm (Nat.le_refl _))).mono fun _ _ ⟨h1, h2⟩ => ⟨h1, h2.out⟩
theorem sum_any (A : Option Addr) (cap : Nat) (n : Nat) (l : List Int) (w : World) (hr : Kd.C (Kd.int .u8) w A n l) (hc : n ≤ cap) (hb : Byt l) (hm : n ≤ 9223372036854775806) :
    Calls Try.prog 17 #[.slice A n cap] w fun e w' => e = .returned (.int .u32 (sum (nb l) : Nat)) ∧ ∃ n, w' = w.drewN n := by
  obtain rfl := hr.1
  exact (crc_Sum.calls (l.length + 10) A cap l _ w hr hc (sum_is _ l hb hm (Nat.le_refl _))).mono fun _ _ ⟨h1, h2⟩ => ⟨h1, h2.out⟩
theorem refsum_any (A : Option Addr) (cap : Nat) (n : Nat) (l : List Int) (w : World) (hr : Kd.C (Kd.int .u8) w A n l) (hc : n ≤ cap) (hb : Byt l) (hm : n ≤ 9223372036854775806) :
    Calls Try.prog 18 #[.slice A n cap] w fun e w' => e = .returned (.int .u32 (sum (nb l) : Nat)) ∧ ∃ n, w' = w.drewN n := by
  obtain rfl := hr.1
  exact (spenceref01_Sum.calls (l.length + 10) A cap l _ w hr hc (refsum_is _ l hb hm (Nat.le_refl _))).mono fun _ _ ⟨h1, h2⟩ => ⟨h1, h2.out⟩
theorem next_any (c b : Int) (w : World) (h : U32 c) (hb : 0 ≤ b ∧ b ≤ 255) :
    Calls Try.prog 20 #[.int .u32 c, .int .u8 b] w fun e w' => e = .returned (.int .u32 (next c.toNat b.toNat : Nat)) ∧ ∃ n, w' = w.drewN n := by
  obtain ⟨c, rfl⟩ := Int.eq_ofNat_of_zero_le h.1
  obtain ⟨b, rfl⟩ := Int.eq_ofNat_of_zero_le hb.1
  exact (crc_Next.calls 9 c b _ w (next_is _ c b (by have := h.2; omega) (by omega) (Nat.le_refl _))).mono fun _ _ ⟨h1, h2⟩ => ⟨h1, h2.out⟩
theorem ref_any (c b : Int) (w : World) (h : U32 c) (hb : 0 ≤ b ∧ b ≤ 255) :
    Calls Try.prog 16 #[.int .u32 c, .int .u8 b] w fun e w' => e = .returned (.int .u32 (next c.toNat b.toNat : Nat)) ∧ ∃ n, w' = w.drewN n := by
  obtain ⟨c, rfl⟩ := Int.eq_ofNat_of_zero_le h.1
  obtain ⟨b, rfl⟩ := Int.eq_ofNat_of_zero_le hb.1
  exact (spenceref01_Next.calls 9 c b _ w (ref_is _ c b (by have := h.2; omega) (by omega) (Nat.le_refl _))).mono fun _ _ ⟨h1, h2⟩ => ⟨h1, h2.out⟩
theorem awake_any (w : World) : Calls Try.prog 15 #[] w fun e w' => e = .returned (.bool true) ∧ Below w.heap.size w w' := by
  refine spencelaw02_awake.calls 20 true w ?_
  unfold spencelaw02_awake.f
  rw [sum_is 20 _ (by intro x hx; simp at hx; omega) (by decide) (by decide), Option.bind_some]
  decide +kernel
theorem u32_of {n : Nat} (h : n < 2 ^ 32) : U32 (n : Int) := ⟨by omega, by omega⟩
theorem byt_take {l : List Int} (h : Byt l) (k : Nat) : Byt (l.take k) := fun x hx => h x (List.mem_of_mem_take hx)
theorem byt_drop {l : List Int} (h : Byt l) (k : Nat) : Byt (l.drop k) := fun x hx => h x (List.mem_of_mem_drop hx)
theorem byt_at {l : List Int} (h : Byt l) (k : Nat) (hk : k < l.length) : 0 ≤ rd l (k : Int) ∧ rd l (k : Int) ≤ 255 := by
  unfold rd; rw [Int.toNat_natCast, List.getD_eq_getElem?_getD, List.getElem?_eq_getElem hk, Option.getD_some]; exact h _ (List.getElem_mem hk)
theorem many_take {l : List Int} (c k : Nat) (h : k < l.length) : many c (nb (l.take (k + 1))) = next (many c (nb (l.take k))) (rd l (k : Int)).toNat := by
  unfold rd
  rw [List.take_succ_eq_append_getElem h, nb, List.map_append, many_append, Int.toNat_natCast, List.getD_eq_getElem?_getD, List.getElem?_eq_getElem h]
  rfl
theorem nb_append (l m : List Int) : nb (l ++ m) = nb l ++ nb m := List.map_append
theorem many_u32 {l : List Int} (h : Byt l) (c : Nat) (hc : c < 2 ^ 32) : U32 (many c (nb l) : Nat) := u32_of (many_lt _ hc (nb_lt h))

set_option maxHeartbeats 1000000 in
set_option maxRecDepth 100000 in
theorem law_in (A : Option Addr) (cap : Nat) (l : List Int) (c i : Nat) (w : World) (hr : Kd.C (Kd.int .u8) w A l.length l) (hc : l.length ≤ cap) (hb : Byt l) (h1 : l.length ≤ 2000) (hci : c < 4294967296) (hi : i ≤ l.length) :
    Calls Try.prog 3 #[.slice A l.length cap, .int .u32 (c : Int), .int .i64 (i : Int)] w fun e w' => e = .returned (.bool true) ∧ Below w.heap.size w w' := by
  have HR := Aside0.mk hr
  have HC := Aside0.mk hc
  have HB := Aside0.mk hb
  have hcu : U32 (c : Int) := ⟨by omega, by omega⟩
  clear hr hc hb
  have d1 : decide ((2000 : Int) < (l.length : Int)) = false := decide_eq_false (by omega)
  have d2 : decide ((i : Int) < 0) = false := decide_eq_false (by omega)
  have d3 : decide ((l.length : Int) < (i : Int)) = false := decide_eq_false (by omega)
  have d4 : decide (l.length < i) = false := decide_eq_false (by omega)
  go_enter Try.func3, Try.ntmps3
  go_wp2_with (first | (go_at_call 15; refine (awake_any _).mono ?_; rintro e w1 ⟨rfl, hbel⟩))
  have HBel := Aside0.mk hbel
  clear hbel d1 d2 d3 d4
  go_loopw [7, 28] (fun v7 v28 wr => ∃ k : Nat, k ≤ l.length ∧ v28 = .int .i64 (k : Int) ∧ v7 = .int .u32 ((many c (nb (l.take k)) : Nat) : Int) ∧ ∃ n, wr = w1.drewN n) (fun _ v28 _ => l.length - (intOf v28).toNat)
  case atStart => exact ⟨0, Nat.zero_le _, rfl, rfl, 0, rfl⟩
  case round =>
    obtain ⟨k, hk, rfl, rfl, n, rfl⟩ := hrel
    have hR : Kd.C (Kd.int .u8) (w1.drewN n) A l.length l := Kd.C_below (Kd.C_below HR.out HBel.out) (Drawn0.mk ⟨n, rfl⟩).below
    by_cases hlt : k < l.length
    · have hS := Aside0.mk (many_take (l := l) c k hlt)
      have hM := Aside0.mk (many_u32 (byt_take HB.out k) c hci)
      have hB := Aside0.mk (byt_at HB.out k hlt)
      obtain ⟨ad, rfl, hcell⟩ := Hand.C_cell hR k hlt
      clear hR
      go_wp2_with (first | (go_at_call 16; refine (ref_any _ _ _ hM.out hB.out).mono ?_; rintro e w2 ⟨rfl, m, rfl⟩))
      go_roundw
      case rel => exact ⟨k + 1, by omega, by go_num, by rw [hS.out], n + m, rfl⟩
      case measure => simp [intOf]; omega
    · obtain rfl : k = l.length := by omega
      have hT : nb (l.take l.length) = nb l := by rw [List.take_length]
      simp only [hT]
      clear hT hlt
      have HR1 := Aside0.mk hR
      have hU := Aside0.mk (many_u32 HB.out c hci)
      have HW := Aside0.mk (pw_below_drewN HBel.out n)
      clear hR HBel HR
      generalize w1.drewN n = W at *
      have hi0 : (0 : Int) ≤ (i : Int) := by omega
      have hi1 : (i : Int) ≤ (l.length : Int) := by omega
      have hi2 : (i : Int) ≤ (cap : Int) := by have := HC.out; omega
      have hic : i ≤ cap := by omega
      have hid : l.length - i ≤ cap - i := by have := HC.out; omega
      have hut := Aside0.mk (many_u32 (byt_take HB.out i) c hci)
      have hE : many (many c (nb (List.take i l))) (nb (List.drop i l)) = many c (nb l) := by rw [← many_append, ← nb_append, List.take_append_drop]
      by_cases hz : l.length = 0
      · have hz1 : ((l.length : Int) == 0) = true := beq_iff_eq.2 (by omega)
        clear hz
        go_wp2_with fail
        go_quiet (first | (go_at_call 17; exact Calls.quiet_of (sum_any _ _ _ _ _ (Kd.C_drewN HR1.out _) HC.out HB.out (by omega))) | (go_at_call 18; exact Calls.quiet_of (refsum_any _ _ _ _ _ (Kd.C_drewN HR1.out _) HC.out HB.out (by omega))) | (go_at_call 19; with_reducible exact Calls.quiet_of (many_any c _ cap _ l _ (Kd.C_drewN HR1.out _) HC.out HB.out hcu (by omega))) | (go_at_call 19; with_reducible exact Calls.quiet_of (many_any c _ cap i (l.take i) _ (Kd.C_drewN (Hand.C_take HR1.out i hi) _) hic (byt_take HB.out i) hcu (by omega))) | (go_at_call 19; with_reducible exact Calls.quiet_of (many_any (many c (nb (List.take i l)) : Nat) _ (cap - i) (l.length - i) (l.drop i) _ (Kd.C_drewN (Hand.C_drop1 HR1.out i hi HC.out) _) hid (byt_drop HB.out i) hut.out (by omega))) | (go_at_call 20; with_reducible exact Calls.quiet_of (next_any c _ _ hcu hb0.out)) | (go_at_call 16; with_reducible exact Calls.quiet_of (ref_any c _ _ hcu hb0.out)))
        go_wp2
        all_goals
          go_ret
          exact ⟨rfl, pw_below_drewN HW.out _⟩
      · have hz1 : ((l.length : Int) == 0) = false := beq_eq_false_iff_ne.2 (by omega)
        have hz2 : (0 : Int) < (l.length : Int) := by omega
        have hb0 : Aside0 (0 ≤ rd l 0 ∧ rd l 0 ≤ 255) := Aside0.mk (byt_at HB.out 0 (by omega))
        obtain ⟨ad, rfl, hcell⟩ := Hand.C_head HR1.out (by omega)
        clear hz
        go_wp2_with fail
        go_quiet (first | (go_at_call 17; exact Calls.quiet_of (sum_any _ _ _ _ _ (Kd.C_drewN HR1.out _) HC.out HB.out (by omega))) | (go_at_call 18; exact Calls.quiet_of (refsum_any _ _ _ _ _ (Kd.C_drewN HR1.out _) HC.out HB.out (by omega))) | (go_at_call 19; with_reducible exact Calls.quiet_of (many_any c _ cap _ l _ (Kd.C_drewN HR1.out _) HC.out HB.out hcu (by omega))) | (go_at_call 19; with_reducible exact Calls.quiet_of (many_any c _ cap i (l.take i) _ (Kd.C_drewN (Hand.C_take HR1.out i hi) _) hic (byt_take HB.out i) hcu (by omega))) | (go_at_call 19; with_reducible exact Calls.quiet_of (many_any (many c (nb (List.take i l)) : Nat) _ (cap - i) (l.length - i) (l.drop i) _ (Kd.C_drewN (Hand.C_drop1s HR1.out i hi HC.out) _) hid (byt_drop HB.out i) hut.out (by omega))) | (go_at_call 20; with_reducible exact Calls.quiet_of (next_any c _ _ hcu hb0.out)) | (go_at_call 16; with_reducible exact Calls.quiet_of (ref_any c _ _ hcu hb0.out)))
        go_wp2
        all_goals
          go_ret
          exact ⟨rfl, pw_below_drewN HW.out _⟩

set_option maxHeartbeats 1000000 in
theorem law_out (A : Option Addr) (cap : Nat) (l : List Int) (c i : Int) (w : World) (hl : l.length ≤ 9223372036854775807) (hi : 2000 < l.length ∨ i < 0 ∨ (l.length : Int) < i) :
    Calls Try.prog 3 #[.slice A l.length cap, .int .u32 c, .int .i64 i] w fun e w' => e = .returned (.bool true) ∧ Below w.heap.size w w' := by
  by_cases d1 : 2000 < l.length
  · have e1 : decide ((2000 : Int) < (l.length : Int)) = true := decide_eq_true (by omega)
    clear hi
    go_enter Try.func3, Try.ntmps3
    go_wp2_with (first | (go_at_call 15; refine (awake_any _).mono ?_; rintro e w1 ⟨rfl, hbel⟩))
    go_ret
    exact ⟨rfl, hbel⟩
  · by_cases d2 : i < 0
    · have e1 : decide ((2000 : Int) < (l.length : Int)) = false := decide_eq_false (by omega)
      clear hi
      go_enter Try.func3, Try.ntmps3
      go_wp2_with (first | (go_at_call 15; refine (awake_any _).mono ?_; rintro e w1 ⟨rfl, hbel⟩))
      go_ret
      exact ⟨rfl, hbel⟩
    · have e1 : decide ((2000 : Int) < (l.length : Int)) = false := decide_eq_false (by omega)
      have e3 : (l.length : Int) < i := by omega
      clear hi
      go_enter Try.func3, Try.ntmps3
      go_wp2_with (first | (go_at_call 15; refine (awake_any _).mono ?_; rintro e w1 ⟨rfl, hbel⟩))
      go_ret
      exact ⟨rfl, hbel⟩

theorem byt_of {l : List Int} (h : ∀ n ∈ l, (Lit.int .u8 n).wf = true) : Byt l := fun x hx => Go.bounds_u8 (h x hx)

theorem sums (A : Option Addr) (cap : Nat) (l : List Int) (c i : Int) (w : World) (hr : Kd.C (Kd.int .u8) w A l.length l) (hc : l.length ≤ cap) (_ : l.length ≤ maxLen) (hw : ∀ n ∈ l, (Lit.int .u8 n).wf = true) (_ : l.length * 1 ≤ 140737488351232) (h1 : (Lit.int .u32 c).wf = true) (_ : (Lit.int .i64 i).wf = true) :
    Calls Try.prog 3 #[.slice A l.length cap, .int .u32 c, .int .i64 i] w fun e w' => e = .returned (.bool true) ∧ Below w.heap.size w w' := by
  by_cases hi : 2000 < l.length ∨ i < 0 ∨ (l.length : Int) < i
  · exact law_out A cap l c i w hr.2.1 hi
  · obtain ⟨c1, c2⟩ := Go.bounds_u32 h1
    obtain ⟨c, rfl⟩ := Int.eq_ofNat_of_zero_le c1
    obtain ⟨i, rfl⟩ := Int.eq_ofNat_of_zero_le (show 0 ≤ i by omega)
    exact law_in A cap l c i w hr hc (byt_of hw) (by omega) (by omega) (by omega)
end Go.Proofs.Ytkbialmlddhclaa.CrcWalk
