-- Written by myprint.py, a program of this session (in its repo under wip/tools), out of the loaded functions; Lean checks it.
import Derived.Test.YtkbialmlddhclaaQCodecx0
import Derived.Test.YtkbialmlddhclaaQCodecx8
namespace Go.Proofs.Ytkbialmlddhclaa.QCodec
open Go.RowKit Go.Proofs.YtkbialmlddhclaaW.PrintWords Go.Proofs.YtkbialmlddhclaaW.PrintLast Go.Proofs.YtkbialmlddhclaaW.PrintMore
attribute [local go_sem] max2_int min2_int max_two min_two max_three min_three max_four min_four   -- for this text's walks alone
set_option linter.unusedVariables false
set_option linter.unusedSimpArgs false

/-! ### codec_reader_number: function 81 -/
/-- A reader in memory: what it holds lies in the memory that was there at the begin. -/
structure Rdr (w0 w : World) (g : Nat) (A : Option Addr) (c : Nat) (l : List Int) (b : Bool) : Prop where
  c0 : w.cell? ⟨g, 0, none⟩ = some (.slice A l.length c)
  c1 : w.cell? ⟨g, 1, none⟩ = some (.bool b)
  f0 : w.frozen? ⟨g, 0, none⟩ = false
  f1 : w.frozen? ⟨g, 1, none⟩ = false
  ge : w0.heap.size ≤ g
  bel : Below w0.heap.size w0 w
  rd : Kd.C (Kd.int .u8) w0 A l.length l
  cap : l.length ≤ c
theorem Rdr.next {w0 w : World} {g : Nat} {A B : Option Addr} {c : Nat} {l : List Int} {b : Bool} (h : Rdr w0 w g A c l b) (n : Nat) (hn : n ≤ l.length) (m : Nat) (c' : Nat) (hc : l.length - n ≤ c') (hB : Kd.C (Kd.int .u8) w0 B (l.length - n) (l.drop n)) :
    Rdr w0 ((w.drewN m).setCell ⟨g, 0, none⟩ (.slice B (l.length - n) c')) g B c' (l.drop n) b where
  c0 := by rw [List.length_drop]; exact World.cell?_setCell_same (w.drewN m) _ _ h.c0
  c1 := (World.cell?_setCell_other _ _ _ _ (by simp)).trans h.c1
  f0 := (World.frozen?_setCell _ _ _ _).trans h.f0
  f1 := (World.frozen?_setCell _ _ _ _).trans h.f1
  ge := h.ge
  bel := (pw_below_drewN h.bel m).setCell h.ge _
  rd := by rw [List.length_drop]; exact hB
  cap := by rw [List.length_drop]; exact hc
theorem Rdr.fail {w0 w : World} {g : Nat} {A : Option Addr} {c : Nat} {l : List Int} {b : Bool} (h : Rdr w0 w g A c l b) (m : Nat) :
    Rdr w0 ((w.drewN m).setCell ⟨g, 1, none⟩ (.bool false)) g A c l false where
  c0 := (World.cell?_setCell_other _ _ _ _ (by simp)).trans h.c0
  c1 := World.cell?_setCell_same (w.drewN m) _ _ h.c1
  f0 := (World.frozen?_setCell _ _ _ _).trans h.f0
  f1 := (World.frozen?_setCell _ _ _ _).trans h.f1
  ge := h.ge
  bel := (pw_below_drewN h.bel m).setCell h.ge _
  rd := h.rd
  cap := h.cap
/-- What a call on a reader leaves. -/
def RdrPost (w0 w : World) (g : Nat) (v : Int) (l : List Int) (b : Bool) (e : Ending) (w' : World) : Prop :=
  ∃ A' c', e = .returned (.int .i64 v) ∧ Rdr w0 w' g A' c' l b ∧ w.heap.size = w'.heap.size ∧ ∀ k, k ≠ g → w'.heap[k]? = w.heap[k]?
set_option maxHeartbeats 1000000 in
set_option maxRecDepth 100000 in
theorem number_yes (w0 : World) (g : Nat) (A : Option Addr) (c : Nat) (l : List Int) (b : Bool) (n : Nat) (w : World) (h : Rdr w0 w g A c l b) (hn : n ≤ l.length) (h8 : n ≤ 8) :
    Calls Try.prog 81 #[.pointer (some ⟨g, 0, none⟩), .int .i64 (n : Int)] w (RdrPost w0 w g (wrap64 (beOr (l.take n) 0)) (l.drop n) b) := by
  have H := Aside0.mk h
  have HG : Aside0 (nums_Get.f l 0 (n : Int) = some (beOr (l.take n) 0, true)) := ⟨by unfold nums_Get.f; rw [if_pos (by omega)]; simp⟩
  have hc0 := h.c0
  have hc1 := h.c1
  have hf0 := h.f0
  have hf1 := h.f1
  have hcap := h.cap
  have hm := h.rd.2.1
  have b1 : (n : Int) ≤ (l.length : Int) := by omega
  have b2 : (n : Int) ≤ (c : Int) := by omega
  clear h
  go_enter Try.func81, Try.ntmps81
  go_wp2_with (first | (go_at_call 100; refine (nums_Get.calls A c l 0 n _ true _ (Kd.C_below H.out.rd H.out.bel) H.out.cap HG.out).mono ?_; rintro e w1 ⟨rfl, ⟨m, rfl⟩⟩))
  · go_ret
    refine ⟨_, _, rfl, H.out.next n hn m _ (by have := H.out.cap; omega) ?_, (World.size_setCell _ _ _).symm, fun k hk => Below.heap_setCell _ _ _ k hk⟩
    have := Hand.C_drop1 H.out.rd n hn H.out.cap
    have hcn : c = n := by assumption
    rw [if_pos hcn] at this
    exact this
  · have hne : ¬ c = n := by assumption
    go_ret
    refine ⟨_, _, rfl, H.out.next n hn m _ (by have := H.out.cap; omega) ?_, (World.size_setCell _ _ _).symm, fun k hk => Below.heap_setCell _ _ _ k hk⟩
    have := Hand.C_drop1 H.out.rd n hn H.out.cap
    simpa [hne] using this
set_option maxHeartbeats 1000000 in
set_option maxRecDepth 100000 in
theorem number_no (w0 : World) (g : Nat) (A : Option Addr) (c : Nat) (l : List Int) (b : Bool) (n : Nat) (w : World) (h : Rdr w0 w g A c l b) (hn : l.length < n) :
    Calls Try.prog 81 #[.pointer (some ⟨g, 0, none⟩), .int .i64 (n : Int)] w (RdrPost w0 w g 0 l false) := by
  have H := Aside0.mk h
  have HG : Aside0 (nums_Get.f l 0 (n : Int) = some (0, false)) := ⟨by unfold nums_Get.f; rw [if_neg (by omega)]⟩
  have hc0 := h.c0
  have hc1 := h.c1
  have hf0 := h.f0
  have hf1 := h.f1
  clear h
  go_enter Try.func81, Try.ntmps81
  go_wp2_with (first | (go_at_call 100; refine (nums_Get.calls A c l 0 n _ false _ (Kd.C_below H.out.rd H.out.bel) H.out.cap HG.out).mono ?_; rintro e w1 ⟨rfl, ⟨m, rfl⟩⟩))
  all_goals
    go_ret
    exact ⟨A, c, rfl, H.out.fail m, (World.size_setCell _ _ _).symm, fun k hk => Below.heap_setCell _ _ _ k hk⟩
/-- What a reader tells, and goes on with. -/
def took (s : List Int × Bool) (n : Nat) : Int × List Int × Bool := if n ≤ s.1.length then (wrap64 (beOr (s.1.take n) 0), s.1.drop n, s.2) else (0, s.1, false)
theorem number_any (w0 : World) (g : Nat) (A : Option Addr) (c : Nat) (l : List Int) (b : Bool) (n : Nat) (w : World) (h : Rdr w0 w g A c l b) (h8 : n ≤ 8) :
    Calls Try.prog 81 #[.pointer (some ⟨g, 0, none⟩), .int .i64 (n : Int)] w (RdrPost w0 w g (took (l, b) n).1 (took (l, b) n).2.1 (took (l, b) n).2.2) := by
  unfold took
  by_cases hn : n ≤ l.length
  · rw [if_pos hn]
    exact number_yes w0 g A c l b n w h hn h8
  · rw [if_neg hn]
    exact number_no w0 g A c l b n w h (by omega)
theorem number_t (w0 : World) (g : Nat) (A : Option Addr) (c : Nat) (l : List Int) (b : Bool) (n : Nat) (v : Int) (l' : List Int) (b' : Bool) (ht : took (l, b) n = (v, l', b')) (w : World) (h : Rdr w0 w g A c l b) (h8 : n ≤ 8) :
    Calls Try.prog 81 #[.pointer (some ⟨g, 0, none⟩), .int .i64 (n : Int)] w (RdrPost w0 w g v l' b') := by
  have := number_any w0 g A c l b n w h h8
  rw [ht] at this
  exact this


end Go.Proofs.Ytkbialmlddhclaa.QCodec
