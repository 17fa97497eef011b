/- Few: walked. No condition. -/
import Derived.Test.YtkmanjfmffdcbaaFlTwo
namespace Go.Proofs.Ytkmanjfmffdcbaa.Fl
open Go.RowKit Go.Proofs.YtkmanjfmffdcbaaW.PrintWords Go.Proofs.YtkmanjfmffdcbaaW.PrintMore Go.Maps
set_option linter.unusedSimpArgs false
set_option linter.unusedVariables false
def fewB (ds : List DeedT) : Bool := ds.all (fun d => decide (d.l.length ≤ 300)) && decide (ds.length ≤ 60)
theorem all_take_succ {q : DeedT → Bool} {ds : List DeedT} {k : Nat} {d : DeedT} (h : ds[k]? = some d) : (ds.take (k + 1)).all q = ((ds.take k).all q && q d) := by
  rw [List.take_add_one, h, List.all_append]
  simp
set_option maxHeartbeats 2000000 in
set_option maxRecDepth 100000 in
theorem Few_any {w : World} {A : Option Addr} {c : Nat} {ds : List DeedT} (hr : DRow w A ds) (h0 : ds.length ≤ 9223372036854775807) :
    Calls Try.prog 25 #[.slice A ds.length c] w fun e w' => e = .returned (.bool (fewB ds)) ∧ Below w.heap.size w w' := by
  obtain ⟨n, hn⟩ : ∃ n, n = ds.length := ⟨_, rfl⟩
  have HR := Lib.hid hr
  have HN := Lib.hid hn
  rw [← hn] at h0
  rw [← hn]
  clear hr hn
  go_enter Try.func25, Try.ntmps25
  go_wp2
  go_loopw [4, 7] (fun v4 v7 wr => ∃ k : Nat, k ≤ n ∧ v7 = .int .i64 (k : Int) ∧ Below w.heap.size w wr ∧ (ds.take k).all (fun d => decide (d.l.length ≤ 300)) = true) (fun _ v7 _ => n - (intOf v7).toNat)
  case atStart => exact ⟨0, Nat.zero_le _, rfl, Below.refl _ _, rfl⟩
  case round =>
    obtain ⟨k, hk, rfl, hb, ht⟩ := hrel
    have HB := Aside0.mk hb
    have HT := Lib.hid ht
    clear hb ht
    by_cases hlt : k < n
    · obtain ⟨d, hd⟩ : ∃ d, ds[k]? = some d := ⟨_, List.getElem?_eq_getElem (by have := HN.out; omega)⟩
      obtain ⟨ad, A1, c1, hA, hc⟩ := HR.out k d hd
      have hc := hc.below HB.out
      subst hA
      have d0 := hc.c0; have d1 := hc.c1; have d2 := hc.c2; have d3 := hc.c3; have d4 := hc.c4; have d5 := hc.c5; have d6 := hc.c6
      have HD := Lib.hid hd
      have k0 : (0 : Int) ≤ (k : Int) := by omega
      have k2 : (k : Int) < (n : Int) := by omega
      clear hd hc
      obtain ⟨dop, da, db, dl, ⟨p0, p1, p2⟩⟩ := d
      simp only at d0 d1 d2 d3 d4 d5 d6
      by_cases hg : dl.length ≤ 300
      · have e1 : decide (300 < (dl.length : Int)) = false := by simp; omega
        go_wp2
        refine ⟨⟨k + 1, by omega, by go_num, below_alloc HB.out _, ?_⟩, by simp [intOf]; omega⟩
        rw [all_take_succ HD.out, HT.out]
        simpa using hg
      · have e1 : decide (300 < (dl.length : Int)) = true := by simp; omega
        go_wp2
        go_ret
        refine ⟨?_, below_alloc HB.out _⟩
        have : fewB ds = false := by
          unfold fewB
          rw [List.all_eq_false.2 ⟨_, List.mem_of_getElem? HD.out, by simpa using hg⟩]
          rfl
        rw [this]
        rfl
    · obtain rfl : k = n := by omega
      have ha : fewB ds = decide ((k : Int) ≤ 60) := by
        have h := HT.out
        rw [List.take_of_length_le (by have := HN.out; omega)] at h
        unfold fewB
        rw [h, ← HN.out]
        simp only [Bool.true_and, decide_eq_decide]
        omega
      have HA := Lib.hid ha
      clear ha
      go_wp2
      go_ret
      exact ⟨by rw [HA.out]; rfl, HB.out⟩
end Go.Proofs.Ytkmanjfmffdcbaa.Fl
