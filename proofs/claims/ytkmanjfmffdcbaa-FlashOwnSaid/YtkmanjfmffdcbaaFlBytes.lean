/- Two rows of bytes told apart, walked. No condition. -/
import Derived.Test.YtkmanjfmffdcbaaFlRef5
namespace Go.Proofs.Ytkmanjfmffdcbaa.Fl
open Go.RowKit Go.Proofs.YtkmanjfmffdcbaaW.PrintWords Go.Proofs.YtkmanjfmffdcbaaW.PrintMore Go.Maps
set_option linter.unusedSimpArgs false
set_option linter.unusedVariables false
theorem take_eq_succ {l m : List Int} {k : Nat} {a b : Int} (ha : l[k]? = some a) (hb : m[k]? = some b) (h : l.take k = m.take k) (hab : a = b) : l.take (k + 1) = m.take (k + 1) := by
  rw [List.take_add_one, List.take_add_one, ha, hb, h, hab]
set_option maxHeartbeats 2000000 in
set_option maxRecDepth 100000 in
theorem Bytes_any {w : World} {A B : Option Addr} {c d : Nat} {l m : List Int} (hl : kB.C w A l.length l) (hm : kB.C w B m.length m) (h0 : l.length < 1000000) (h1 : m.length < 1000000) :
    Calls Try.prog 19 #[.slice A l.length c, .slice B m.length d] w fun e w' => e = .returned (.bool (decide (l = m))) ∧ Below w.heap.size w w' := by
  obtain ⟨n, hn⟩ : ∃ n, n = l.length := ⟨_, rfl⟩
  obtain ⟨n2, hn2⟩ : ∃ n, n = m.length := ⟨_, rfl⟩
  have HL := Aside0.mk hl
  have HM := Aside0.mk hm
  have HN := Lib.hid hn
  have HN2 := Lib.hid hn2
  rw [← hn] at h0
  rw [← hn2] at h1
  rw [← hn, ← hn2]
  clear hl hm hn hn2
  by_cases hne : n = n2
  · subst hne
    go_enter Try.func19, Try.ntmps19
    go_wp2
    go_loopw [5, 13] (fun v5 v13 wr => ∃ k : Nat, k ≤ n ∧ v13 = .int .i64 (k : Int) ∧ Below w.heap.size w wr ∧ l.take k = m.take k) (fun _ v13 _ => n - (intOf v13).toNat)
    case atStart => exact ⟨0, Nat.zero_le _, rfl, Below.refl _ _, rfl⟩
    case round =>
      obtain ⟨k, hk, rfl, hb, ht⟩ := hrel
      have HB := Aside0.mk hb
      clear hb
      have HT := Lib.hid ht
      clear ht
      by_cases hlt : k < n
      · obtain ⟨a, ha⟩ : ∃ a, l[k]? = some a := ⟨_, List.getElem?_eq_getElem (by have := HN.out; omega)⟩
        obtain ⟨b, hb⟩ : ∃ b, m[k]? = some b := ⟨_, List.getElem?_eq_getElem (by have := HN2.out; omega)⟩
        obtain ⟨ad, hA, hca⟩ := C_cells HL.out (by have := HN.out; omega)
        obtain ⟨bd, hB, hcb⟩ := C_cells HM.out (by have := HN2.out; omega)
        have ka0 := hca k (.int .u8 a) (by simp [ha])
        have ka : wr.cell? (ad.add k) = some (.int .u8 a) := (HB.out.cell (blt_of_cell ka0)).trans ka0
        have kb0 := hcb k (.int .u8 b) (by simp [hb])
        have kb : wr.cell? (bd.add k) = some (.int .u8 b) := (HB.out.cell (blt_of_cell kb0)).trans kb0
        clear ka0 kb0
        have HA := Lib.hid ha
        have HBB := Lib.hid hb
        have k0 : (0 : Int) ≤ (k : Int) := by omega
        have k2 : (k : Int) < (n : Int) := by omega
        subst hA hB
        clear ha hb hca hcb
        go_wp2_with fail
        go_region_held3 (fun w' => w'.cell? (ad.add k) = some (.int .u8 a) ∧ w'.cell? (bd.add k) = some (.int .u8 b)) (go_keep) (fail)
        by_cases hab : a = b
        · have e1 : (a != b) = false := by simp [hab]
          go_wp2
          exact ⟨⟨k + 1, by omega, by go_num, HB.out.drew, take_eq_succ HA.out HBB.out HT.out hab⟩, by simp [intOf]; omega⟩
        · have e1 : (a != b) = true := by simp [hab]
          go_wp2
          go_ret
          refine ⟨?_, HB.out.drew⟩
          rw [decide_eq_false]
          · rfl
          intro e
          have h1 := HA.out
          have h2 := HBB.out
          rw [e, h2] at h1
          exact hab (Option.some.inj h1).symm
      · obtain rfl : k = n := by omega
        go_wp2
        go_ret
        refine ⟨?_, HB.out⟩
        have h := HT.out
        rw [List.take_of_length_le (by have := HN.out; omega), List.take_of_length_le (by have := HN2.out; omega)] at h
        rw [decide_eq_true h]
        rfl
  · have e1 : ((n : Int) != (n2 : Int)) = true := by simp; omega
    have hlm : ¬ l = m := fun e => hne (by rw [HN.out, HN2.out, e])
    have HLM := Lib.hid hlm
    clear hlm hne
    go_enter Try.func19, Try.ntmps19
    go_wp2
    go_ret
    exact ⟨by rw [decide_eq_false HLM.out]; rfl, Below.refl _ _⟩
end Go.Proofs.Ytkmanjfmffdcbaa.Fl
