/- The document's device: its reading methods, walked. No condition. -/
import Derived.Test.YtkmanjfmffdcbaaFlPRow
namespace Go.Proofs.Ytkmanjfmffdcbaa.Fl
open Go.RowKit Go.Proofs.YtkmanjfmffdcbaaW.PrintWords Go.Proofs.YtkmanjfmffdcbaaW.PrintMore Go.Maps
set_option linter.unusedSimpArgs false
set_option linter.unusedVariables false
section
variable {N0 x : Nat} {s : Int × Int × Int} {ps : List Pg} {ok : Nat → Prop} {w : World}
theorem hasB_iff (s : Int × Int × Int) (a b : Int) : hasB s a b = true ↔ (0 ≤ a ∧ a < s.1 ∧ 0 ≤ b ∧ b < s.2.1) := by
  simp [hasB, fitsB]
  omega
set_option maxHeartbeats 1000000 in
set_option maxRecDepth 100000 in
theorem RHas_any (hX : RefIs N0 x s ps ok w) (a b : Int) : Calls Try.prog 65 #[.pointer (some ⟨x, 0, none⟩), .int .i64 a, .int .i64 b] w fun e w' => e = .returned (.bool (hasB s a b)) ∧ w = w' := by
  obtain ⟨_, _, v, hx, _⟩ := hX
  have c0 : w.cell? ⟨x, 0, none⟩ = some (.int .i64 s.1) := bcell hx 0
  have c1 : w.cell? ⟨x, 1, none⟩ = some (.int .i64 s.2.1) := bcell hx 1
  obtain ⟨r, hr⟩ : ∃ r, r = hasB s a b := ⟨_, rfl⟩
  have hi := hasB_iff s a b
  rw [← hr] at hi
  rw [← hr]
  have HI := Lib.hid hi
  clear hx hi hr
  by_cases h1 : 0 ≤ a
  · by_cases h2 : a < s.1
    · by_cases h3 : 0 ≤ b
      · by_cases h4 : b < s.2.1
        · go_enter Try.func65, Try.ntmps65
          go_wp2
          go_ret
          exact ⟨by rw [HI.out.2 ⟨h1, h2, h3, h4⟩]; first | rfl | (simp [h4]; done), rfl⟩
        · have hr : r = false := by cases hq : r with | false => rfl | true => exact absurd (HI.out.1 hq).2.2.2 h4
          have HR := Lib.hid hr
          clear hr
          go_enter Try.func65, Try.ntmps65
          go_wp2
          go_ret
          exact ⟨by rw [HR.out]; first | rfl | (simp [h4]; done), rfl⟩
      · have hr : r = false := by cases hq : r with | false => rfl | true => exact absurd (HI.out.1 hq).2.2.1 h3
        have HR := Lib.hid hr
        have e1 : decide (0 ≤ b) = false := by simpa using h3
        clear hr
        go_enter Try.func65, Try.ntmps65
        go_wp2
        go_ret
        exact ⟨by rw [HR.out]; rfl, rfl⟩
    · have hr : r = false := by cases hq : r with | false => rfl | true => exact absurd (HI.out.1 hq).2.1 h2
      have HR := Lib.hid hr
      have e1 : decide (a < s.1) = false := by simpa using h2
      clear hr
      go_enter Try.func65, Try.ntmps65
      go_wp2
      go_ret
      exact ⟨by rw [HR.out]; rfl, rfl⟩
  · have hr : r = false := by cases hq : r with | false => rfl | true => exact absurd (HI.out.1 hq).1 h1
    have HR := Lib.hid hr
    have e1 : decide (0 ≤ a) = false := by simpa using h1
    clear hr
    go_enter Try.func65, Try.ntmps65
    go_wp2
    go_ret
    exact ⟨by rw [HR.out]; rfl, rfl⟩
/-- Where a page stands. -/
def atB (a b : Int) (p : Pg) : Bool := decide (p.1.1 = a) && decide (p.1.2 = b)
def findI (a b : Int) (ps : List Pg) : Int := idxI (atB a b) ps
set_option maxHeartbeats 2000000 in
set_option maxRecDepth 100000 in
theorem RFind_any (hX : RefIs N0 x s ps ok w) (hl : ps.length < 1000000) (a b : Int) : Calls Try.prog 48 #[.pointer (some ⟨x, 0, none⟩), .int .i64 a, .int .i64 b] w fun e w' => e = .returned (.int .i64 (findI a b ps)) ∧ Below w.heap.size w w' := by
  obtain ⟨_, _, v, hx, hR⟩ := hX
  obtain ⟨A, c, rfl⟩ := Kd.R_slice hR
  obtain ⟨n, hn⟩ : ∃ n, n = ps.length := ⟨_, rfl⟩
  have k1 : w.cell? ⟨x, 3, none⟩ = some (.slice A n c) := by rw [hn]; exact bcell hx 3
  have HR1 : Hid (0 < n → ∃ g, A = some ⟨g, 0, none⟩ ∧ PRow w N0 ok g c ps) := Lib.hid (fun h => by
    obtain ⟨g, cap, e, _, _, hr⟩ := PRow.of_R hR (fun e => by
      injection e with _ h2 _
      omega)
    injection e with e1 e2 e3
    subst e3
    exact ⟨g, e1, hr⟩)
  have HN := Lib.hid hn
  rw [← hn] at hl
  clear hx hR hn
  go_enter Try.func48, Try.ntmps48
  go_wp2
  go_loopw [14] (fun v14 wr => ∃ k : Nat, k ≤ n ∧ v14 = .int .i64 (k : Int) ∧ Below w.heap.size w wr ∧ ∀ j p, j < k → ps[j]? = some p → atB a b p = false) (fun v14 _ => n - (intOf v14).toNat)
  case atStart => exact ⟨0, Nat.zero_le _, rfl, Below.refl _ _, fun j p hj => by omega⟩
  case round =>
    obtain ⟨k, hk, rfl, hb, hpre⟩ := hrel
    have HB := Aside0.mk hb
    have HPRE := Lib.hid hpre
    clear hb hpre
    by_cases hlt : k < n
    · obtain ⟨p, hp⟩ : ∃ p, ps[k]? = some p := ⟨_, List.getElem?_eq_getElem (by have := HN.out; omega)⟩
      obtain ⟨g, rfl, hrow⟩ := HR1.out (by omega)
      obtain ⟨A1, c1, hc⟩ := (hrow.below HB.out).cell hp
      have d0 := hc.c0; have d1 := hc.c1; have d2 := hc.c2; have d3 := hc.c3
      obtain ⟨⟨pa, pb⟩, pl, px⟩ := p
      simp only at d0 d1 d2 d3
      have HP := Lib.hid hp
      have k0 : (0 : Int) ≤ (k : Int) := by omega
      have k2 : (k : Int) < (n : Int) := by omega
      clear hc hp hrow
      have hfin : ∀ W', Below w.heap.size w W' → atB a b ((pa, pb), pl, px) = false → (∃ k_1 : Nat, k_1 ≤ n ∧ Value.int .i64 ((k : Int) + 1) = .int .i64 (k_1 : Int) ∧ Below w.heap.size w W' ∧ ∀ j p, j < k_1 → ps[j]? = some p → atB a b p = false) := fun W' hW h0 => ⟨k + 1, by omega, by go_num, hW, fun j p hj hpj => by
        rcases Nat.lt_or_ge j k with h2 | h2
        · exact HPRE.out j p h2 hpj
        · obtain rfl : j = k := by omega
          rw [HP.out] at hpj
          rw [← Option.some.inj hpj]
          exact h0⟩
      have HFIN := Lib.hid hfin
      clear hfin
      by_cases e1 : pa = a
      · by_cases e2 : pb = b
        · have q1 : (pa == a) = true := by simp [e1]
          have q2 : (pb == b) = true := by simp [e2]
          have HF := Lib.hid (show findI a b ps = (k : Int) by rw [findI, idxI, idxOf_some HP.out (by simp [atB, e1, e2]) HPRE.out])
          clear e1 e2
          go_wp2
          go_ret
          exact ⟨by rw [HF.out]; rfl, below_alloc HB.out _⟩
        · have q1 : (pa == a) = true := by simp [e1]
          have q2 : (pb == b) = false := by simp [e2]
          have HQ := Lib.hid (show atB a b ((pa, pb), pl, px) = false by simp [atB, e2])
          clear e1 e2
          go_wp2
          exact ⟨HFIN.out _ (below_alloc HB.out _) HQ.out, by simp [intOf]; omega⟩
      · have q1 : (pa == a) = false := by simp [e1]
        have HQ := Lib.hid (show atB a b ((pa, pb), pl, px) = false by simp [atB, e1])
        clear e1
        go_wp2
        exact ⟨HFIN.out _ (below_alloc HB.out _) HQ.out, by simp [intOf]; omega⟩
    · obtain rfl : k = n := by omega
      have hf : findI a b ps = -1 := by
        rw [findI, idxI, idxOf_none (fun p hp => ?_)]
        obtain ⟨j, hj, e⟩ := List.getElem_of_mem hp
        exact HPRE.out j p (by have := HN.out; omega) (by rw [← e, List.getElem?_eq_getElem hj])
      have HF := Lib.hid hf
      clear hf
      go_wp2
      go_ret
      exact ⟨by rw [HF.out]; rfl, HB.out⟩
end
end Go.Proofs.Ytkmanjfmffdcbaa.Fl
