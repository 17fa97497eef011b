/- spenceref01.Ints of a list and itself: walked; what stores leave. -/
import Derived.Test.YtkbialmlddhclaaCkDoP
namespace Go.Proofs.Ytkbialmlddhclaa.Ck
open Go.RowKit Go.Proofs.YtkbialmlddhclaaW.PrintWords Go.Proofs.YtkbialmlddhclaaW.PrintMore
set_option linter.unusedSimpArgs false
set_option linter.unusedVariables false
section
variable {w : World} {A B : Option Addr} {c d : Nat} {l : List Int}
set_option maxHeartbeats 2000000 in
set_option maxRecDepth 100000 in
theorem Ints_same (h : kI.C w A l.length l) (h2 : kI.C w B l.length l) : Calls Try.prog 52 #[.slice A l.length c, .slice B l.length d] w fun e w' => e = .returned (.bool true) ∧ Below w.heap.size w w' := by
  obtain ⟨n, hn⟩ : ∃ n, n = l.length := ⟨_, rfl⟩
  have hmax := Kd.C_max h
  have HC := Lib.hid (fun (X : World) (hX : Below w.heap.size w X) (i : Nat) (x : Int) (hx : l[i]? = some x) => kI_cell (Kd.C_below h hX) hx)
  have HC2 := Lib.hid (fun (X : World) (hX : Below w.heap.size w X) (i : Nat) (x : Int) (hx : l[i]? = some x) => kI_cell (Kd.C_below h2 hX) hx)
  have HN := Lib.hid hn
  rw [← hn] at hmax
  rw [← hn]
  clear h h2 hn
  go_enter Try.func52, Try.ntmps52
  go_wp2
  go_loopw [13] (fun v13 wr => ∃ k : Nat, k ≤ n ∧ v13 = .int .i64 (k : Int) ∧ Below w.heap.size w wr) (fun v13 _ => n - (intOf v13).toNat)
  case atStart => exact ⟨0, Nat.zero_le _, rfl, Below.refl _ _⟩
  case round =>
    obtain ⟨k, hk, rfl, hb⟩ := hrel
    have HB := Aside0.mk hb
    clear hb
    by_cases hlt : k < n
    · obtain ⟨x, hx⟩ : ∃ x, l[k]? = some x := ⟨_, List.getElem?_eq_getElem (by have := HN.out; omega)⟩
      obtain ⟨ad, rfl, kc⟩ := HC.out wr HB.out k x hx
      obtain ⟨ad2, rfl, kc2⟩ := HC2.out wr HB.out k x hx
      have k0 : (0 : Int) ≤ (k : Int) := by omega
      have k1 : (k : Int) < (n : Int) := by omega
      have e1 : (x != x) = false := by simp
      clear hx
      go_wp2
      go_region_held3 (fun w' => w'.cell? (ad.add k) = some (.int .i64 x) ∧ w'.cell? (ad2.add k) = some (.int .i64 x)) (go_keep) (fail)
      go_wp2
      exact ⟨⟨k + 1, by omega, by go_num, HB.out.drew⟩, by simp [intOf]; omega⟩
    · obtain rfl : k = n := by omega
      go_wp2
      go_ret
      exact ⟨rfl, HB.out⟩
end
section
variable {X Y : World} {b : Nat} {T : TypeId} {old : Array Value}
theorem row_upd {v : Value} {l : List Int} (h : RowV X v l) (hold : X.heap[b]? = some (.cells old T (0, 0))) (hT : T ≠ TI) (hu : Upd (fun k => k = b) X Y) : RowV Y v l :=
  h.typed (fun k cs fr hk => hu.block k (blt hk) (fun e => by
    rw [e, hold] at hk
    injection hk with hk
    injection hk with _ hk _
    exact hT hk))
theorem SRow.upd {base : Nat} {v : Value} {x : List Sit} (h : SRow X base v x) (hold : X.heap[b]? = some (.cells old T (0, 0))) (hT : T ≠ TS) (hu : Upd (fun k => k = b) X Y) : SRow Y base v x :=
  h.step (fun k cs _ hk => hu.block k (blt hk) (fun e => by
    rw [e, hold] at hk
    injection hk with hk
    injection hk with _ hk _
    exact hT hk))
theorem VarR.upd {b' : Nat} {r : RG} (h : VarR X b' r) (hold : X.heap[b]? = some (.cells old T (0, 0))) (hT : T ≠ TI) (hT2 : T ≠ TR) (hu : Upd (fun k => k = b) X Y) : VarR Y b' r := by
  obtain ⟨v, h1, h2, h3⟩ := h
  refine ⟨v, (hu.block _ (blt h1) (fun e => ?_)).trans h1, row_upd h2 hold hT hu, h3⟩
  rw [e, hold] at h1
  injection h1 with h1
  injection h1 with _ h1 _
  exact hT2 h1
/-- A mark is set in a row of one's own. -/
theorem SRow.mark {base g c i : Nat} {x : List Sit} {s : Sit} (h : SRow X base (.slice (some ⟨g, 0, none⟩) x.length c) x) (hs : x[i]? = some s) (m : Bool) : SRow (X.setCell ⟨g, i * 2 + 1, none⟩ (.bool m)) base (.slice (some ⟨g, 0, none⟩) x.length c) (x.set i (s.1, m)) := by
  have hl := (List.getElem?_eq_some_iff.1 hs).1
  rcases h.2 with ⟨h1, h2⟩ | ⟨g', cap, cur, hv, hb, hg, hle, hmx, hsz, ht⟩
  · omega
  · injection hv with e1 e2 e3
    injection e1 with e1
    injection e1 with e1 _ _
    subst e1 e3
    refine ⟨by rw [flatS_length], .inr ⟨g, c, _, by rw [List.length_set], hb, bset hg _ _, by rw [List.length_set]; exact hle, hmx, by simpa using hsz, ?_⟩⟩
    rw [List.length_set, ← flatS_set x i s m hs, ← ht, Array.toList_setIfInBounds, List.take_set]
theorem SRow.blk {base g c : Nat} {x : List Sit} (h : SRow X base (.slice (some ⟨g, 0, none⟩) x.length c) x) (h0 : 0 < x.length) : ∃ cur, X.heap[g]? = some (.cells cur TS (0, 0)) ∧ base ≤ g := by
  obtain ⟨A, c', hv, _, _, hc⟩ := h.cels
  injection hv with e1 e2 e3
  obtain ⟨g', cur, hA, hb, hg, _⟩ := hc h0
  rw [← e1] at hA
  injection hA with hA
  injection hA with hA _ _
  subst hA
  exact ⟨cur, hg, hb⟩
end
end Go.Proofs.Ytkbialmlddhclaa.Ck
