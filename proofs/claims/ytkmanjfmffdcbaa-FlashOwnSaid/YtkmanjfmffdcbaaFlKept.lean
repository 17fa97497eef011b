/- What a crash keeps. No program in sight, but for the copy's memory. -/
import Derived.Test.YtkmanjfmffdcbaaFlRow
import Derived.Test.YtkmanjfmffdcbaaFlRef6
namespace Go.Proofs.Ytkmanjfmffdcbaa.Fl
open Go.RowKit Go.Proofs.YtkmanjfmffdcbaaW.PrintWords Go.Proofs.YtkmanjfmffdcbaaW.PrintMore Go.Maps
set_option linter.unusedSimpArgs false
set_option linter.unusedVariables false
theorem mem_rcR_clean {n : Int} {P : PlanT} {q : Pg} (hq : q.2.2 = false) : ∀ {ps : List Pg} {i : Nat}, q ∈ ps → q ∈ rcR n P i ps
  | p :: ps, i, h => by
    rw [rcR]
    rcases List.mem_cons.1 h with rfl | h
    · rw [if_pos hq]; simp
    · split
      · exact List.mem_cons.2 (.inr (mem_rcR_clean hq h))
      · exact List.mem_append.2 (.inr (mem_rcR_clean hq h))
theorem mem_rwP {s : Int × Int × Int} {ps : List Pg} {a b : Int} {l : List Int} {q : Pg} (h : q ∈ ps) : q ∈ rwP s ps a b l := by
  unfold rwP
  split
  · exact List.mem_append.2 (.inl h)
  · exact h
theorem mem_syncP {ps : List Pg} {q : Pg} (h : q ∈ syncP ps) : q.2.2 = false := by
  simp only [syncP, List.mem_map] at h
  obtain ⟨p, _, rfl⟩ := h
  rfl
theorem got_of_mem {q : Pg} : ∀ {ps : List Pg}, Nd ps → q ∈ ps → got q.1 ps = some q.2.1
  | p :: ps, hd, h => by
    obtain ⟨h1, h2⟩ := List.pairwise_cons.1 hd
    rw [got_cons]
    rcases List.mem_cons.1 h with rfl | h
    · rw [if_pos rfl]
    · rw [if_neg (h1 q h), got_of_mem h2 h]
section
variable {K : Nat → Prop} {N0 p x : Nat} {D : PD} {s : Int × Int × Int} {ps : List Pg} {w : World}
theorem Sim.usedOf (h : Sim D s ps) {q : Pg} (hq : q ∈ ps) : usedB D q.1.1 q.1.2 = true := by
  unfold usedB
  rw [h.lk, show (q.1.1, q.1.2) = q.1 from rfl, got_of_mem h.nd hq, h.sh, h.has q hq]
  rfl
theorem Sim.readOf (h : Sim D s ps) {q : Pg} (hq : q ∈ ps) : readD D q.1.1 q.1.2 = q.2.1 := by
  unfold readD numB
  rw [h.lk, show (q.1.1, q.1.2) = q.1 from rfl, got_of_mem h.nd hq, h.sh]
  exact full_self (h.len q hq)
theorem Ents.low {N1 : Nat} {ok : Nat → Prop} (hn : N1 ≤ N0) : ∀ {es : List MapEntry} {qs : List (Adr × List Int)}, Ents N0 ok w es qs → Ents N1 ok w es qs
  | [], [], _ => trivial
  | _ :: _, _ :: _, ⟨h1, h2⟩ => ⟨⟨h1.1, h1.2.1, h1.2.2.lower hn⟩, Ents.low hn h2⟩
  | [], _ :: _, h => h.elim
  | _ :: _, [], h => h.elim
theorem DevIs.low {N1 : Nat} {ok : Nat → Prop} (h : DevIs N0 p D ok w) (hn : N1 ≤ N0) : DevIs N1 p D ok w := by
  obtain ⟨m, v, es, ck, h⟩ := h
  exact ⟨m, v, es, ck, Nat.le_trans hn h.base, h.okp, h.blk, h.okm, Nat.le_trans hn h.basem, h.map, Ents.low hn h.ents, Kd.R_lower h.dirty hn, h.shape, h.inr, h.nodup, h.lens⟩
theorem RefIs.low {N1 : Nat} {ok : Nat → Prop} (h : RefIs N0 x s ps ok w) (hn : N1 ≤ N0) : RefIs N1 x s ps ok w := by
  obtain ⟨h1, h2, v, h3, h4⟩ := h
  exact ⟨Nat.le_trans hn h1, h2, v, h3, Kd.R_lower h4 hn⟩
theorem Two.low {N1 : Nat} (h : Two K N0 p x D s ps w) (hn : N1 ≤ N0) : Two K N1 p x D s ps w := by
  obtain ⟨okD, okX, hD, hX, hd, h1, h2, h0, hK⟩ := h
  exact ⟨okD, okX, hD.low hn, hX.low hn, hd, fun k h => Nat.le_trans hn (h1 k h), fun k h => Nat.le_trans hn (h2 k h), Nat.le_trans hn h0, hK⟩
theorem Two.rcopy (h : Two K N0 p x D s ps w) (hl : ps.length < 1000000) : Calls Try.prog 33 #[.pointer (some ⟨x, 0, none⟩)] w fun e w' => ∃ x' KC, e = .returned (.pointer (some ⟨x', 0, none⟩)) ∧ RefIs N0 x' s ps KC w' ∧ Two (fun k => K k ∨ KC k) N0 p x D s ps w' ∧ Below w.heap.size w w' := by
  obtain ⟨okD, okX, hD, hX, hd, h1, h2, h0, hK⟩ := h
  refine (RCopy_any hX.bound hl).mono fun e w' ⟨x', he, hx', hR, hb⟩ => ⟨x', _, he, hR.bound, ⟨_, _, hD.bound.below hb, hX.bound.below hb, fun k h1 h2 => hd k h1.1 h2.1, fun k h => h1 k h.1, fun k h => h2 k h.1, Nat.le_trans h0 hb.size, fun k hk => ?_⟩, hb⟩
  rcases hk with hk | hk
  · exact ⟨Nat.lt_of_lt_of_le (hK k hk).1 hb.size, (hK k hk).2.imp (fun h2 => ⟨fun h => h2.1 h.1, fun h => h2.2 h.1⟩) (fun ⟨cs, fr, e⟩ => ⟨cs, fr, (hb.block k (hK k hk).1).trans e⟩)⟩
  · refine ⟨hk.2.2, ?_⟩
    rcases hk.1 with h | ⟨h, cs, fr, e⟩
    · exact .inl ⟨fun h3 => by have := h3.2.2; omega, fun h3 => by have := h3.2.2; omega⟩
    · exact .inr ⟨cs, fr, (hb.block k (blt e)).trans e⟩
end
end Go.Proofs.Ytkmanjfmffdcbaa.Fl
