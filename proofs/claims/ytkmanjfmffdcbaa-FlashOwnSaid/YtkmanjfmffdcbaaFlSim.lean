/- The driver's device and the document's: what they have in common, and that each deed keeps it. No program in sight. -/
import Derived.Test.YtkmanjfmffdcbaaFlBytes
namespace Go.Proofs.Ytkmanjfmffdcbaa.Fl
open Go.RowKit Go.Proofs.YtkmanjfmffdcbaaW.PrintWords Go.Proofs.YtkmanjfmffdcbaaW.PrintMore Go.Maps
set_option linter.unusedSimpArgs false
set_option linter.unusedVariables false
theorem and_one (x : Nat) (h : x < 18446744073709551616) : Go.bits .and .u64 (x : Int) 1 = ((x % 2 : Nat) : Int) := by
  have h2 := bits_and_u64_nat x 1 h (by omega)
  rw [Nat.and_one_is_mod] at h2
  exact h2
def crF (n : Int) (P : PlanT) : Nat → List Adr → List (Adr × List Int) → List (Adr × List Int)
  | _, [], mp => mp
  | i, a :: d, mp => crF n P (i + 1) d (stepC n P i a mp)
theorem crF_snoc (n : Int) (P : PlanT) (a : Adr) : ∀ (d : List Adr) (i : Nat) (mp : List (Adr × List Int)), crF n P i (d ++ [a]) mp = stepC n P (i + d.length) a (crF n P i d mp)
  | [], _, _ => rfl
  | b :: d, i, mp => by
    show crF n P (i + 1) (d ++ [a]) (stepC n P i b mp) = _
    rw [crF_snoc n P a d (i + 1)]
    show _ = stepC n P (i + (d.length + 1)) a (crF n P (i + 1) d (stepC n P i b mp))
    rw [show i + 1 + d.length = i + (d.length + 1) by omega]
theorem crashTo_crF (n : Int) (P : PlanT) (d : List Adr) (mp : List (Adr × List Int)) : ∀ k, k ≤ d.length → crashTo n P d mp k = crF n P 0 (d.take k) mp
  | 0, _ => by simp [crashTo, crF]
  | k + 1, h => by
    have hk : d[k]? = some d[k] := List.getElem?_eq_getElem (by omega)
    rw [crashTo_succ hk, List.take_add_one, hk, crashTo_crF n P d mp k (by omega)]
    show _ = crF n P 0 (d.take k ++ [d[k]]) mp
    rw [crF_snoc, List.length_take, Nat.min_eq_left (by omega), Nat.zero_add]
theorem crashTo_all (n : Int) (P : PlanT) (d : List Adr) (mp : List (Adr × List Int)) : crashTo n P d mp d.length = crF n P 0 d mp := by
  rw [crashTo_crF n P d mp _ (Nat.le_refl _), List.take_of_length_le (Nat.le_refl _)]
def keepO (n : Int) (P : PlanT) (i : Nat) (l : List Int) : Option (List Int) :=
  if (i : Int) = P.torn ∧ 0 < cutV n P then some (fullT n.toNat (l.take (cutV n P).toNat)) else if keepB P i then some l else none
def rcR (n : Int) (P : PlanT) : Nat → List Pg → List Pg
  | _, [] => []
  | i, p :: ps => if p.2.2 = false then p :: rcR n P i ps else ((keepO n P i p.2.1).map (fun l => (p.1, l, false))).toList ++ rcR n P (i + 1) ps
theorem keepB_torn {P : PlanT} {i : Nat} (h : (i : Int) = P.torn) : keepB P i = false := by simp [keepB, h]
theorem rcTo_rcR (n : Int) (P : PlanT) : ∀ (ps acc : List Pg) (i : Nat), (ps.foldl (rcStep n P) (acc, i)).1 = acc ++ rcR n P i ps
  | [], acc, i => by simp [rcR]
  | p :: ps, acc, i => by
    rw [List.foldl_cons]
    by_cases h : p.2.2 = false
    · have e : rcStep n P (acc, i) p = (acc ++ [p], i) := by rw [rcStep, if_pos h]
      rw [e, rcTo_rcR n P ps]
      simp [rcR, h]
    · have e : rcStep n P (acc, i) p = (acc ++ ((keepO n P i p.2.1).map (fun l => (p.1, l, false))).toList, i + 1) := by
        rw [rcStep, if_neg h]
        by_cases h1 : (i : Int) = P.torn ∧ 0 < cutV n P
        · simp only [keepO, if_pos h1, keepB_torn h1.1]
          simp
        · simp only [keepO, if_neg h1]
          cases keepB P i <;> simp
      rw [e, rcTo_rcR n P ps, rcR, if_neg h, List.append_assoc]
theorem rcTo_eq (n : Int) (P : PlanT) (ps : List Pg) : (rcTo n P ps).1 = rcR n P 0 ps := by
  rw [rcTo, rcTo_rcR]
  rfl
def atA (c : Adr) (p : Pg) : Bool := decide (p.1 = c)
theorem atB_eq (a b : Int) : atB a b = atA (a, b) := by
  funext p
  obtain ⟨⟨x, y⟩, l, d⟩ := p
  simp [atB, atA]
def got (c : Adr) (ps : List Pg) : Option (List Int) := (ps.find? (atA c)).map (·.2.1)
theorem got_cons (c : Adr) (p : Pg) (ps : List Pg) : got c (p :: ps) = if p.1 = c then some p.2.1 else got c ps := by
  unfold got atA
  by_cases h : p.1 = c <;> simp [h]
theorem got_append (c : Adr) : ∀ (ps qs : List Pg), got c (ps ++ qs) = (got c ps).or (got c qs)
  | [], qs => by simp [got]
  | p :: ps, qs => by
    rw [List.cons_append, got_cons, got_cons, got_append c ps qs]
    by_cases h : p.1 = c <;> simp [h]
theorem got_none {c : Adr} {ps : List Pg} (h : ∀ p ∈ ps, p.1 ≠ c) : got c ps = none := by
  unfold got
  rw [List.find?_eq_none.2 (fun p hp => by simp [atA, h p hp])]
  rfl
theorem got_mem {c : Adr} : ∀ {ps : List Pg} {l : List Int}, got c ps = some l → ∃ p ∈ ps, p.1 = c ∧ p.2.1 = l
  | [], _, h => by simp [got] at h
  | p :: ps, l, h => by
    rw [got_cons] at h
    by_cases hp : p.1 = c
    · rw [if_pos hp] at h
      exact ⟨p, by simp, hp, Option.some.inj h⟩
    · rw [if_neg hp] at h
      obtain ⟨q, h1, h2⟩ := got_mem h
      exact ⟨q, by simp [h1], h2⟩
theorem mem_rcR {n : Int} {P : PlanT} {q : Pg} : ∀ {ps : List Pg} {i : Nat}, q ∈ rcR n P i ps → q.2.2 = false ∧ ∃ p ∈ ps, q.1 = p.1 ∧ (p.2.1.length = n.toNat → q.2.1.length = n.toNat)
  | [], _, h => by simp [rcR] at h
  | p :: ps, i, h => by
    rw [rcR] at h
    by_cases hd : p.2.2 = false
    · rw [if_pos hd, List.mem_cons] at h
      rcases h with rfl | h
      · exact ⟨hd, q, by simp, rfl, id⟩
      · obtain ⟨h1, p', h2, h3⟩ := mem_rcR h
        exact ⟨h1, p', by simp [h2], h3⟩
    · rw [if_neg hd, List.mem_append] at h
      rcases h with h | h
      · cases hk : keepO n P i p.2.1 with
        | none => rw [hk] at h; simp at h
        | some l =>
          rw [hk] at h
          simp at h
          subst h
          refine ⟨rfl, p, by simp, rfl, fun hl => ?_⟩
          unfold keepO at hk
          split at hk
          · rw [← Option.some.inj hk]; exact fullT_length _ _
          · split at hk
            · rw [← Option.some.inj hk]; exact hl
            · cases hk
      · obtain ⟨h1, p', h2, h3⟩ := mem_rcR h
        exact ⟨h1, p', by simp [h2], h3⟩
abbrev Nd (ps : List Pg) : Prop := ps.Pairwise (fun p q => p.1 ≠ q.1)
theorem nd_rcR {n : Int} {P : PlanT} : ∀ {ps : List Pg} {i : Nat}, Nd ps → Nd (rcR n P i ps)
  | [], _, _ => by simp [rcR, Nd]
  | p :: ps, i, h => by
    obtain ⟨h1, h2⟩ := List.pairwise_cons.1 h
    have hm : ∀ {j : Nat} {q : Pg}, q ∈ rcR n P j ps → p.1 ≠ q.1 := fun hq => by
      obtain ⟨_, p', h3, h4, _⟩ := mem_rcR hq
      rw [h4]
      exact h1 p' h3
    rw [rcR]
    split
    · exact List.pairwise_cons.2 ⟨fun q hq => hm hq, nd_rcR h2⟩
    · cases keepO n P i p.2.1 with
      | none => simpa using nd_rcR h2
      | some l => exact List.pairwise_cons.2 ⟨fun q hq => hm hq, nd_rcR h2⟩
theorem rcR_len {n : Int} {P : PlanT} : ∀ {ps : List Pg} {i : Nat}, (rcR n P i ps).length ≤ ps.length
  | [], _ => by simp [rcR]
  | p :: ps, i => by
    rw [rcR]
    split
    · have := rcR_len (n := n) (P := P) (ps := ps) (i := i); simp; omega
    · have := rcR_len (n := n) (P := P) (ps := ps) (i := i + 1)
      cases keepO n P i p.2.1 <;> simp <;> omega
structure PlanOk (P : PlanT) : Prop where
  k0 : 0 ≤ P.keep
  k1 : P.keep < 18446744073709551616
theorem bitB_iff {P : PlanT} (h : PlanOk P) (i : Nat) : bitB P.keep i = decide (P.keep / 2 ^ i % 2 = 0) := by
  obtain ⟨k, hk⟩ := Int.eq_ofNat_of_zero_le h.k0
  have hk1 := h.k1
  rw [hk] at hk1 ⊢
  have e : ((k : Int) / 2 ^ i) = ((k / 2 ^ i : Nat) : Int) := by simp
  unfold bitB
  rw [e, and_one _ (Nat.lt_of_le_of_lt (Nat.div_le_self _ _) (by omega))]
  congr 1
theorem look_step {n : Int} {P : PlanT} (hP : PlanOk P) {i : Nat} {a : Adr} {mp : List (Adr × List Int)} {l : List Int} (hn : Nodup mp) (h0 : 0 ≤ n) (hl : look a mp = some l) (hll : l.length = n.toNat) : look a (stepC n P i a mp) = keepO n P i l := by
  unfold stepC keepO
  by_cases h1 : (i : Int) = P.torn ∧ 0 < cutV n P
  · rw [if_pos h1, if_pos h1, look_put, if_pos rfl, hl]
    simp only [Option.getD_some, fullT]
    rw [List.take_take, Nat.min_eq_right]
    have : cutV n P ≤ n := by unfold cutV; split <;> omega
    omega
  · rw [if_neg h1, if_neg h1]
    by_cases ht : (i : Int) = P.torn
    · rw [if_pos (.inl ht), keepB_torn ht, look_del _ _ hn, if_pos rfl]; rfl
    · by_cases h64 : 64 ≤ i
      · have : keepB P i = false := by simp [keepB]; intro _ h; omega
        rw [if_pos (.inr (.inl h64)), this, look_del _ _ hn, if_pos rfl]; rfl
      · have hb := bitB_iff hP i
        have hmod : P.keep / 2 ^ i % 2 = 0 ∨ P.keep / 2 ^ i % 2 = 1 := by omega
        rcases hmod with h | h
        · have hk : keepB P i = false := by simp [keepB, h]
          rw [if_pos (.inr (.inr (by rw [hb, h]; rfl))), hk, look_del _ _ hn, if_pos rfl]; rfl
        · have hk : keepB P i = true := by simp [keepB, h, ht]; omega
          rw [if_neg, hk, if_pos rfl, hl]
          rintro (h2 | h2 | h2)
          · exact ht h2
          · exact h64 h2
          · rw [hb, h] at h2; cases h2
theorem look_crF {n : Int} {P : PlanT} (hP : PlanOk P) (h0 : 0 ≤ n) (c : Adr) : ∀ (ps : List Pg) (i : Nat) (mp : List (Adr × List Int)), Nodup mp → Nd ps → (∀ p ∈ ps, look p.1 mp = some p.2.1) → (∀ p ∈ ps, p.2.1.length = n.toNat) →
    look c (crF n P i ((ps.filter (·.2.2)).map (·.1)) mp) = if (∃ p ∈ ps, p.1 = c) then got c (rcR n P i ps) else look c mp
  | [], i, mp, _, _, _, _ => by simp [crF]
  | p :: ps, i, mp, hn, hd, hl, hll => by
    obtain ⟨h1, h2⟩ := List.pairwise_cons.1 hd
    have hex : (∃ q ∈ p :: ps, q.1 = c) ↔ p.1 = c ∨ ∃ q ∈ ps, q.1 = c := by simp
    by_cases hp : p.2.2 = false
    · have ih := look_crF hP h0 c ps i mp hn h2 (fun q hq => hl q (by simp [hq])) (fun q hq => hll q (by simp [hq]))
      rw [List.filter_cons_of_neg (by simp [hp]), ih, rcR, if_pos hp, got_cons]
      by_cases hc : p.1 = c
      · rw [if_neg (fun ⟨q, hq, e⟩ => h1 q hq (hc.trans e.symm)), if_pos (hex.2 (.inl hc)), if_pos hc, ← hc]
        exact hl p (by simp)
      · rw [if_neg hc]
        by_cases hq : ∃ q ∈ ps, q.1 = c
        · rw [if_pos hq, if_pos (hex.2 (.inr hq))]
        · rw [if_neg hq, if_neg (fun h => (hex.1 h).elim hc hq)]
    · have ih := look_crF hP h0 c ps (i + 1) (stepC n P i p.1 mp) (nodup_stepC hn) h2 (fun q hq => by rw [look_stepC hn (fun e => h1 q hq e.symm)]; exact hl q (by simp [hq])) (fun q hq => hll q (by simp [hq]))
      rw [List.filter_cons_of_pos (by simpa using hp), List.map_cons, crF, ih, rcR, if_neg hp, got_append]
      by_cases hc : p.1 = c
      · have hnq : ¬ ∃ q ∈ ps, q.1 = c := fun ⟨q, hq, e⟩ => h1 q hq (hc.trans e.symm)
        have hg : got c (rcR n P (i + 1) ps) = none := got_none (fun q hq e => by
          obtain ⟨_, p', h3, h4, _⟩ := mem_rcR hq
          exact hnq ⟨p', h3, h4.symm.trans e⟩)
        rw [if_neg hnq, if_pos (hex.2 (.inl hc)), hg, ← hc, look_step hP hn h0 (hl p (by simp)) (hll p (by simp))]
        cases keepO n P i p.2.1 <;> simp [got, atA]
      · have hg : got c ((keepO n P i p.2.1).map (fun l => (p.1, l, false))).toList = none := got_none (fun q hq => by
          cases hk : keepO n P i p.2.1 with
          | none => rw [hk] at hq; simp at hq
          | some l => rw [hk] at hq; simp at hq; rw [hq]; exact hc)
        rw [hg, look_stepC hn (fun e => hc e.symm)]
        by_cases hq : ∃ q ∈ ps, q.1 = c
        · rw [if_pos hq, if_pos (hex.2 (.inr hq))]; rfl
        · rw [if_neg hq, if_neg (fun h => (hex.1 h).elim hc hq)]
end Go.Proofs.Ytkmanjfmffdcbaa.Fl
