/- The driver's device and the document's stay together, deed by deed. No program in sight. -/
import Derived.Test.YtkmanjfmffdcbaaFlSim
namespace Go.Proofs.Ytkmanjfmffdcbaa.Fl
set_option linter.unusedSimpArgs false
set_option linter.unusedVariables false
structure Sim (D : PD) (s : Int × Int × Int) (ps : List Pg) : Prop where
  sh : D.s = s
  lk : ∀ c, look c D.mp = got c ps
  dirty : D.dirty = (ps.filter (·.2.2)).map (·.1)
  nd : Nd ps
  len : ∀ p ∈ ps, p.2.1.length = s.2.2.toNat
  has : ∀ p ∈ ps, hasB s p.1.1 p.1.2 = true
theorem Sim.new (s : Int × Int × Int) : Sim { s := s, mp := [], dirty := [] } s [] := ⟨rfl, fun _ => rfl, rfl, by simp [Nd], by simp, by simp⟩
theorem idxI_cases {α : Type} (q : α → Bool) (l : List α) : idxI q l = -1 ∨ ∃ (i : Nat) (a : α), idxI q l = (i : Int) ∧ l[i]? = some a := by
  have h := find_idx q l
  unfold idxI
  cases hi : idxOf q l with
  | none => exact .inl rfl
  | some i =>
    refine .inr ⟨i, ?_⟩
    rw [hi] at h
    cases hf : l[i]? with
    | some a => exact ⟨a, rfl, rfl⟩
    | none =>
      exfalso
      clear h
      revert i
      induction l with
      | nil => intro i hi; cases hi
      | cons b l ih =>
        intro i hi hf
        unfold idxOf at hi
        split at hi
        · cases hi; simp at hf
        · cases hj : idxOf q l with
          | none => rw [hj] at hi; cases hi
          | some j =>
            rw [hj] at hi
            cases hi
            exact ih j hj (by simpa using hf)
theorem findI_iff (a b : Int) (ps : List Pg) : decide (0 ≤ findI a b ps) = (got (a, b) ps).isSome := by
  unfold findI got
  rw [← atB_eq]
  rcases idxI_cases (atB a b) ps with h | ⟨i, p, h, hp⟩
  · rw [h, find_none h]; rfl
  · rw [h, find_some h hp]; simp
variable {D : PD} {s : Int × Int × Int} {ps : List Pg}
theorem Sim.used (h : Sim D s ps) (a b : Int) : usedB D a b = decide (0 ≤ findI a b ps) := by
  rw [findI_iff, usedB, h.lk, h.sh]
  cases hg : got (a, b) ps with
  | none => simp
  | some l =>
    obtain ⟨p, hp, h1, _⟩ := got_mem hg
    have := h.has p hp
    rw [h1] at this
    simp [this]
theorem Sim.writeE (h : Sim D s ps) (a b : Int) (l : List Int) : writeE D a b l = rwE s ps a b l := by
  unfold Fl.writeE rwE
  rw [h.used, h.sh]
  simp only [decide_eq_true_eq]
theorem Sim.write (h : Sim D s ps) (a b : Int) (l : List Int) : Sim (writeD D a b l) s (rwP s ps a b l) := by
  unfold writeD rwP
  rw [h.writeE]
  split
  case isFalse => exact h
  case isTrue h0 =>
    rcases rwE_cases s ps a b l with h1 | h1 | h1 | h1
    · omega
    · omega
    · omega
    · obtain ⟨h2, h3, h4⟩ : hasB s a b = true ∧ (l.length : Int) ≤ s.2.2 ∧ ¬ 0 ≤ findI a b ps := by
        unfold rwE at h0
        split at h0
        · omega
        · split at h0
          · omega
          · split at h0
            · omega
            · rename_i x y z
              exact ⟨by simpa using x, by omega, z⟩
      have hg : got (a, b) ps = none := by
        have := findI_iff a b ps
        rw [decide_eq_false h4] at this
        cases hh : got (a, b) ps with
        | none => rfl
        | some x => rw [hh] at this; cases this
      have hno : ∀ p ∈ ps, p.1 ≠ (a, b) := fun p hp e => by
        unfold got at hg
        rw [Option.map_eq_none_iff, List.find?_eq_none] at hg
        exact hg p hp (by simp [atA, e])
      refine ⟨h.sh, fun c => ?_, ?_, ?_, ?_, ?_⟩
      · show Fl.look c (put (a, b) _ D.mp) = _
        rw [look_put, got_append, h.lk, numB, h.sh]
        by_cases hc : c = (a, b)
        · subst hc
          rw [if_pos rfl, hg]
          simp [got, atA]
        · rw [if_neg hc]
          cases got c ps with
          | some x => rfl
          | none =>
            simp [got, atA]
            exact fun e => hc e.symm
      · show D.dirty ++ [(a, b)] = _
        rw [h.dirty]
        simp
      · refine List.pairwise_append.2 ⟨h.nd, by simp, fun p hp q hq => ?_⟩
        simp at hq
        rw [hq]
        exact hno p hp
      · intro p hp
        rw [List.mem_append] at hp
        rcases hp with hp | hp
        · exact h.len p hp
        · simp at hp
          rw [hp]
          exact full_length (by omega)
      · intro p hp
        rw [List.mem_append] at hp
        rcases hp with hp | hp
        · exact h.has p hp
        · simp at hp
          rw [hp]
          exact h2
theorem Sim.sync (h : Sim D s ps) : Sim { D with dirty := [] } s (syncP ps) := by
  have hm : ∀ p ∈ syncP ps, p.2.2 = false ∧ ∃ q ∈ ps, p.1 = q.1 ∧ p.2.1 = q.2.1 := fun p hp => by
    simp only [syncP, List.mem_map] at hp
    obtain ⟨q, hq, rfl⟩ := hp
    exact ⟨rfl, q, hq, rfl, rfl⟩
  refine ⟨h.sh, fun c => ?_, ?_, ?_, fun p hp => ?_, fun p hp => ?_⟩
  · rw [show Fl.look c ({ D with dirty := [] } : PD).mp = Fl.look c D.mp from rfl, h.lk]
    have : ∀ ps : List Pg, got c ps = got c (syncP ps) := by
      intro ps
      induction ps with
      | nil => rfl
      | cons p ps ih =>
        show _ = got c ((p.1, p.2.1, false) :: syncP ps)
        rw [got_cons, got_cons, ih]
    exact this ps
  · symm
    show List.map _ (List.filter _ (syncP ps)) = []
    rw [List.filter_eq_nil_iff.2 (fun p hp => by rw [(hm p hp).1]; decide)]
    rfl
  · exact List.pairwise_map.2 h.nd
  · obtain ⟨_, q, h1, h2, h3⟩ := hm p hp
    rw [h3]; exact h.len q h1
  · obtain ⟨_, q, h1, h2, h3⟩ := hm p hp
    rw [h2]; exact h.has q h1
theorem got_filter (c : Adr) (a : Int) : ∀ ps : List Pg, got c (eraseP a ps) = if c.1 = a then none else got c ps
  | [] => by simp [eraseP, got]
  | p :: ps => by
    have ih := got_filter c a ps
    unfold eraseP at ih ⊢
    by_cases hp : p.1.1 = a
    · rw [List.filter_cons_of_neg (by simp [hp]), ih, got_cons]
      by_cases hc : c.1 = a
      · simp [hc]
      · rw [if_neg hc, if_neg hc, if_neg (fun e => hc (by rw [← e]; exact hp))]
    · rw [List.filter_cons_of_pos (by simp [hp]), got_cons, got_cons, ih]
      by_cases hc : p.1 = c
      · subst hc
        simp [hp]
      · simp [hc]
theorem Sim.erase (h : Sim D s ps) (hn : Nodup D.mp) (a : Int) (ha : hasB s a 0 = true) : Sim (erasedD D a) s (eraseP a ps) := by
  unfold erasedD
  rw [h.sh, if_pos ha]
  have h0 := (hasB_iff s a 0).1 ha
  have hsub : ∀ p ∈ eraseP a ps, p ∈ ps := fun p hp => (List.mem_filter.1 hp).1
  refine ⟨h.sh, fun c => ?_, ?_, h.nd.filter _, fun p hp => h.len p (hsub p hp), fun p hp => h.has p (hsub p hp)⟩
  · show Fl.look c (delTo a D.s.2.1.toNat D.mp) = _
    rw [look_delTo _ _ _ hn, h.lk, got_filter, h.sh]
    by_cases hc : c.1 = a
    · rw [if_pos hc]
      split
      · rfl
      · rename_i hx
        refine got_none (fun p hp e => ?_)
        have := (hasB_iff _ _ _).1 (h.has p hp)
        rw [e] at this
        exact hx ⟨hc, by omega, by omega⟩
    · rw [if_neg (fun e => hc e.1), if_neg hc]
  · show keepF _ D.dirty = _
    rw [h.dirty, keepF, List.filter_map, eraseP, List.filter_filter, List.filter_filter]
    congr 1
    refine List.filter_congr (fun p _ => ?_)
    simp [bne, Bool.and_comm]
    try rfl
theorem Sim.crash (h : Sim D s ps) (hn : Nodup D.mp) (hs : ShapeOk s) {P : PlanT} (hP : PlanOk P) : Sim (crashD D P) s (rcTo s.2.2 P ps).1 := by
  rw [rcTo_eq]
  have h0 := hs.c0
  refine ⟨h.sh, fun c => ?_, ?_, nd_rcR h.nd, fun p hp => ?_, fun p hp => ?_⟩
  · show Fl.look c (crashTo D.s.2.2 P D.dirty D.mp D.dirty.length) = _
    rw [crashTo_all, h.dirty, h.sh, look_crF hP (by omega) c ps 0 D.mp hn h.nd (fun p hp => ?_) h.len, h.lk]
    · split
      · rfl
      · rename_i hx
        rw [got_none (fun p hp e => hx ⟨p, hp, e⟩), got_none (fun p hp e => by
          obtain ⟨_, q, h1, h2, _⟩ := mem_rcR hp
          exact hx ⟨q, h1, h2.symm.trans e⟩)]
    · rw [h.lk]
      have : ∀ {ps : List Pg}, Nd ps → p ∈ ps → got p.1 ps = some p.2.1 := by
        intro ps hd hp
        induction ps with
        | nil => cases hp
        | cons q ps ih =>
          obtain ⟨h1, h2⟩ := List.pairwise_cons.1 hd
          rw [got_cons]
          rcases List.mem_cons.1 hp with rfl | hp
          · rw [if_pos rfl]
          · rw [if_neg (h1 p hp), ih h2 hp]
      exact this h.nd hp
  · symm
    show List.map _ (List.filter _ (rcR _ P 0 ps)) = []
    rw [List.filter_eq_nil_iff.2 (fun p hp => by rw [(mem_rcR hp).1]; decide)]
    rfl
  · obtain ⟨_, q, h1, h2, h3⟩ := mem_rcR hp
    exact h3 (h.len q h1)
  · obtain ⟨_, q, h1, h2, h3⟩ := mem_rcR hp
    rw [h2]; exact h.has q h1
theorem full_self {n : Nat} {l : List Int} (h : l.length = n) : full n l = l := by simp [full, h]
theorem Sim.read (h : Sim D s ps) (a b : Int) : readD D a b = readP s.2.2.toNat a b ps := by
  unfold readD readP numB
  rw [h.lk, h.sh, atB_eq]
  unfold got
  cases hf : ps.find? (atA (a, b)) with
  | none => simp [fullT]
  | some p => simp [full_self (h.len p (List.mem_of_find?_eq_some hf))]
theorem Sim.dirtyN (h : Sim D s ps) : D.dirty.length = dirtyN ps := by rw [h.dirty, Fl.dirtyN, List.length_map]
theorem Sim.dirtyLe (h : Sim D s ps) : D.dirty.length ≤ ps.length := by rw [h.dirty, List.length_map]; exact List.length_filter_le _ _
theorem Sim.dirtyNd (h : Sim D s ps) : D.dirty.Pairwise (· ≠ ·) := by
  rw [h.dirty, List.pairwise_map]
  exact h.nd.filter _
theorem Sim.dirtyIn (h : Sim D s ps) : ∀ a ∈ D.dirty, (Fl.look a D.mp).isSome = true := fun a ha => by
  rw [h.dirty, List.mem_map] at ha
  obtain ⟨p, hp, rfl⟩ := ha
  have hp := (List.mem_filter.1 hp).1
  rw [h.lk]
  cases hg : got p.1 ps with
  | some x => rfl
  | none =>
    unfold got at hg
    rw [Option.map_eq_none_iff, List.find?_eq_none] at hg
    exact absurd (by simp [atA]) (hg p hp)
theorem DevIs.nodup {N0 p : Nat} {D : PD} {ok : Nat → Prop} {w : World} (h : DevIs N0 p D ok w) : Nodup D.mp := by
  obtain ⟨m, v, es, ck, h⟩ := h
  exact h.nodup
end Go.Proofs.Ytkmanjfmffdcbaa.Fl
