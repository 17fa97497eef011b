/- The document's Victim: walked. -/
import Derived.Test.YtkbialmlddhclaaCkSit2
namespace Go.Proofs.Ytkbialmlddhclaa.Ck
open Go.RowKit Go.Proofs.YtkbialmlddhclaaW.PrintWords Go.Proofs.YtkbialmlddhclaaW.PrintMore
set_option linter.unusedSimpArgs false
set_option linter.unusedVariables false
/-- The document's victim, with so many rounds at most. -/
def rvict : Nat → List Sit → List Sit
  | _, [] => []
  | 0, s :: l => s :: l
  | f + 1, s :: l => if s.2 = true then rvict f (l ++ [(s.1, false)]) else s :: l
theorem rvict_stop {f : Nat} {s : Sit} {l : List Sit} (h : s.2 = false) : rvict f (s :: l) = s :: l := by
  cases f with
  | zero => rfl
  | succ f => unfold rvict; rw [h]; rfl
theorem own_alloc {w : World} {b : Nat} {v : Value} {n : Nat} {cs : List Value} (h : w.ownsRow b TS 2 v n cs) (o : Obj) : (w.alloc o).ownsRow b TS 2 v n cs :=
  ⟨h.1, h.2.imp id (fun ⟨g, cap, cur, h1, h2, h3, h4⟩ => ⟨g, cap, cur, h1, h2, (Below.heap_alloc _ _ _ (blt h3)).trans h3, h4⟩)⟩
theorem sit_cells {w : World} {b : Nat} {so : Int} (h : w.heap[b]? = some (.cells #[.int .i64 so, .bool false] TS (0, 0))) : ∀ j u, (flatS [(so, false)])[j]? = some u → w.cell? ((⟨b, 0, none⟩ : Addr).add j) = some u := fun j u hj => by
  rw [Addr.add_lit, bcell h, Nat.zero_add]
  simpa [flatS] using hj
def RVPost (w : World) (base n : Nat) (x : List Sit) (e : Ending) (w' : World) : Prop := ∃ (s : Sit) (l : List Sit) (v' : Value), rvict (n + 1) x = s :: l ∧ e = .returned (.tuple #[.int .i64 s.1, v']) ∧ SRow w' base v' (s :: l) ∧ Below w.heap.size w w' ∧ l.length + 1 = n
theorem below_cell {X : World} {a : Addr} {u : Value} (h : X.cell? a = some u) (o : Obj) : (X.alloc o).cell? a = some u := (World.cell?_alloc_lt X o a (World.block_lt_of_cell? X _ h)).trans h
section
variable {w w' : World} {base : Nat} {v : Value} {x : List Sit}
set_option maxHeartbeats 4000000 in
set_option maxRecDepth 100000 in
theorem RVictim_any (h : SRow w base v x) (h0 : 0 < x.length) (hl : x.length ≤ 1000) (hbase : base ≤ w.heap.size) : Calls Try.prog 51 #[v] w (RVPost w base x.length x) := by
  obtain ⟨n, hn⟩ : ∃ n, n = x.length := ⟨_, rfl⟩
  obtain ⟨A, c, rfl, hc, hmx, -⟩ := h.cels
  have HN := Lib.hid hn
  rw [← hn] at hl h0 hc h
  rw [← hn]
  have HS := Lib.hid h
  have n0 : (0 : Int) ≤ (n : Int) := by omega
  obtain ⟨i0, hi0, hz0, hz1, hz2⟩ := info_parts info_sit
  clear h hn hmx
  go_enter Try.func51, Try.ntmps51
  go_wp2
  go_loopw [0, 4] (fun v0 v4 wr => ∃ (k : Nat) (y : List Sit), k ≤ n + 1 ∧ v4 = .int .i64 (k : Int) ∧ SRow wr base v0 y ∧ y.length = n ∧ rvict (n + 1 - k) y = rvict (n + 1) x ∧ Below w.heap.size w wr ∧ ∃ A0 c0, v0 = .slice A0 n c0) (fun _ v4 _ => n + 1 - (intOf v4).toNat)
  case atStart => exact ⟨0, x, by omega, rfl, HS.out, HN.out.symm, rfl, Below.refl _ _, _, _, rfl⟩
  case round =>
    obtain ⟨k, y, hk, rfl, hr, hyl, heq, hb, A0, c0, rfl⟩ := hrel
    obtain ⟨s, l, rfl⟩ : ∃ s l, y = s :: l := by
      cases y with
      | nil => simp at hyl; omega
      | cons s l => exact ⟨s, l, rfl⟩
    rw [List.length_cons] at hyl
    obtain ⟨A', c', hv', hcc, hmx, hce⟩ := hr.cels
    injection hv' with e1 e2 e3
    subst e1 e3
    clear e2
    obtain ⟨g, cur, rfl, hbg, hg, hcell⟩ := hce (by simp)
    rw [List.length_cons, hyl] at hcc hmx
    have g0 : wr.cell? ⟨g, 0, none⟩ = some (.int .i64 s.1) := by rw [bcell hg]; exact hcell 0 _ rfl
    have g1 : wr.cell? ⟨g, 1, none⟩ = some (.bool s.2) := by rw [bcell hg]; exact hcell 1 _ rfl
    have HR := Aside0.mk hr
    have HB := Aside0.mk hb
    have HEQ := Lib.hid heq
    have HYL := Lib.hid hyl
    have HG := Lib.hid hg
    have p0 : (0 : Int) < (n : Int) := by omega
    have p1 : (1 : Int) ≤ (n : Int) := by omega
    have HCE := Lib.hid hcell
    obtain ⟨so, sm⟩ := s
    simp only at g0 g1
    clear hr hb heq hyl hg hcell hce
    by_cases hlt : k ≤ n
    · have kk : (k : Int) ≤ (n : Int) := by omega
      cases sm with
      | false =>
        go_wp2
        go_ret2
        exact ⟨(so, false), l, _, by rw [← HEQ.out, rvict_stop rfl], rfl, HR.out, HB.out, HYL.out⟩
      | true =>
        have hfl : (flatS l).length = (n - 1) * 2 := by have := HYL.out; rw [flatS_length]; congr 1; omega
        have hd1 := fun (X : World) (hX : Below wr.heap.size wr X) => cut_cells ((hX.block _ (blt HG.out)).trans HG.out) HCE.out 1
        have HFL := Lib.hid hfl
        have HD1 := Lib.hid hd1
        clear hfl hd1
        have hfin : ∀ (v2 : Value) (w2 : World), w2.ownsRow wr.heap.size TS 2 v2 (0 + (n - 1) + 1) ([] ++ flatS l ++ flatS [(so, false)]) → SRow w2 wr.heap.size v2 (l ++ [(so, false)]) := fun v2 w2 ho => by
          unfold SRow
          have := HYL.out
          rw [flatS_append, List.length_append, List.length_singleton]
          rw [List.nil_append, Nat.zero_add] at ho
          rw [show l.length = n - 1 by omega]
          exact ho
        have HFIN := Lib.hid hfin
        clear hfin
        by_cases hc1 : c0 = 1
        · obtain rfl : n = 1 := by omega
          subst hc1
          have hl0 : l = [] := by have := HYL.out; exact List.eq_nil_of_length_eq_zero (by omega)
          have HFL0 : Hid ((flatS l).length = 0 * 2) := Lib.hid (by rw [hl0]; rfl)
          have HD0 : Hid (∀ (X : World) (j : Nat) (u : Value), (flatS l)[j]? = some u → X.cell? ((⟨g, 0, none⟩ : Addr).add j) = some u) := Lib.hid (fun X j u hj => by rw [hl0] at hj; simp [flatS] at hj)
          clear hl0
          go_wp2_with fail
          refine wp_region_held_drew (S := (fun w' => w'.cell? ⟨g, 0, none⟩ = some (.int .i64 so))) (by kernel_rfl) ?_ (fun hHeld => ?_)
          · exact g0
          first | (refine wpAnyH_take (i := 0) (oi := ?o1) (v := ?v1) ?i1 (by kernel_rfl) (by kernel_rfl) (by kernel_rfl) ?q1 ?y1 (by assumption) ?r1; (case i1 => (simp only [List.getElem?_toArray, List.getElem?_cons_succ, List.getElem?_cons_zero]; rfl)); (case q1 => exact fun _ _ _ h => h); (case y1 => (refine Or.inl ⟨by rfl, ?_⟩; intro w hSw; (try dsimp only at hSw); go_simp; (try (with_reducible rfl))))) | (refine wpAnyH_take (i := 0) (oi := ?o2) (v := undef) ?i2 (by kernel_rfl) (by kernel_rfl) (by kernel_rfl) ?q2 ?y2 (by assumption) ?r2; (case i2 => (simp only [List.getElem?_toArray, List.getElem?_cons_succ, List.getElem?_cons_zero]; rfl)); (case q2 => exact fun _ _ _ h => h); (case y2 => exact Or.inr ⟨by rfl, rfl⟩))
          try simp only [Act.put, List.setIfInBounds_toArray, List.set_cons_zero, List.set_cons_succ]
          first | (refine wpAnyH_take (i := 1) (oi := ?o3) (v := ?v3) ?i3 (by kernel_rfl) (by kernel_rfl) (by kernel_rfl) ?q3 ?y3 (by assumption) ?r3; (case i3 => (simp only [List.getElem?_toArray, List.getElem?_cons_succ, List.getElem?_cons_zero]; rfl)); (case q3 => exact fun _ _ _ h => h); (case y3 => (refine Or.inl ⟨by rfl, ?_⟩; intro w hSw; (try dsimp only at hSw); go_simp; (try (with_reducible rfl))))) | (refine wpAnyH_take (i := 1) (oi := ?o4) (v := undef) ?i4 (by kernel_rfl) (by kernel_rfl) (by kernel_rfl) ?q4 ?y4 (by assumption) ?r4; (case i4 => (simp only [List.getElem?_toArray, List.getElem?_cons_succ, List.getElem?_cons_zero]; rfl)); (case q4 => exact fun _ _ _ h => h); (case y4 => exact Or.inr ⟨by rfl, rfl⟩))
          try simp only [Act.put, List.setIfInBounds_toArray, List.set_cons_zero, List.set_cons_succ]
          first | (refine wpAnyH_take (i := 3) (oi := ?o5) (v := ?v5) ?i5 (by kernel_rfl) (by kernel_rfl) (by kernel_rfl) ?q5 ?y5 (by assumption) ?r5; (case i5 => (simp only [List.getElem?_toArray, List.getElem?_cons_succ, List.getElem?_cons_zero]; rfl)); (case q5 => exact fun _ _ _ h => h); (case y5 => (refine Or.inl ⟨by rfl, ?_⟩; intro w hSw; (try dsimp only at hSw); go_simp; (try (with_reducible rfl))))) | (refine wpAnyH_take (i := 3) (oi := ?o6) (v := undef) ?i6 (by kernel_rfl) (by kernel_rfl) (by kernel_rfl) ?q6 ?y6 (by assumption) ?r6; (case i6 => (simp only [List.getElem?_toArray, List.getElem?_cons_succ, List.getElem?_cons_zero]; rfl)); (case q6 => exact fun _ _ _ h => h); (case y6 => exact Or.inr ⟨by rfl, rfl⟩))
          try simp only [Act.put, List.setIfInBounds_toArray, List.set_cons_zero, List.set_cons_succ]
          first | (refine wpAnyH_take (i := 4) (oi := ?o7) (v := ?v7) ?i7 (by kernel_rfl) (by kernel_rfl) (by kernel_rfl) ?q7 ?y7 (by assumption) ?r7; (case i7 => (simp only [List.getElem?_toArray, List.getElem?_cons_succ, List.getElem?_cons_zero]; rfl)); (case q7 => exact fun _ _ _ h => h); (case y7 => (refine Or.inl ⟨by rfl, ?_⟩; intro w hSw; (try dsimp only at hSw); go_simp; (try (with_reducible rfl))))) | (refine wpAnyH_take (i := 4) (oi := ?o8) (v := undef) ?i8 (by kernel_rfl) (by kernel_rfl) (by kernel_rfl) ?q8 ?y8 (by assumption) ?r8; (case i8 => (simp only [List.getElem?_toArray, List.getElem?_cons_succ, List.getElem?_cons_zero]; rfl)); (case q8 => exact fun _ _ _ h => h); (case y8 => exact Or.inr ⟨by rfl, rfl⟩))
          try simp only [Act.put, List.setIfInBounds_toArray, List.set_cons_zero, List.set_cons_succ]
          first | (refine wpAnyH_take (i := 5) (oi := ?o9) (v := ?v9) ?i9 (by kernel_rfl) (by kernel_rfl) (by kernel_rfl) ?q9 ?y9 (by assumption) ?r9; (case i9 => (simp only [List.getElem?_toArray, List.getElem?_cons_succ, List.getElem?_cons_zero]; rfl)); (case q9 => exact fun _ _ _ h => h); (case y9 => (refine Or.inl ⟨by rfl, ?_⟩; intro w hSw; (try dsimp only at hSw); go_simp; (try (with_reducible rfl))))) | (refine wpAnyH_take (i := 5) (oi := ?o10) (v := undef) ?i10 (by kernel_rfl) (by kernel_rfl) (by kernel_rfl) ?q10 ?y10 (by assumption) ?r10; (case i10 => (simp only [List.getElem?_toArray, List.getElem?_cons_succ, List.getElem?_cons_zero]; rfl)); (case q10 => exact fun _ _ _ h => h); (case y10 => exact Or.inr ⟨by rfl, rfl⟩))
          try simp only [Act.put, List.setIfInBounds_toArray, List.set_cons_zero, List.set_cons_succ]
          first | (refine wpAnyH_take (i := 6) (oi := ?o11) (v := ?v11) ?i11 (by kernel_rfl) (by kernel_rfl) (by kernel_rfl) ?q11 ?y11 (by assumption) ?r11; (case i11 => (simp only [List.getElem?_toArray, List.getElem?_cons_succ, List.getElem?_cons_zero]; rfl)); (case q11 => exact fun _ _ _ h => h); (case y11 => (refine Or.inl ⟨by rfl, ?_⟩; intro w hSw; (try dsimp only at hSw); go_simp; (try (with_reducible rfl))))) | (refine wpAnyH_take (i := 6) (oi := ?o12) (v := undef) ?i12 (by kernel_rfl) (by kernel_rfl) (by kernel_rfl) ?q12 ?y12 (by assumption) ?r12; (case i12 => (simp only [List.getElem?_toArray, List.getElem?_cons_succ, List.getElem?_cons_zero]; rfl)); (case q12 => exact fun _ _ _ h => h); (case y12 => exact Or.inr ⟨by rfl, rfl⟩))
          try simp only [Act.put, List.setIfInBounds_toArray, List.set_cons_zero, List.set_cons_succ]
          first | (refine wpAnyH_take (i := 7) (oi := ?o13) (v := ?v13) ?i13 (by kernel_rfl) (by kernel_rfl) (by kernel_rfl) ?q13 ?y13 (by assumption) ?r13; (case i13 => (simp only [List.getElem?_toArray, List.getElem?_cons_succ, List.getElem?_cons_zero]; rfl)); (case q13 => exact fun _ _ _ h => h); (case y13 => (refine Or.inl ⟨by rfl, ?_⟩; intro w hSw; (try dsimp only at hSw); go_simp; (try (with_reducible rfl))))) | (refine wpAnyH_take (i := 7) (oi := ?o14) (v := undef) ?i14 (by kernel_rfl) (by kernel_rfl) (by kernel_rfl) ?q14 ?y14 (by assumption) ?r14; (case i14 => (simp only [List.getElem?_toArray, List.getElem?_cons_succ, List.getElem?_cons_zero]; rfl)); (case q14 => exact fun _ _ _ h => h); (case y14 => exact Or.inr ⟨by rfl, rfl⟩))
          try simp only [Act.put, List.setIfInBounds_toArray, List.set_cons_zero, List.set_cons_succ]
          refine wpAnyH_ready (rs := [2, 8]) (by kernel_rfl) (by simp) ?_
          refine (AllReadyH.cons (by (simp only [List.getElem?_toArray, List.getElem?_cons_succ, List.getElem?_cons_zero]; rfl)) (fun K hK => ?_) (AllReadyH.cons (by (simp only [List.getElem?_toArray, List.getElem?_cons_succ, List.getElem?_cons_zero]; rfl)) (fun K hK => ?_) AllReadyH.nil))
          · (rw [if_pos (by rfl)]; refine wp_append_own (w := _) (.const (.slice none 0 0)) (.tmp 17) 72 rfl wr.heap.size TS i0 _ 2 16 Try.underlying72 hi0 hz0 hz1 hz2 rfl (by decide) _ 0 [] rfl (nil_own _ _) ⟨g, 0, none⟩ 0 0 (flatS l) rfl HFL0.out (HD0.out _) (flatS_one _) (by simp only [maxLen]; omega) (by omega) (by first | exact Nat.le_refl _ | exact (below_alloc (Below.refl _ _).drew _).size) ?_; intro v1 w1 ho1 hg1 _; have HO1 := Lib.hid ho1; have HG1 := Lib.hid (show World.grownBy _ w1 none from hg1); have HB1 := Aside0.mk (show Below wr.heap.size wr w1 from by first | exact (Below.refl _ _).drew.grown hg1 (Nat.le_refl _) (fun _ h => by cases h) | exact (below_alloc (Below.refl _ _).drew _).grown hg1 (below_alloc (Below.refl _ _).drew _).size (fun _ h => by cases h)); clear ho1 hg1)
            (try dsimp only)
            refine hK.out _ _ ?_ (fun hHeld => ?_)
            · exact (HB1.out.cell (p := ⟨g, 0, none⟩) (blt HG.out)).trans g0
            clear hK K
            try simp only [Act.put, List.setIfInBounds_toArray, List.set_cons_zero, List.set_cons_succ]
            refine wpAnyH_ready (rs := [8]) (by kernel_rfl) (by simp) ?_
            refine (AllReadyH.cons (by (simp only [List.getElem?_toArray, List.getElem?_cons_succ, List.getElem?_cons_zero]; rfl)) (fun K hK => ?_) AllReadyH.nil)
            go_simp
            (try dsimp only)
            refine hK.out _ _ ?_ (fun hHeld => ?_)
            · exact (below_cell hHeld _)
            clear hK K
            try simp only [Act.put, List.setIfInBounds_toArray, List.set_cons_zero, List.set_cons_succ]
            refine wpAnyH_ready (rs := [9]) (by kernel_rfl) (by simp) ?_
            refine (AllReadyH.cons (by (simp only [List.getElem?_toArray, List.getElem?_cons_succ, List.getElem?_cons_zero]; rfl)) (fun K hK => ?_) AllReadyH.nil)
            (rw [if_pos (by rfl)]; refine wp_append_own (w := _) (.tmp 18) (.tmp 24) 72 rfl wr.heap.size TS i0 _ 2 16 Try.underlying72 hi0 hz0 hz1 hz2 rfl (by decide) _ _ _ rfl (by first | exact HO1.out | exact own_alloc HO1.out _) ⟨_, 0, none⟩ 1 1 (flatS [(so, false)]) rfl rfl (by first | exact sit_cells (blk_new _ _) | exact sit_cells ((HG1.out.block _ (by show _ < (wr.alloc _).heap.size; rw [size_alloc]; exact Nat.lt_succ_self _) (by simp)).trans (blk_new wr.drew _))) (flatS_one _) (by simp only [maxLen]; omega) (by omega) (by first | exact HB1.out.size | exact (below_alloc HB1.out _).size) ?_; intro v2 w2 ho2 hg2 _; have HO2 := Lib.hid ho2; have HB2 := Aside0.mk (show Below wr.heap.size wr w2 from Below.grown (by first | exact HB1.out | exact below_alloc HB1.out _) hg2 (by first | exact HB1.out.size | exact (below_alloc HB1.out _).size) (fun q hq => own_base HO1.out q hq)); clear ho2 hg2)
            (try dsimp only)
            refine hK.out _ _ ?_ (fun hHeld => ?_)
            · exact (HB2.out.cell (p := ⟨g, 0, none⟩) (blt HG.out)).trans g0
            clear hK K
            try simp only [Act.put, List.setIfInBounds_toArray, List.set_cons_zero, List.set_cons_succ]
            first | (refine wpAnyH_take (i := 10) (oi := ?o15) (v := ?v15) ?i15 (by kernel_rfl) (by kernel_rfl) (by kernel_rfl) ?q15 ?y15 (by assumption) ?r15; (case i15 => (simp only [List.getElem?_toArray, List.getElem?_cons_succ, List.getElem?_cons_zero]; rfl)); (case q15 => exact fun _ _ _ h => h); (case y15 => (refine Or.inl ⟨by rfl, ?_⟩; intro w hSw; (try dsimp only at hSw); go_simp; (try (with_reducible rfl))))) | (refine wpAnyH_take (i := 10) (oi := ?o16) (v := undef) ?i16 (by kernel_rfl) (by kernel_rfl) (by kernel_rfl) ?q16 ?y16 (by assumption) ?r16; (case i16 => (simp only [List.getElem?_toArray, List.getElem?_cons_succ, List.getElem?_cons_zero]; rfl)); (case q16 => exact fun _ _ _ h => h); (case y16 => exact Or.inr ⟨by rfl, rfl⟩))
            try simp only [Act.put, List.setIfInBounds_toArray, List.set_cons_zero, List.set_cons_succ]
            refine wpAnyH_done (by kernel_rfl) ?_ _
            go_wp2
            refine ⟨⟨k + 1, l ++ [(so, false)], by omega, by go_num, ?_⟩, by simp [intOf]; omega⟩
            have hsr := HFIN.out _ _ (by have ho := HO2.out; exact ho)
            have hlen2 : (l ++ [(so, false)]).length = 1 := by have := HYL.out; rw [List.length_append, List.length_singleton]; omega
            obtain ⟨A2, c2, hv2, _, _, _⟩ := hsr.cels
            rw [hlen2] at hv2
            refine ⟨hsr.lower (Nat.le_trans hbase HB.out.size), hlen2, ?_, HB.out.trans (HB2.out.mono HB.out.size), A2, c2, hv2⟩
            rw [← HEQ.out]
            obtain ⟨f, hf⟩ : ∃ f, 1 + 1 - k = f + 1 := ⟨1 - k, by omega⟩
            rw [hf, show 1 + 1 - (k + 1) = f by omega]
            conv => rhs; unfold rvict
            rfl
          · go_simp
            (try dsimp only)
            refine hK.out _ _ ?_ (fun hHeld => ?_)
            · exact (below_cell hHeld _)
            clear hK K
            try simp only [Act.put, List.setIfInBounds_toArray, List.set_cons_zero, List.set_cons_succ]
            refine wpAnyH_ready (rs := [2]) (by kernel_rfl) (by simp) ?_
            refine (AllReadyH.cons (by (simp only [List.getElem?_toArray, List.getElem?_cons_succ, List.getElem?_cons_zero]; rfl)) (fun K hK => ?_) AllReadyH.nil)
            (rw [if_pos (by rfl)]; refine wp_append_own (w := _) (.const (.slice none 0 0)) (.tmp 17) 72 rfl wr.heap.size TS i0 _ 2 16 Try.underlying72 hi0 hz0 hz1 hz2 rfl (by decide) _ 0 [] rfl (nil_own _ _) ⟨g, 0, none⟩ 0 0 (flatS l) rfl HFL0.out (HD0.out _) (flatS_one _) (by simp only [maxLen]; omega) (by omega) (by first | exact Nat.le_refl _ | exact (below_alloc (Below.refl _ _).drew _).size) ?_; intro v1 w1 ho1 hg1 _; have HO1 := Lib.hid ho1; have HG1 := Lib.hid (show World.grownBy _ w1 none from hg1); have HB1 := Aside0.mk (show Below wr.heap.size wr w1 from by first | exact (Below.refl _ _).drew.grown hg1 (Nat.le_refl _) (fun _ h => by cases h) | exact (below_alloc (Below.refl _ _).drew _).grown hg1 (below_alloc (Below.refl _ _).drew _).size (fun _ h => by cases h)); clear ho1 hg1)
            (try dsimp only)
            refine hK.out _ _ ?_ (fun hHeld => ?_)
            · exact (HB1.out.cell (p := ⟨g, 0, none⟩) (blt HG.out)).trans g0
            clear hK K
            try simp only [Act.put, List.setIfInBounds_toArray, List.set_cons_zero, List.set_cons_succ]
            refine wpAnyH_ready (rs := [9]) (by kernel_rfl) (by simp) ?_
            refine (AllReadyH.cons (by (simp only [List.getElem?_toArray, List.getElem?_cons_succ, List.getElem?_cons_zero]; rfl)) (fun K hK => ?_) AllReadyH.nil)
            (rw [if_pos (by rfl)]; refine wp_append_own (w := _) (.tmp 18) (.tmp 24) 72 rfl wr.heap.size TS i0 _ 2 16 Try.underlying72 hi0 hz0 hz1 hz2 rfl (by decide) _ _ _ rfl (by first | exact HO1.out | exact own_alloc HO1.out _) ⟨_, 0, none⟩ 1 1 (flatS [(so, false)]) rfl rfl (by first | exact sit_cells (blk_new _ _) | exact sit_cells ((HG1.out.block _ (by show _ < (wr.alloc _).heap.size; rw [size_alloc]; exact Nat.lt_succ_self _) (by simp)).trans (blk_new wr.drew _))) (flatS_one _) (by simp only [maxLen]; omega) (by omega) (by first | exact HB1.out.size | exact (below_alloc HB1.out _).size) ?_; intro v2 w2 ho2 hg2 _; have HO2 := Lib.hid ho2; have HB2 := Aside0.mk (show Below wr.heap.size wr w2 from Below.grown (by first | exact HB1.out | exact below_alloc HB1.out _) hg2 (by first | exact HB1.out.size | exact (below_alloc HB1.out _).size) (fun q hq => own_base HO1.out q hq)); clear ho2 hg2)
            (try dsimp only)
            refine hK.out _ _ ?_ (fun hHeld => ?_)
            · exact (HB2.out.cell (p := ⟨g, 0, none⟩) (blt HG.out)).trans g0
            clear hK K
            try simp only [Act.put, List.setIfInBounds_toArray, List.set_cons_zero, List.set_cons_succ]
            first | (refine wpAnyH_take (i := 10) (oi := ?o17) (v := ?v17) ?i17 (by kernel_rfl) (by kernel_rfl) (by kernel_rfl) ?q17 ?y17 (by assumption) ?r17; (case i17 => (simp only [List.getElem?_toArray, List.getElem?_cons_succ, List.getElem?_cons_zero]; rfl)); (case q17 => exact fun _ _ _ h => h); (case y17 => (refine Or.inl ⟨by rfl, ?_⟩; intro w hSw; (try dsimp only at hSw); go_simp; (try (with_reducible rfl))))) | (refine wpAnyH_take (i := 10) (oi := ?o18) (v := undef) ?i18 (by kernel_rfl) (by kernel_rfl) (by kernel_rfl) ?q18 ?y18 (by assumption) ?r18; (case i18 => (simp only [List.getElem?_toArray, List.getElem?_cons_succ, List.getElem?_cons_zero]; rfl)); (case q18 => exact fun _ _ _ h => h); (case y18 => exact Or.inr ⟨by rfl, rfl⟩))
            try simp only [Act.put, List.setIfInBounds_toArray, List.set_cons_zero, List.set_cons_succ]
            refine wpAnyH_done (by kernel_rfl) ?_ _
            go_wp2
            refine ⟨⟨k + 1, l ++ [(so, false)], by omega, by go_num, ?_⟩, by simp [intOf]; omega⟩
            have hsr := HFIN.out _ _ (by have ho := HO2.out; exact ho)
            have hlen2 : (l ++ [(so, false)]).length = 1 := by have := HYL.out; rw [List.length_append, List.length_singleton]; omega
            obtain ⟨A2, c2, hv2, _, _, _⟩ := hsr.cels
            rw [hlen2] at hv2
            refine ⟨hsr.lower (Nat.le_trans hbase HB.out.size), hlen2, ?_, HB.out.trans (HB2.out.mono HB.out.size), A2, c2, hv2⟩
            rw [← HEQ.out]
            obtain ⟨f, hf⟩ : ∃ f, 1 + 1 - k = f + 1 := ⟨1 - k, by omega⟩
            rw [hf, show 1 + 1 - (k + 1) = f by omega]
            conv => rhs; unfold rvict
            rfl
        · go_wp2_with fail
          refine wp_region_held_drew (S := (fun w' => w'.cell? ⟨g, 0, none⟩ = some (.int .i64 so))) (by kernel_rfl) ?_ (fun hHeld => ?_)
          · exact g0
          first | (refine wpAnyH_take (i := 0) (oi := ?o19) (v := ?v19) ?i19 (by kernel_rfl) (by kernel_rfl) (by kernel_rfl) ?q19 ?y19 (by assumption) ?r19; (case i19 => (simp only [List.getElem?_toArray, List.getElem?_cons_succ, List.getElem?_cons_zero]; rfl)); (case q19 => exact fun _ _ _ h => h); (case y19 => (refine Or.inl ⟨by rfl, ?_⟩; intro w hSw; (try dsimp only at hSw); go_simp; (try (with_reducible rfl))))) | (refine wpAnyH_take (i := 0) (oi := ?o20) (v := undef) ?i20 (by kernel_rfl) (by kernel_rfl) (by kernel_rfl) ?q20 ?y20 (by assumption) ?r20; (case i20 => (simp only [List.getElem?_toArray, List.getElem?_cons_succ, List.getElem?_cons_zero]; rfl)); (case q20 => exact fun _ _ _ h => h); (case y20 => exact Or.inr ⟨by rfl, rfl⟩))
          try simp only [Act.put, List.setIfInBounds_toArray, List.set_cons_zero, List.set_cons_succ]
          first | (refine wpAnyH_take (i := 1) (oi := ?o21) (v := ?v21) ?i21 (by kernel_rfl) (by kernel_rfl) (by kernel_rfl) ?q21 ?y21 (by assumption) ?r21; (case i21 => (simp only [List.getElem?_toArray, List.getElem?_cons_succ, List.getElem?_cons_zero]; rfl)); (case q21 => exact fun _ _ _ h => h); (case y21 => (refine Or.inl ⟨by rfl, ?_⟩; intro w hSw; (try dsimp only at hSw); go_simp; (try (with_reducible rfl))))) | (refine wpAnyH_take (i := 1) (oi := ?o22) (v := undef) ?i22 (by kernel_rfl) (by kernel_rfl) (by kernel_rfl) ?q22 ?y22 (by assumption) ?r22; (case i22 => (simp only [List.getElem?_toArray, List.getElem?_cons_succ, List.getElem?_cons_zero]; rfl)); (case q22 => exact fun _ _ _ h => h); (case y22 => exact Or.inr ⟨by rfl, rfl⟩))
          try simp only [Act.put, List.setIfInBounds_toArray, List.set_cons_zero, List.set_cons_succ]
          first | (refine wpAnyH_take (i := 3) (oi := ?o23) (v := ?v23) ?i23 (by kernel_rfl) (by kernel_rfl) (by kernel_rfl) ?q23 ?y23 (by assumption) ?r23; (case i23 => (simp only [List.getElem?_toArray, List.getElem?_cons_succ, List.getElem?_cons_zero]; rfl)); (case q23 => exact fun _ _ _ h => h); (case y23 => (refine Or.inl ⟨by rfl, ?_⟩; intro w hSw; (try dsimp only at hSw); go_simp; (try (with_reducible rfl))))) | (refine wpAnyH_take (i := 3) (oi := ?o24) (v := undef) ?i24 (by kernel_rfl) (by kernel_rfl) (by kernel_rfl) ?q24 ?y24 (by assumption) ?r24; (case i24 => (simp only [List.getElem?_toArray, List.getElem?_cons_succ, List.getElem?_cons_zero]; rfl)); (case q24 => exact fun _ _ _ h => h); (case y24 => exact Or.inr ⟨by rfl, rfl⟩))
          try simp only [Act.put, List.setIfInBounds_toArray, List.set_cons_zero, List.set_cons_succ]
          first | (refine wpAnyH_take (i := 4) (oi := ?o25) (v := ?v25) ?i25 (by kernel_rfl) (by kernel_rfl) (by kernel_rfl) ?q25 ?y25 (by assumption) ?r25; (case i25 => (simp only [List.getElem?_toArray, List.getElem?_cons_succ, List.getElem?_cons_zero]; rfl)); (case q25 => exact fun _ _ _ h => h); (case y25 => (refine Or.inl ⟨by rfl, ?_⟩; intro w hSw; (try dsimp only at hSw); go_simp; (try (with_reducible rfl))))) | (refine wpAnyH_take (i := 4) (oi := ?o26) (v := undef) ?i26 (by kernel_rfl) (by kernel_rfl) (by kernel_rfl) ?q26 ?y26 (by assumption) ?r26; (case i26 => (simp only [List.getElem?_toArray, List.getElem?_cons_succ, List.getElem?_cons_zero]; rfl)); (case q26 => exact fun _ _ _ h => h); (case y26 => exact Or.inr ⟨by rfl, rfl⟩))
          try simp only [Act.put, List.setIfInBounds_toArray, List.set_cons_zero, List.set_cons_succ]
          first | (refine wpAnyH_take (i := 5) (oi := ?o27) (v := ?v27) ?i27 (by kernel_rfl) (by kernel_rfl) (by kernel_rfl) ?q27 ?y27 (by assumption) ?r27; (case i27 => (simp only [List.getElem?_toArray, List.getElem?_cons_succ, List.getElem?_cons_zero]; rfl)); (case q27 => exact fun _ _ _ h => h); (case y27 => (refine Or.inl ⟨by rfl, ?_⟩; intro w hSw; (try dsimp only at hSw); go_simp; (try (with_reducible rfl))))) | (refine wpAnyH_take (i := 5) (oi := ?o28) (v := undef) ?i28 (by kernel_rfl) (by kernel_rfl) (by kernel_rfl) ?q28 ?y28 (by assumption) ?r28; (case i28 => (simp only [List.getElem?_toArray, List.getElem?_cons_succ, List.getElem?_cons_zero]; rfl)); (case q28 => exact fun _ _ _ h => h); (case y28 => exact Or.inr ⟨by rfl, rfl⟩))
          try simp only [Act.put, List.setIfInBounds_toArray, List.set_cons_zero, List.set_cons_succ]
          first | (refine wpAnyH_take (i := 6) (oi := ?o29) (v := ?v29) ?i29 (by kernel_rfl) (by kernel_rfl) (by kernel_rfl) ?q29 ?y29 (by assumption) ?r29; (case i29 => (simp only [List.getElem?_toArray, List.getElem?_cons_succ, List.getElem?_cons_zero]; rfl)); (case q29 => exact fun _ _ _ h => h); (case y29 => (refine Or.inl ⟨by rfl, ?_⟩; intro w hSw; (try dsimp only at hSw); go_simp; (try (with_reducible rfl))))) | (refine wpAnyH_take (i := 6) (oi := ?o30) (v := undef) ?i30 (by kernel_rfl) (by kernel_rfl) (by kernel_rfl) ?q30 ?y30 (by assumption) ?r30; (case i30 => (simp only [List.getElem?_toArray, List.getElem?_cons_succ, List.getElem?_cons_zero]; rfl)); (case q30 => exact fun _ _ _ h => h); (case y30 => exact Or.inr ⟨by rfl, rfl⟩))
          try simp only [Act.put, List.setIfInBounds_toArray, List.set_cons_zero, List.set_cons_succ]
          first | (refine wpAnyH_take (i := 7) (oi := ?o31) (v := ?v31) ?i31 (by kernel_rfl) (by kernel_rfl) (by kernel_rfl) ?q31 ?y31 (by assumption) ?r31; (case i31 => (simp only [List.getElem?_toArray, List.getElem?_cons_succ, List.getElem?_cons_zero]; rfl)); (case q31 => exact fun _ _ _ h => h); (case y31 => (refine Or.inl ⟨by rfl, ?_⟩; intro w hSw; (try dsimp only at hSw); go_simp; (try (with_reducible rfl))))) | (refine wpAnyH_take (i := 7) (oi := ?o32) (v := undef) ?i32 (by kernel_rfl) (by kernel_rfl) (by kernel_rfl) ?q32 ?y32 (by assumption) ?r32; (case i32 => (simp only [List.getElem?_toArray, List.getElem?_cons_succ, List.getElem?_cons_zero]; rfl)); (case q32 => exact fun _ _ _ h => h); (case y32 => exact Or.inr ⟨by rfl, rfl⟩))
          try simp only [Act.put, List.setIfInBounds_toArray, List.set_cons_zero, List.set_cons_succ]
          refine wpAnyH_ready (rs := [2, 8]) (by kernel_rfl) (by simp) ?_
          refine (AllReadyH.cons (by (simp only [List.getElem?_toArray, List.getElem?_cons_succ, List.getElem?_cons_zero]; rfl)) (fun K hK => ?_) (AllReadyH.cons (by (simp only [List.getElem?_toArray, List.getElem?_cons_succ, List.getElem?_cons_zero]; rfl)) (fun K hK => ?_) AllReadyH.nil))
          · (rw [if_pos (by rfl)]; refine wp_append_own (w := _) (.const (.slice none 0 0)) (.tmp 17) 72 rfl wr.heap.size TS i0 _ 2 16 Try.underlying72 hi0 hz0 hz1 hz2 rfl (by decide) _ 0 [] rfl (nil_own _ _) ⟨g, 1 * 2, none⟩ (n - 1) (c0 - 1) (flatS l) rfl HFL.out (HD1.out _ (by first | exact (Below.refl _ _).drew | exact below_alloc (Below.refl _ _).drew _)) (flatS_one _) (by simp only [maxLen]; omega) (by omega) (by first | exact Nat.le_refl _ | exact (below_alloc (Below.refl _ _).drew _).size) ?_; intro v1 w1 ho1 hg1 _; have HO1 := Lib.hid ho1; have HG1 := Lib.hid (show World.grownBy _ w1 none from hg1); have HB1 := Aside0.mk (show Below wr.heap.size wr w1 from by first | exact (Below.refl _ _).drew.grown hg1 (Nat.le_refl _) (fun _ h => by cases h) | exact (below_alloc (Below.refl _ _).drew _).grown hg1 (below_alloc (Below.refl _ _).drew _).size (fun _ h => by cases h)); clear ho1 hg1)
            (try dsimp only)
            refine hK.out _ _ ?_ (fun hHeld => ?_)
            · exact (HB1.out.cell (p := ⟨g, 0, none⟩) (blt HG.out)).trans g0
            clear hK K
            try simp only [Act.put, List.setIfInBounds_toArray, List.set_cons_zero, List.set_cons_succ]
            refine wpAnyH_ready (rs := [8]) (by kernel_rfl) (by simp) ?_
            refine (AllReadyH.cons (by (simp only [List.getElem?_toArray, List.getElem?_cons_succ, List.getElem?_cons_zero]; rfl)) (fun K hK => ?_) AllReadyH.nil)
            go_simp
            (try dsimp only)
            refine hK.out _ _ ?_ (fun hHeld => ?_)
            · exact (below_cell hHeld _)
            clear hK K
            try simp only [Act.put, List.setIfInBounds_toArray, List.set_cons_zero, List.set_cons_succ]
            refine wpAnyH_ready (rs := [9]) (by kernel_rfl) (by simp) ?_
            refine (AllReadyH.cons (by (simp only [List.getElem?_toArray, List.getElem?_cons_succ, List.getElem?_cons_zero]; rfl)) (fun K hK => ?_) AllReadyH.nil)
            (rw [if_pos (by rfl)]; refine wp_append_own (w := _) (.tmp 18) (.tmp 24) 72 rfl wr.heap.size TS i0 _ 2 16 Try.underlying72 hi0 hz0 hz1 hz2 rfl (by decide) _ _ _ rfl (by first | exact HO1.out | exact own_alloc HO1.out _) ⟨_, 0, none⟩ 1 1 (flatS [(so, false)]) rfl rfl (by first | exact sit_cells (blk_new _ _) | exact sit_cells ((HG1.out.block _ (by show _ < (wr.alloc _).heap.size; rw [size_alloc]; exact Nat.lt_succ_self _) (by simp)).trans (blk_new wr.drew _))) (flatS_one _) (by simp only [maxLen]; omega) (by omega) (by first | exact HB1.out.size | exact (below_alloc HB1.out _).size) ?_; intro v2 w2 ho2 hg2 _; have HO2 := Lib.hid ho2; have HB2 := Aside0.mk (show Below wr.heap.size wr w2 from Below.grown (by first | exact HB1.out | exact below_alloc HB1.out _) hg2 (by first | exact HB1.out.size | exact (below_alloc HB1.out _).size) (fun q hq => own_base HO1.out q hq)); clear ho2 hg2)
            (try dsimp only)
            refine hK.out _ _ ?_ (fun hHeld => ?_)
            · exact (HB2.out.cell (p := ⟨g, 0, none⟩) (blt HG.out)).trans g0
            clear hK K
            try simp only [Act.put, List.setIfInBounds_toArray, List.set_cons_zero, List.set_cons_succ]
            first | (refine wpAnyH_take (i := 10) (oi := ?o33) (v := ?v33) ?i33 (by kernel_rfl) (by kernel_rfl) (by kernel_rfl) ?q33 ?y33 (by assumption) ?r33; (case i33 => (simp only [List.getElem?_toArray, List.getElem?_cons_succ, List.getElem?_cons_zero]; rfl)); (case q33 => exact fun _ _ _ h => h); (case y33 => (refine Or.inl ⟨by rfl, ?_⟩; intro w hSw; (try dsimp only at hSw); go_simp; (try (with_reducible rfl))))) | (refine wpAnyH_take (i := 10) (oi := ?o34) (v := undef) ?i34 (by kernel_rfl) (by kernel_rfl) (by kernel_rfl) ?q34 ?y34 (by assumption) ?r34; (case i34 => (simp only [List.getElem?_toArray, List.getElem?_cons_succ, List.getElem?_cons_zero]; rfl)); (case q34 => exact fun _ _ _ h => h); (case y34 => exact Or.inr ⟨by rfl, rfl⟩))
            try simp only [Act.put, List.setIfInBounds_toArray, List.set_cons_zero, List.set_cons_succ]
            refine wpAnyH_done (by kernel_rfl) ?_ _
            go_wp2
            refine ⟨⟨k + 1, l ++ [(so, false)], by omega, by go_num, ?_⟩, by simp [intOf]; omega⟩
            have hsr := HFIN.out _ _ HO2.out
            have hlen2 : (l ++ [(so, false)]).length = n := by have := HYL.out; rw [List.length_append, List.length_singleton]; omega
            obtain ⟨A2, c2, hv2, _, _, _⟩ := hsr.cels
            rw [hlen2] at hv2
            refine ⟨hsr.lower (Nat.le_trans hbase HB.out.size), hlen2, ?_, HB.out.trans (HB2.out.mono HB.out.size), A2, c2, hv2⟩
            rw [← HEQ.out]
            obtain ⟨f, hf⟩ : ∃ f, n + 1 - k = f + 1 := ⟨n - k, by omega⟩
            rw [hf, show n + 1 - (k + 1) = f by omega]
            conv => rhs; unfold rvict
            rfl
          · go_simp
            (try dsimp only)
            refine hK.out _ _ ?_ (fun hHeld => ?_)
            · exact (below_cell hHeld _)
            clear hK K
            try simp only [Act.put, List.setIfInBounds_toArray, List.set_cons_zero, List.set_cons_succ]
            refine wpAnyH_ready (rs := [2]) (by kernel_rfl) (by simp) ?_
            refine (AllReadyH.cons (by (simp only [List.getElem?_toArray, List.getElem?_cons_succ, List.getElem?_cons_zero]; rfl)) (fun K hK => ?_) AllReadyH.nil)
            (rw [if_pos (by rfl)]; refine wp_append_own (w := _) (.const (.slice none 0 0)) (.tmp 17) 72 rfl wr.heap.size TS i0 _ 2 16 Try.underlying72 hi0 hz0 hz1 hz2 rfl (by decide) _ 0 [] rfl (nil_own _ _) ⟨g, 1 * 2, none⟩ (n - 1) (c0 - 1) (flatS l) rfl HFL.out (HD1.out _ (by first | exact (Below.refl _ _).drew | exact below_alloc (Below.refl _ _).drew _)) (flatS_one _) (by simp only [maxLen]; omega) (by omega) (by first | exact Nat.le_refl _ | exact (below_alloc (Below.refl _ _).drew _).size) ?_; intro v1 w1 ho1 hg1 _; have HO1 := Lib.hid ho1; have HG1 := Lib.hid (show World.grownBy _ w1 none from hg1); have HB1 := Aside0.mk (show Below wr.heap.size wr w1 from by first | exact (Below.refl _ _).drew.grown hg1 (Nat.le_refl _) (fun _ h => by cases h) | exact (below_alloc (Below.refl _ _).drew _).grown hg1 (below_alloc (Below.refl _ _).drew _).size (fun _ h => by cases h)); clear ho1 hg1)
            (try dsimp only)
            refine hK.out _ _ ?_ (fun hHeld => ?_)
            · exact (HB1.out.cell (p := ⟨g, 0, none⟩) (blt HG.out)).trans g0
            clear hK K
            try simp only [Act.put, List.setIfInBounds_toArray, List.set_cons_zero, List.set_cons_succ]
            refine wpAnyH_ready (rs := [9]) (by kernel_rfl) (by simp) ?_
            refine (AllReadyH.cons (by (simp only [List.getElem?_toArray, List.getElem?_cons_succ, List.getElem?_cons_zero]; rfl)) (fun K hK => ?_) AllReadyH.nil)
            (rw [if_pos (by rfl)]; refine wp_append_own (w := _) (.tmp 18) (.tmp 24) 72 rfl wr.heap.size TS i0 _ 2 16 Try.underlying72 hi0 hz0 hz1 hz2 rfl (by decide) _ _ _ rfl (by first | exact HO1.out | exact own_alloc HO1.out _) ⟨_, 0, none⟩ 1 1 (flatS [(so, false)]) rfl rfl (by first | exact sit_cells (blk_new _ _) | exact sit_cells ((HG1.out.block _ (by show _ < (wr.alloc _).heap.size; rw [size_alloc]; exact Nat.lt_succ_self _) (by simp)).trans (blk_new wr.drew _))) (flatS_one _) (by simp only [maxLen]; omega) (by omega) (by first | exact HB1.out.size | exact (below_alloc HB1.out _).size) ?_; intro v2 w2 ho2 hg2 _; have HO2 := Lib.hid ho2; have HB2 := Aside0.mk (show Below wr.heap.size wr w2 from Below.grown (by first | exact HB1.out | exact below_alloc HB1.out _) hg2 (by first | exact HB1.out.size | exact (below_alloc HB1.out _).size) (fun q hq => own_base HO1.out q hq)); clear ho2 hg2)
            (try dsimp only)
            refine hK.out _ _ ?_ (fun hHeld => ?_)
            · exact (HB2.out.cell (p := ⟨g, 0, none⟩) (blt HG.out)).trans g0
            clear hK K
            try simp only [Act.put, List.setIfInBounds_toArray, List.set_cons_zero, List.set_cons_succ]
            first | (refine wpAnyH_take (i := 10) (oi := ?o35) (v := ?v35) ?i35 (by kernel_rfl) (by kernel_rfl) (by kernel_rfl) ?q35 ?y35 (by assumption) ?r35; (case i35 => (simp only [List.getElem?_toArray, List.getElem?_cons_succ, List.getElem?_cons_zero]; rfl)); (case q35 => exact fun _ _ _ h => h); (case y35 => (refine Or.inl ⟨by rfl, ?_⟩; intro w hSw; (try dsimp only at hSw); go_simp; (try (with_reducible rfl))))) | (refine wpAnyH_take (i := 10) (oi := ?o36) (v := undef) ?i36 (by kernel_rfl) (by kernel_rfl) (by kernel_rfl) ?q36 ?y36 (by assumption) ?r36; (case i36 => (simp only [List.getElem?_toArray, List.getElem?_cons_succ, List.getElem?_cons_zero]; rfl)); (case q36 => exact fun _ _ _ h => h); (case y36 => exact Or.inr ⟨by rfl, rfl⟩))
            try simp only [Act.put, List.setIfInBounds_toArray, List.set_cons_zero, List.set_cons_succ]
            refine wpAnyH_done (by kernel_rfl) ?_ _
            go_wp2
            refine ⟨⟨k + 1, l ++ [(so, false)], by omega, by go_num, ?_⟩, by simp [intOf]; omega⟩
            have hsr := HFIN.out _ _ HO2.out
            have hlen2 : (l ++ [(so, false)]).length = n := by have := HYL.out; rw [List.length_append, List.length_singleton]; omega
            obtain ⟨A2, c2, hv2, _, _, _⟩ := hsr.cels
            rw [hlen2] at hv2
            refine ⟨hsr.lower (Nat.le_trans hbase HB.out.size), hlen2, ?_, HB.out.trans (HB2.out.mono HB.out.size), A2, c2, hv2⟩
            rw [← HEQ.out]
            obtain ⟨f, hf⟩ : ∃ f, n + 1 - k = f + 1 := ⟨n - k, by omega⟩
            rw [hf, show n + 1 - (k + 1) = f by omega]
            conv => rhs; unfold rvict
            rfl
    · obtain rfl : k = n + 1 := by omega
      have kk : ¬ (((n + 1 : Nat) : Int) ≤ (n : Int)) := by omega
      go_wp2
      go_ret2
      refine ⟨(so, sm), l, _, ?_, rfl, HR.out, HB.out, HYL.out⟩
      rw [← HEQ.out, Nat.sub_self]
      rfl
end
end Go.Proofs.Ytkbialmlddhclaa.Ck
