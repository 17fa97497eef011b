/- The parts of this proof, one after the other (wip/tools/packfl.py). -/
import Derived.Test.YtkmanjfmffdcbaaPkCrashWithinB
import Derived.Deep.QuietTactic
import Derived.BigQuiet
/- The law's own words within and alike: walked. No condition. -/
namespace Go.Proofs.Ytkmanjfmffdcbaa.Fl
open Go.RowKit Go.Proofs.YtkmanjfmffdcbaaW.PrintWords Go.Proofs.YtkmanjfmffdcbaaW.PrintMore Go.Maps
set_option linter.unusedSimpArgs false
set_option linter.unusedVariables false
theorem readP_len {n : Nat} {a b : Int} {qs : List Pg} (h : ∀ q ∈ qs, q.2.1.length = n) : (readP n a b qs).length = n := by
  unfold readP
  cases hf : qs.find? (atB a b) with
  | none => exact fullT_length _ _
  | some p => exact h p (List.mem_of_find?_eq_some hf)
theorem all_true {α : Type} {l : List α} {f : α → Bool} {n : Nat} (hn : n = l.length) (h : ∀ j p, j < n → l[j]? = some p → f p = true) : l.all f = true := by
  rw [List.all_eq_true]
  intro p hp
  obtain ⟨j, hj, e⟩ := List.getElem_of_mem hp
  exact h j p (by omega) (by rw [← e, List.getElem?_eq_getElem hj])
theorem all_false {α : Type} {l : List α} {f : α → Bool} {k : Nat} {p : α} (hp : l[k]? = some p) (h : f p = false) : l.all f = false := by
  cases hh : l.all f with
  | false => rfl
  | true =>
    rw [List.all_eq_true] at hh
    rw [hh p (List.mem_of_getElem? hp)] at h
    cases h
theorem all_step {α : Type} {l : List α} {f : α → Bool} {k : Nat} {p : α} (hp : l[k]? = some p) (h : f p = true) (hpre : ∀ j p, j < k → l[j]? = some p → f p = true) : ∀ j p, j < k + 1 → l[j]? = some p → f p = true := fun j q hj hq => by
  rcases Nat.lt_or_ge j k with h2 | h2
  · exact hpre j q h2 hq
  · obtain rfl : j = k := by omega
    rw [hp] at hq
    rw [← Option.some.inj hq]
    exact h
section
variable {N0 N1 x y : Nat} {s : Int × Int × Int} {ps qs : List Pg} {okX okY : Nat → Prop} {w : World}
set_option maxHeartbeats 2000000 in
set_option maxRecDepth 100000 in
theorem alike_any (hX : RefIs N0 x s ps okX w) (hY : RefIs N1 y s qs okY w) (hs : ShapeOk s) (hl : ps.length < 1000000) (hl2 : qs.length < 1000000) (hp : ∀ q ∈ ps, q.2.1.length = s.2.2.toNat) (hq : ∀ q ∈ qs, q.2.1.length = s.2.2.toNat) :
    Calls Try.prog 53 #[.pointer (some ⟨x, 0, none⟩), .pointer (some ⟨y, 0, none⟩)] w fun e w' => e = .returned (.bool (alikeP s ps qs)) ∧ Below w.heap.size w w' := by
  obtain ⟨A, c, hx, hrow, hR⟩ := ref_open hX
  obtain ⟨n, hn⟩ : ∃ n, n = ps.length := ⟨_, rfl⟩
  rw [← hn] at hx hrow hl
  have k3 : w.cell? ⟨x, 3, none⟩ = some (.slice A n c) := bcell hx 3
  have hfd := fun (X : World) (hX : Below w.heap.size w X) (a b : Int) => RFind_any (hY.below hX) hl2 a b
  have hrd := fun (X : World) (hX : Below w.heap.size w X) (a b : Int) => RRead_any (hY.below hX) hs hl2 a b
  have hml := fun (a b : Int) => readP_len (a := a) (b := b) hq
  have hm1 := hs.c0
  have hm2 := hs.c1
  have HN := Lib.hid hn
  have HROW := Lib.hid hrow
  have HFD := Lib.hid hfd
  have HRD := Lib.hid hrd
  have HML := Lib.hid hml
  have HPL := Lib.hid hp
  have HM1 := Lib.hid hm1
  have HM2 := Lib.hid hm2
  have HQL := Lib.hid hl2
  clear hx hrow hR hn hfd hrd hml hp hq hX hY hs hm1 hm2 hl2
  obtain ⟨f, hf⟩ : ∃ f : Pg → Bool, f = fun p => !(decide (0 ≤ findI p.1.1 p.1.2 qs) && !decide (p.2.1 = readP s.2.2.toNat p.1.1 p.1.2 qs)) := ⟨_, rfl⟩
  have hall : alikeP s ps qs = ps.all f := by rw [hf]; rfl
  have HF := Lib.hid hf
  have HALL := Lib.hid hall
  clear hf hall
  go_enter Try.func53, Try.ntmps53
  go_wp2
  go_loopw [12] (fun v12 wr => ∃ k : Nat, k ≤ n ∧ v12 = .int .i64 (k : Int) ∧ Below w.heap.size w wr ∧ ∀ j p, j < k → ps[j]? = some p → f p = true) (fun v12 _ => n - (intOf v12).toNat)
  case atStart => exact ⟨0, Nat.zero_le _, rfl, Below.refl _ _, fun j p hj => by omega⟩
  case round =>
    obtain ⟨k, hk, rfl, hb, hpre⟩ := hrel
    have HB := Aside0.mk hb
    have HPRE := Lib.hid hpre
    clear hb hpre k3
    by_cases hlt : k < n
    · obtain ⟨q, hq⟩ : ∃ q, ps[k]? = some q := ⟨_, List.getElem?_eq_getElem (by have := HN.out; omega)⟩
      obtain ⟨g, rfl, _, _, hrow⟩ := HROW.out (by omega)
      obtain ⟨A1, c1, hc⟩ := (hrow.below HB.out).cell hq
      have d0 := hc.c0; have d1 := hc.c1; have d2 := hc.c2; have d3 := hc.c3
      obtain ⟨A5, c5, e5, _, hC⟩ := hc.row.reads
      injection e5 with e5 e6 e7
      subst e5 e7
      have hql := HPL.out q (List.mem_of_getElem? hq)
      have k0 : (0 : Int) ≤ (k : Int) := by omega
      have k2 : (k : Int) < (n : Int) := by omega
      obtain ⟨⟨pa, pb⟩, pl, px⟩ := q
      simp only at d0 d1 d2 d3 hql hC
      obtain ⟨V, hV⟩ : ∃ V, V = wr.alloc (.cells #[.int .i64 pa, .int .i64 pb, .slice A1 pl.length c1, .bool px] TP) := ⟨_, rfl⟩
      have y0 : V.heap[wr.heap.size]? = some (.cells #[.int .i64 pa, .int .i64 pb, .slice A1 pl.length c1, .bool px] TP (0, 0)) := by rw [hV]; exact blk_new wr _
      have yb : Below wr.heap.size wr V := by rw [hV]; exact below_alloc (Below.refl _ _) _
      have hbox : ∀ X : World, Below V.heap.size V X → X.cell? ⟨wr.heap.size, 0, none⟩ = some (.int .i64 pa) ∧ X.cell? ⟨wr.heap.size, 1, none⟩ = some (.int .i64 pb) ∧ X.cell? ⟨wr.heap.size, 2, none⟩ = some (.slice A1 pl.length c1) := fun X hX => by
        have := (hX.block wr.heap.size (blt y0)).trans y0
        exact ⟨bcell this 0, bcell this 1, bcell this 2⟩
      have vb : Below w.heap.size w V := HB.out.trans (yb.mono HB.out.size)
      have hfp : f ((pa, pb), pl, px) = !(decide (0 ≤ findI pa pb qs) && !decide (pl = readP s.2.2.toNat pa pb qs)) := by rw [HF.out]
      obtain ⟨F, hF⟩ : ∃ F, F = findI pa pb qs := ⟨_, rfl⟩
      obtain ⟨R, hRR⟩ : ∃ R, R = readP s.2.2.toNat pa pb qs := ⟨_, rfl⟩
      have hfind := HFD.out V.drew vb.drew pa pb
      have hread := fun (X : World) (hX : Below V.heap.size V X) => HRD.out X (vb.trans (hX.mono vb.size)) pa pb
      have hrl := HML.out pa pb
      rw [← hF] at hfind hfp
      rw [← hRR] at hread hrl hfp
      obtain ⟨y1, y2, y3⟩ := hbox V.drew ((Below.refl _ V).drew)
      have hFl : -1 ≤ F ∧ F < 2000000 := by
        rw [hF, findI]
        rcases idxI_cases (atB pa pb) qs with h | ⟨i, a, h, hi⟩ <;> rw [h]
        · omega
        · have := (List.getElem?_eq_some_iff.1 hi).1
          have := HQL.out
          omega
      have HV := Lib.hid hV
      have VB := Aside0.mk vb
      have HBOX := Lib.hid hbox
      have HFIND := Lib.hid hfind
      have HREAD := Lib.hid hread
      have HFP := Lib.hid hfp
      have HQ := Lib.hid hq
      have HC := Aside0.mk (Kd.C_below hC yb)
      have HL1 := Lib.hid (show pl.length < 1000000 by have := HM2.out; omega)
      have HL2 := Lib.hid (show R.length < 1000000 by have := HM2.out; omega)
      clear hc hrow hC hql hV y0 yb hbox vb hfp hF hRR hfind hread hrl hq
      by_cases h0 : 0 ≤ F
      · have e1 : decide (0 ≤ F) = true := by simpa using h0
        cases hpr : decide (pl = R) with
        | true =>
          have HT := Lib.hid (show f ((pa, pb), pl, px) = true by rw [HFP.out, e1, hpr]; rfl)
          have HPR := Lib.hid hpr
          clear hpr
          go_wp2_with fail
          rw [← HV.out]
          go_region_held3 (fun w' => w'.cell? ⟨wr.heap.size, 0, none⟩ = some (.int .i64 pa) ∧ w'.cell? ⟨wr.heap.size, 1, none⟩ = some (.int .i64 pb) ∧ w'.cell? ⟨wr.heap.size, 2, none⟩ = some (.slice A1 pl.length c1)) (first | go_keep | exact HBOX.out _ HB3.out | exact HBOX.out _ HB2.out | exact HBOX.out _ HB1.out)
            (first
              | (go_at_call 48; (with_reducible refine HFIND.out.mono ?_); rintro e w1 ⟨rfl, hb⟩; have HB1 := Aside0.mk (undrew hb); clear hb)
              | (go_at_call 49; (with_reducible refine (HREAD.out _ HB1.out).mono ?_); rintro e w2 ⟨v2, rfl, hr, hb⟩; obtain ⟨A2, c2, rfl, _, hC2⟩ := hr.reads; have HB2 := Aside0.mk (HB1.out.trans (hb.mono HB1.out.size)); have HC2 := Aside0.mk hC2; clear hb hr hC2)
              | (go_at_call 19; (with_reducible refine (Bytes_any (Kd.C_below HC.out HB2.out) HC2.out HL1.out HL2.out).mono ?_); rw [HPR.out]; rintro e w3 ⟨rfl, hb⟩; have HB3 := Aside0.mk (HB2.out.trans (hb.mono HB2.out.size)); clear hb)
              | fail)
          clear y1 y2 y3
          go_wp2
          exact ⟨⟨k + 1, by omega, by go_num, VB.out.trans (HB3.out.mono VB.out.size), all_step HQ.out HT.out HPRE.out⟩, by simp [intOf]; omega⟩
        | false =>
          have HT := Lib.hid (show f ((pa, pb), pl, px) = false by rw [HFP.out, e1, hpr]; rfl)
          have HPR := Lib.hid hpr
          clear hpr
          go_wp2_with fail
          rw [← HV.out]
          go_region_held3 (fun w' => w'.cell? ⟨wr.heap.size, 0, none⟩ = some (.int .i64 pa) ∧ w'.cell? ⟨wr.heap.size, 1, none⟩ = some (.int .i64 pb) ∧ w'.cell? ⟨wr.heap.size, 2, none⟩ = some (.slice A1 pl.length c1)) (first | go_keep | exact HBOX.out _ HB3.out | exact HBOX.out _ HB2.out | exact HBOX.out _ HB1.out)
            (first
              | (go_at_call 48; (with_reducible refine HFIND.out.mono ?_); rintro e w1 ⟨rfl, hb⟩; have HB1 := Aside0.mk (undrew hb); clear hb)
              | (go_at_call 49; (with_reducible refine (HREAD.out _ HB1.out).mono ?_); rintro e w2 ⟨v2, rfl, hr, hb⟩; obtain ⟨A2, c2, rfl, _, hC2⟩ := hr.reads; have HB2 := Aside0.mk (HB1.out.trans (hb.mono HB1.out.size)); have HC2 := Aside0.mk hC2; clear hb hr hC2)
              | (go_at_call 19; (with_reducible refine (Bytes_any (Kd.C_below HC.out HB2.out) HC2.out HL1.out HL2.out).mono ?_); rw [HPR.out]; rintro e w3 ⟨rfl, hb⟩; have HB3 := Aside0.mk (HB2.out.trans (hb.mono HB2.out.size)); clear hb)
              | fail)
          clear y1 y2 y3
          go_wp2
          go_ret
          exact ⟨by rw [HALL.out, all_false HQ.out HT.out]; rfl, VB.out.trans (HB3.out.mono VB.out.size)⟩
      · have e1 : decide (0 ≤ F) = false := by simpa using h0
        have HT := Lib.hid (show f ((pa, pb), pl, px) = true by rw [HFP.out, e1]; rfl)
        go_wp2_with fail
        rw [← HV.out]
        refine wp_region_held_drew (S := (fun w' => w'.cell? ⟨wr.heap.size, 0, none⟩ = some (.int .i64 pa) ∧ w'.cell? ⟨wr.heap.size, 1, none⟩ = some (.int .i64 pb) ∧ w'.cell? ⟨wr.heap.size, 2, none⟩ = some (.slice A1 pl.length c1))) (by kernel_rfl) ?_ (fun hHeld => ?_)
        · first | exact HBOX.out _ HB1.out | go_keep
        first | (refine wpAnyH_take (i := 0) (oi := ?o1) (v := ?v1) ?i1 (by kernel_rfl) (by kernel_rfl) (by kernel_rfl) ?q1 ?y1 (by assumption) ?r1; (case i1 => (simp only [List.getElem?_toArray, List.getElem?_cons_succ, List.getElem?_cons_zero]; rfl)); (case q1 => exact fun _ _ _ h => h); (case y1 => (refine Or.inl ⟨by rfl, ?_⟩; intro w hSw; (try dsimp only at hSw); go_simp; (try (with_reducible rfl))))) | (refine wpAnyH_take (i := 0) (oi := ?o2) (v := undef) ?i2 (by kernel_rfl) (by kernel_rfl) (by kernel_rfl) ?q2 ?y2 (by assumption) ?r2; (case i2 => (simp only [List.getElem?_toArray, List.getElem?_cons_succ, List.getElem?_cons_zero]; rfl)); (case q2 => exact fun _ _ _ h => h); (case y2 => exact Or.inr ⟨by rfl, rfl⟩))
        try simp only [Act.put, List.setIfInBounds_toArray, List.set_cons_zero, List.set_cons_succ]
        first | (refine wpAnyH_take (i := 1) (oi := ?o3) (v := ?v3) ?i3 (by kernel_rfl) (by kernel_rfl) (by kernel_rfl) ?q3 ?y3 (by assumption) ?r3; (case i3 => (simp only [List.getElem?_toArray, List.getElem?_cons_succ, List.getElem?_cons_zero]; rfl)); (case q3 => exact fun _ _ _ h => h); (case y3 => (refine Or.inl ⟨by rfl, ?_⟩; intro w hSw; (try dsimp only at hSw); go_simp; (try (with_reducible rfl))))) | (refine wpAnyH_take (i := 1) (oi := ?o4) (v := undef) ?i4 (by kernel_rfl) (by kernel_rfl) (by kernel_rfl) ?q4 ?y4 (by assumption) ?r4; (case i4 => (simp only [List.getElem?_toArray, List.getElem?_cons_succ, List.getElem?_cons_zero]; rfl)); (case q4 => exact fun _ _ _ h => h); (case y4 => exact Or.inr ⟨by rfl, rfl⟩))
        try simp only [Act.put, List.setIfInBounds_toArray, List.set_cons_zero, List.set_cons_succ]
        first | (refine wpAnyH_take (i := 2) (oi := ?o5) (v := ?v5) ?i5 (by kernel_rfl) (by kernel_rfl) (by kernel_rfl) ?q5 ?y5 (by assumption) ?r5; (case i5 => (simp only [List.getElem?_toArray, List.getElem?_cons_succ, List.getElem?_cons_zero]; rfl)); (case q5 => exact fun _ _ _ h => h); (case y5 => (refine Or.inl ⟨by rfl, ?_⟩; intro w hSw; (try dsimp only at hSw); go_simp; (try (with_reducible rfl))))) | (refine wpAnyH_take (i := 2) (oi := ?o6) (v := undef) ?i6 (by kernel_rfl) (by kernel_rfl) (by kernel_rfl) ?q6 ?y6 (by assumption) ?r6; (case i6 => (simp only [List.getElem?_toArray, List.getElem?_cons_succ, List.getElem?_cons_zero]; rfl)); (case q6 => exact fun _ _ _ h => h); (case y6 => exact Or.inr ⟨by rfl, rfl⟩))
        try simp only [Act.put, List.setIfInBounds_toArray, List.set_cons_zero, List.set_cons_succ]
        first | (refine wpAnyH_take (i := 3) (oi := ?o7) (v := ?v7) ?i7 (by kernel_rfl) (by kernel_rfl) (by kernel_rfl) ?q7 ?y7 (by assumption) ?r7; (case i7 => (simp only [List.getElem?_toArray, List.getElem?_cons_succ, List.getElem?_cons_zero]; rfl)); (case q7 => exact fun _ _ _ h => h); (case y7 => (refine Or.inl ⟨by rfl, ?_⟩; intro w hSw; (try dsimp only at hSw); go_simp; (try (with_reducible rfl))))) | (refine wpAnyH_take (i := 3) (oi := ?o8) (v := undef) ?i8 (by kernel_rfl) (by kernel_rfl) (by kernel_rfl) ?q8 ?y8 (by assumption) ?r8; (case i8 => (simp only [List.getElem?_toArray, List.getElem?_cons_succ, List.getElem?_cons_zero]; rfl)); (case q8 => exact fun _ _ _ h => h); (case y8 => exact Or.inr ⟨by rfl, rfl⟩))
        try simp only [Act.put, List.setIfInBounds_toArray, List.set_cons_zero, List.set_cons_succ]
        first | (refine wpAnyH_take (i := 4) (oi := ?o9) (v := ?v9) ?i9 (by kernel_rfl) (by kernel_rfl) (by kernel_rfl) ?q9 ?y9 (by assumption) ?r9; (case i9 => (simp only [List.getElem?_toArray, List.getElem?_cons_succ, List.getElem?_cons_zero]; rfl)); (case q9 => exact fun _ _ _ h => h); (case y9 => (refine Or.inl ⟨by rfl, ?_⟩; intro w hSw; (try dsimp only at hSw); go_simp; (try (with_reducible rfl))))) | (refine wpAnyH_take (i := 4) (oi := ?o10) (v := undef) ?i10 (by kernel_rfl) (by kernel_rfl) (by kernel_rfl) ?q10 ?y10 (by assumption) ?r10; (case i10 => (simp only [List.getElem?_toArray, List.getElem?_cons_succ, List.getElem?_cons_zero]; rfl)); (case q10 => exact fun _ _ _ h => h); (case y10 => exact Or.inr ⟨by rfl, rfl⟩))
        try simp only [Act.put, List.setIfInBounds_toArray, List.set_cons_zero, List.set_cons_succ]
        first | (refine wpAnyH_take (i := 5) (oi := ?o11) (v := ?v11) ?i11 (by kernel_rfl) (by kernel_rfl) (by kernel_rfl) ?q11 ?y11 (by assumption) ?r11; (case i11 => (simp only [List.getElem?_toArray, List.getElem?_cons_succ, List.getElem?_cons_zero]; rfl)); (case q11 => exact fun _ _ _ h => h); (case y11 => (refine Or.inl ⟨by rfl, ?_⟩; intro w hSw; (try dsimp only at hSw); go_simp; (try (with_reducible rfl))))) | (refine wpAnyH_take (i := 5) (oi := ?o12) (v := undef) ?i12 (by kernel_rfl) (by kernel_rfl) (by kernel_rfl) ?q12 ?y12 (by assumption) ?r12; (case i12 => (simp only [List.getElem?_toArray, List.getElem?_cons_succ, List.getElem?_cons_zero]; rfl)); (case q12 => exact fun _ _ _ h => h); (case y12 => exact Or.inr ⟨by rfl, rfl⟩))
        try simp only [Act.put, List.setIfInBounds_toArray, List.set_cons_zero, List.set_cons_succ]
        first | (refine wpAnyH_take (i := 6) (oi := ?o13) (v := ?v13) ?i13 (by kernel_rfl) (by kernel_rfl) (by kernel_rfl) ?q13 ?y13 (by assumption) ?r13; (case i13 => (simp only [List.getElem?_toArray, List.getElem?_cons_succ, List.getElem?_cons_zero]; rfl)); (case q13 => exact fun _ _ _ h => h); (case y13 => (refine Or.inl ⟨by rfl, ?_⟩; intro w hSw; (try dsimp only at hSw); go_simp; (try (with_reducible rfl))))) | (refine wpAnyH_take (i := 6) (oi := ?o14) (v := undef) ?i14 (by kernel_rfl) (by kernel_rfl) (by kernel_rfl) ?q14 ?y14 (by assumption) ?r14; (case i14 => (simp only [List.getElem?_toArray, List.getElem?_cons_succ, List.getElem?_cons_zero]; rfl)); (case q14 => exact fun _ _ _ h => h); (case y14 => exact Or.inr ⟨by rfl, rfl⟩))
        try simp only [Act.put, List.setIfInBounds_toArray, List.set_cons_zero, List.set_cons_succ]
        refine wpAnyH_ready (rs := [7]) (by kernel_rfl) (by simp) ?_
        refine AllReadyH.cons (by (simp only [List.getElem?_toArray, List.getElem?_cons_succ, List.getElem?_cons_zero]; rfl)) (fun K hK => ?_) AllReadyH.nil
        go_simp
        (go_at_call 48; (with_reducible refine HFIND.out.mono ?_); rintro e w1 ⟨rfl, hb⟩; have HB1 := Aside0.mk (undrew hb); clear hb)
        (try dsimp only)
        refine hK.out _ _ ?_ (fun hHeld => ?_)
        · first | exact HBOX.out _ HB1.out | go_keep
        clear hK K
        try simp only [Act.put, List.setIfInBounds_toArray, List.set_cons_zero, List.set_cons_succ]
        first | (refine wpAnyH_take (i := 8) (oi := ?o15) (v := ?v15) ?i15 (by kernel_rfl) (by kernel_rfl) (by kernel_rfl) ?q15 ?y15 (by assumption) ?r15; (case i15 => (simp only [List.getElem?_toArray, List.getElem?_cons_succ, List.getElem?_cons_zero]; rfl)); (case q15 => exact fun _ _ _ h => h); (case y15 => (refine Or.inl ⟨by rfl, ?_⟩; intro w hSw; (try dsimp only at hSw); go_simp; (try (with_reducible rfl))))) | (refine wpAnyH_take (i := 8) (oi := ?o16) (v := undef) ?i16 (by kernel_rfl) (by kernel_rfl) (by kernel_rfl) ?q16 ?y16 (by assumption) ?r16; (case i16 => (simp only [List.getElem?_toArray, List.getElem?_cons_succ, List.getElem?_cons_zero]; rfl)); (case q16 => exact fun _ _ _ h => h); (case y16 => exact Or.inr ⟨by rfl, rfl⟩))
        try simp only [Act.put, List.setIfInBounds_toArray, List.set_cons_zero, List.set_cons_succ]
        first | (refine wpAnyH_take (i := 9) (oi := ?o17) (v := ?v17) ?i17 (by kernel_rfl) (by kernel_rfl) (by kernel_rfl) ?q17 ?y17 (by assumption) ?r17; (case i17 => (simp only [List.getElem?_toArray, List.getElem?_cons_succ, List.getElem?_cons_zero]; rfl)); (case q17 => exact fun _ _ _ h => h); (case y17 => (refine Or.inl ⟨by rfl, ?_⟩; intro w hSw; (try dsimp only at hSw); go_simp; (try (with_reducible rfl))))) | (refine wpAnyH_take (i := 9) (oi := ?o18) (v := undef) ?i18 (by kernel_rfl) (by kernel_rfl) (by kernel_rfl) ?q18 ?y18 (by assumption) ?r18; (case i18 => (simp only [List.getElem?_toArray, List.getElem?_cons_succ, List.getElem?_cons_zero]; rfl)); (case q18 => exact fun _ _ _ h => h); (case y18 => exact Or.inr ⟨by rfl, rfl⟩))
        try simp only [Act.put, List.setIfInBounds_toArray, List.set_cons_zero, List.set_cons_succ]
        first | (refine wpAnyH_take (i := 10) (oi := ?o19) (v := ?v19) ?i19 (by kernel_rfl) (by kernel_rfl) (by kernel_rfl) ?q19 ?y19 (by assumption) ?r19; (case i19 => (simp only [List.getElem?_toArray, List.getElem?_cons_succ, List.getElem?_cons_zero]; rfl)); (case q19 => exact fun _ _ _ h => h); (case y19 => (refine Or.inl ⟨by rfl, ?_⟩; intro w hSw; (try dsimp only at hSw); go_simp; (try (with_reducible rfl))))) | (refine wpAnyH_take (i := 10) (oi := ?o20) (v := undef) ?i20 (by kernel_rfl) (by kernel_rfl) (by kernel_rfl) ?q20 ?y20 (by assumption) ?r20; (case i20 => (simp only [List.getElem?_toArray, List.getElem?_cons_succ, List.getElem?_cons_zero]; rfl)); (case q20 => exact fun _ _ _ h => h); (case y20 => exact Or.inr ⟨by rfl, rfl⟩))
        try simp only [Act.put, List.setIfInBounds_toArray, List.set_cons_zero, List.set_cons_succ]
        first | (refine wpAnyH_take (i := 11) (oi := ?o21) (v := ?v21) ?i21 (by kernel_rfl) (by kernel_rfl) (by kernel_rfl) ?q21 ?y21 (by assumption) ?r21; (case i21 => (simp only [List.getElem?_toArray, List.getElem?_cons_succ, List.getElem?_cons_zero]; rfl)); (case q21 => exact fun _ _ _ h => h); (case y21 => (refine Or.inl ⟨by rfl, ?_⟩; intro w hSw; (try dsimp only at hSw); go_simp; (try (with_reducible rfl))))) | (refine wpAnyH_take (i := 11) (oi := ?o22) (v := undef) ?i22 (by kernel_rfl) (by kernel_rfl) (by kernel_rfl) ?q22 ?y22 (by assumption) ?r22; (case i22 => (simp only [List.getElem?_toArray, List.getElem?_cons_succ, List.getElem?_cons_zero]; rfl)); (case q22 => exact fun _ _ _ h => h); (case y22 => exact Or.inr ⟨by rfl, rfl⟩))
        try simp only [Act.put, List.setIfInBounds_toArray, List.set_cons_zero, List.set_cons_succ]
        first | (refine wpAnyH_take (i := 12) (oi := ?o23) (v := ?v23) ?i23 (by kernel_rfl) (by kernel_rfl) (by kernel_rfl) ?q23 ?y23 (by assumption) ?r23; (case i23 => (simp only [List.getElem?_toArray, List.getElem?_cons_succ, List.getElem?_cons_zero]; rfl)); (case q23 => exact fun _ _ _ h => h); (case y23 => (refine Or.inl ⟨by rfl, ?_⟩; intro w hSw; (try dsimp only at hSw); go_simp; (try (with_reducible rfl))))) | (refine wpAnyH_take (i := 12) (oi := ?o24) (v := undef) ?i24 (by kernel_rfl) (by kernel_rfl) (by kernel_rfl) ?q24 ?y24 (by assumption) ?r24; (case i24 => (simp only [List.getElem?_toArray, List.getElem?_cons_succ, List.getElem?_cons_zero]; rfl)); (case q24 => exact fun _ _ _ h => h); (case y24 => exact Or.inr ⟨by rfl, rfl⟩))
        try simp only [Act.put, List.setIfInBounds_toArray, List.set_cons_zero, List.set_cons_succ]
        first | (refine wpAnyH_take (i := 13) (oi := ?o25) (v := ?v25) ?i25 (by kernel_rfl) (by kernel_rfl) (by kernel_rfl) ?q25 ?y25 (by assumption) ?r25; (case i25 => (simp only [List.getElem?_toArray, List.getElem?_cons_succ, List.getElem?_cons_zero]; rfl)); (case q25 => exact fun _ _ _ h => h); (case y25 => (refine Or.inl ⟨by rfl, ?_⟩; intro w hSw; (try dsimp only at hSw); go_simp; (try (with_reducible rfl))))) | (refine wpAnyH_take (i := 13) (oi := ?o26) (v := undef) ?i26 (by kernel_rfl) (by kernel_rfl) (by kernel_rfl) ?q26 ?y26 (by assumption) ?r26; (case i26 => (simp only [List.getElem?_toArray, List.getElem?_cons_succ, List.getElem?_cons_zero]; rfl)); (case q26 => exact fun _ _ _ h => h); (case y26 => exact Or.inr ⟨by rfl, rfl⟩))
        try simp only [Act.put, List.setIfInBounds_toArray, List.set_cons_zero, List.set_cons_succ]
        first | (refine wpAnyH_take (i := 14) (oi := ?o27) (v := ?v27) ?i27 (by kernel_rfl) (by kernel_rfl) (by kernel_rfl) ?q27 ?y27 (by assumption) ?r27; (case i27 => (simp only [List.getElem?_toArray, List.getElem?_cons_succ, List.getElem?_cons_zero]; rfl)); (case q27 => exact fun _ _ _ h => h); (case y27 => (refine Or.inl ⟨by rfl, ?_⟩; intro w hSw; (try dsimp only at hSw); go_simp; (try (with_reducible rfl))))) | (refine wpAnyH_take (i := 14) (oi := ?o28) (v := undef) ?i28 (by kernel_rfl) (by kernel_rfl) (by kernel_rfl) ?q28 ?y28 (by assumption) ?r28; (case i28 => (simp only [List.getElem?_toArray, List.getElem?_cons_succ, List.getElem?_cons_zero]; rfl)); (case q28 => exact fun _ _ _ h => h); (case y28 => exact Or.inr ⟨by rfl, rfl⟩))
        try simp only [Act.put, List.setIfInBounds_toArray, List.set_cons_zero, List.set_cons_succ]
        first | (refine wpAnyH_take (i := 15) (oi := ?o29) (v := ?v29) ?i29 (by kernel_rfl) (by kernel_rfl) (by kernel_rfl) ?q29 ?y29 (by assumption) ?r29; (case i29 => (simp only [List.getElem?_toArray, List.getElem?_cons_succ, List.getElem?_cons_zero]; rfl)); (case q29 => exact fun _ _ _ h => h); (case y29 => (refine Or.inl ⟨by rfl, ?_⟩; intro w hSw; (try dsimp only at hSw); go_simp; (try (with_reducible rfl))))) | (refine wpAnyH_take (i := 15) (oi := ?o30) (v := undef) ?i30 (by kernel_rfl) (by kernel_rfl) (by kernel_rfl) ?q30 ?y30 (by assumption) ?r30; (case i30 => (simp only [List.getElem?_toArray, List.getElem?_cons_succ, List.getElem?_cons_zero]; rfl)); (case q30 => exact fun _ _ _ h => h); (case y30 => exact Or.inr ⟨by rfl, rfl⟩))
        try simp only [Act.put, List.setIfInBounds_toArray, List.set_cons_zero, List.set_cons_succ]
        first | (refine wpAnyH_take (i := 16) (oi := ?o31) (v := ?v31) ?i31 (by kernel_rfl) (by kernel_rfl) (by kernel_rfl) ?q31 ?y31 (by assumption) ?r31; (case i31 => (simp only [List.getElem?_toArray, List.getElem?_cons_succ, List.getElem?_cons_zero]; rfl)); (case q31 => exact fun _ _ _ h => h); (case y31 => (refine Or.inl ⟨by rfl, ?_⟩; intro w hSw; (try dsimp only at hSw); go_simp; (try (with_reducible rfl))))) | (refine wpAnyH_take (i := 16) (oi := ?o32) (v := undef) ?i32 (by kernel_rfl) (by kernel_rfl) (by kernel_rfl) ?q32 ?y32 (by assumption) ?r32; (case i32 => (simp only [List.getElem?_toArray, List.getElem?_cons_succ, List.getElem?_cons_zero]; rfl)); (case q32 => exact fun _ _ _ h => h); (case y32 => exact Or.inr ⟨by rfl, rfl⟩))
        try simp only [Act.put, List.setIfInBounds_toArray, List.set_cons_zero, List.set_cons_succ]
        first | (refine wpAnyH_take (i := 17) (oi := ?o33) (v := ?v33) ?i33 (by kernel_rfl) (by kernel_rfl) (by kernel_rfl) ?q33 ?y33 (by assumption) ?r33; (case i33 => (simp only [List.getElem?_toArray, List.getElem?_cons_succ, List.getElem?_cons_zero]; rfl)); (case q33 => exact fun _ _ _ h => h); (case y33 => (refine Or.inl ⟨by rfl, ?_⟩; intro w hSw; (try dsimp only at hSw); go_simp; (try (with_reducible rfl))))) | (refine wpAnyH_take (i := 17) (oi := ?o34) (v := undef) ?i34 (by kernel_rfl) (by kernel_rfl) (by kernel_rfl) ?q34 ?y34 (by assumption) ?r34; (case i34 => (simp only [List.getElem?_toArray, List.getElem?_cons_succ, List.getElem?_cons_zero]; rfl)); (case q34 => exact fun _ _ _ h => h); (case y34 => exact Or.inr ⟨by rfl, rfl⟩))
        try simp only [Act.put, List.setIfInBounds_toArray, List.set_cons_zero, List.set_cons_succ]
        first | (refine wpAnyH_take (i := 18) (oi := ?o35) (v := ?v35) ?i35 (by kernel_rfl) (by kernel_rfl) (by kernel_rfl) ?q35 ?y35 (by assumption) ?r35; (case i35 => (simp only [List.getElem?_toArray, List.getElem?_cons_succ, List.getElem?_cons_zero]; rfl)); (case q35 => exact fun _ _ _ h => h); (case y35 => (refine Or.inl ⟨by rfl, ?_⟩; intro w hSw; (try dsimp only at hSw); go_simp; (try (with_reducible rfl))))) | (refine wpAnyH_take (i := 18) (oi := ?o36) (v := undef) ?i36 (by kernel_rfl) (by kernel_rfl) (by kernel_rfl) ?q36 ?y36 (by assumption) ?r36; (case i36 => (simp only [List.getElem?_toArray, List.getElem?_cons_succ, List.getElem?_cons_zero]; rfl)); (case q36 => exact fun _ _ _ h => h); (case y36 => exact Or.inr ⟨by rfl, rfl⟩))
        try simp only [Act.put, List.setIfInBounds_toArray, List.set_cons_zero, List.set_cons_succ]
        (refine wpAnyH_take (i := 19) (oi := ?o37) (v := undef) ?i37 (by kernel_rfl) (by kernel_rfl) (by kernel_rfl) ?q37 ?y37 (by assumption) ?r37; (case i37 => (simp only [List.getElem?_toArray, List.getElem?_cons_succ, List.getElem?_cons_zero]; rfl)); (case q37 => exact fun _ _ _ h => h); (case y37 => exact Or.inr ⟨by rfl, rfl⟩))
        try simp only [Act.put, List.setIfInBounds_toArray, List.set_cons_zero, List.set_cons_succ]
        (refine wpAnyH_take (i := 20) (oi := ?o38) (v := undef) ?i38 (by kernel_rfl) (by kernel_rfl) (by kernel_rfl) ?q38 ?y38 (by assumption) ?r38; (case i38 => (simp only [List.getElem?_toArray, List.getElem?_cons_succ, List.getElem?_cons_zero]; rfl)); (case q38 => exact fun _ _ _ h => h); (case y38 => exact Or.inr ⟨by rfl, rfl⟩))
        try simp only [Act.put, List.setIfInBounds_toArray, List.set_cons_zero, List.set_cons_succ]
        first | (refine wpAnyH_take (i := 21) (oi := ?o39) (v := ?v39) ?i39 (by kernel_rfl) (by kernel_rfl) (by kernel_rfl) ?q39 ?y39 (by assumption) ?r39; (case i39 => (simp only [List.getElem?_toArray, List.getElem?_cons_succ, List.getElem?_cons_zero]; rfl)); (case q39 => exact fun _ _ _ h => h); (case y39 => (refine Or.inl ⟨by rfl, ?_⟩; intro w hSw; (try dsimp only at hSw); go_simp; (try (with_reducible rfl))))) | (refine wpAnyH_take (i := 21) (oi := ?o40) (v := undef) ?i40 (by kernel_rfl) (by kernel_rfl) (by kernel_rfl) ?q40 ?y40 (by assumption) ?r40; (case i40 => (simp only [List.getElem?_toArray, List.getElem?_cons_succ, List.getElem?_cons_zero]; rfl)); (case q40 => exact fun _ _ _ h => h); (case y40 => exact Or.inr ⟨by rfl, rfl⟩))
        try simp only [Act.put, List.setIfInBounds_toArray, List.set_cons_zero, List.set_cons_succ]
        first | (refine wpAnyH_take (i := 22) (oi := ?o41) (v := ?v41) ?i41 (by kernel_rfl) (by kernel_rfl) (by kernel_rfl) ?q41 ?y41 (by assumption) ?r41; (case i41 => (simp only [List.getElem?_toArray, List.getElem?_cons_succ, List.getElem?_cons_zero]; rfl)); (case q41 => exact fun _ _ _ h => h); (case y41 => (refine Or.inl ⟨by rfl, ?_⟩; intro w hSw; (try dsimp only at hSw); go_simp; (try (with_reducible rfl))))) | (refine wpAnyH_take (i := 22) (oi := ?o42) (v := undef) ?i42 (by kernel_rfl) (by kernel_rfl) (by kernel_rfl) ?q42 ?y42 (by assumption) ?r42; (case i42 => (simp only [List.getElem?_toArray, List.getElem?_cons_succ, List.getElem?_cons_zero]; rfl)); (case q42 => exact fun _ _ _ h => h); (case y42 => exact Or.inr ⟨by rfl, rfl⟩))
        try simp only [Act.put, List.setIfInBounds_toArray, List.set_cons_zero, List.set_cons_succ]
        refine wpAnyH_done (by kernel_rfl) ?_ _
        clear y1 y2 y3
        go_wp2
        exact ⟨⟨k + 1, by omega, by go_num, VB.out.trans (HB1.out.mono VB.out.size), all_step HQ.out HT.out HPRE.out⟩, by simp [intOf]; omega⟩
    · obtain rfl : k = n := by omega
      go_wp2
      go_ret
      exact ⟨by rw [HALL.out, all_true HN.out HPRE.out]; rfl, HB.out⟩
end
end Go.Proofs.Ytkmanjfmffdcbaa.Fl

/- The law's own words within: walked. No condition. -/
namespace Go.Proofs.Ytkmanjfmffdcbaa.Fl
open Go.RowKit Go.Proofs.YtkmanjfmffdcbaaW.PrintWords Go.Proofs.YtkmanjfmffdcbaaW.PrintMore Go.Maps
set_option linter.unusedSimpArgs false
set_option linter.unusedVariables false
section
variable {N0 N1 x y : Nat} {s : Int × Int × Int} {ps qs : List Pg} {okX okY : Nat → Prop} {w : World}
set_option maxHeartbeats 4000000 in
set_option maxRecDepth 100000 in
theorem within_any (hX : RefIs N0 x s ps okX w) (hY : RefIs N1 y s qs okY w) (hs : ShapeOk s) (hl : ps.length < 1000000) (hl2 : qs.length < 1000000) (hp : ∀ q ∈ ps, q.2.1.length = s.2.2.toNat) (hq : ∀ q ∈ qs, q.2.1.length = s.2.2.toNat) :
    Calls Try.prog 52 #[.pointer (some ⟨x, 0, none⟩), .pointer (some ⟨y, 0, none⟩)] w fun e w' => e = .returned (.bool (withinP s ps qs)) ∧ Below w.heap.size w w' := by
  obtain ⟨A, c, hx, hrow, hR⟩ := ref_open hX
  obtain ⟨A', c', hy, _, _⟩ := ref_open hY
  obtain ⟨n, hn⟩ : ∃ n, n = ps.length := ⟨_, rfl⟩
  obtain ⟨m, hm⟩ : ∃ m, m = s.2.2.toNat := ⟨_, rfl⟩
  rw [← hn] at hx hrow hl
  have k0 : w.cell? ⟨x, 0, none⟩ = some (.int .i64 s.1) := bcell hx 0
  have k1 : w.cell? ⟨x, 1, none⟩ = some (.int .i64 s.2.1) := bcell hx 1
  have k2 : w.cell? ⟨x, 2, none⟩ = some (.int .i64 s.2.2) := bcell hx 2
  have k3 : w.cell? ⟨x, 3, none⟩ = some (.slice A n c) := bcell hx 3
  have j0 : w.cell? ⟨y, 0, none⟩ = some (.int .i64 s.1) := bcell hy 0
  have j1 : w.cell? ⟨y, 1, none⟩ = some (.int .i64 s.2.1) := bcell hy 1
  have j2 : w.cell? ⟨y, 2, none⟩ = some (.int .i64 s.2.2) := bcell hy 2
  have hfd := fun (X : World) (hX : Below w.heap.size w X) (a b : Int) => RFind_any (hY.below hX) hl2 a b
  have hrd := fun (X : World) (hX : Below w.heap.size w X) (a b : Int) => RRead_any (hY.below hX) hs hl2 a b
  have hml := fun (a b : Int) => readP_len (a := a) (b := b) hq
  have hm1 := hs.c0
  have hm2 := hs.c1
  have hm3 : 16 ≤ m ∧ m ≤ 256 := by omega
  rw [← hm] at hp hml hrd
  have HN := Lib.hid hn
  have HROW := Lib.hid hrow
  have HFD := Lib.hid hfd
  have HRD := Lib.hid hrd
  have HML := Lib.hid hml
  have HPL := Lib.hid hp
  have HM := Lib.hid hm3
  have HQL := Lib.hid hl2
  obtain ⟨f, hf⟩ : ∃ f : Pg → Bool, f = fun p => decide (0 ≤ findI p.1.1 p.1.2 qs) && partB p.2.1 (readP m p.1.1 p.1.2 qs) := ⟨_, rfl⟩
  have hall : withinP s ps qs = ps.all f := by rw [hf, hm]; rfl
  have HF := Lib.hid hf
  have HALL := Lib.hid hall
  clear hx hy hrow hR hn hfd hrd hml hp hq hX hY hs hm1 hm2 hm3 hl2 hf hall hm
  go_enter Try.func52, Try.ntmps52
  go_wp2_with fail
  go_region_held3 (fun w' => w'.cell? ⟨x, 0, none⟩ = some (.int .i64 s.1) ∧ w'.cell? ⟨x, 1, none⟩ = some (.int .i64 s.2.1) ∧ w'.cell? ⟨x, 2, none⟩ = some (.int .i64 s.2.2) ∧ w'.cell? ⟨y, 0, none⟩ = some (.int .i64 s.1) ∧ w'.cell? ⟨y, 1, none⟩ = some (.int .i64 s.2.1) ∧ w'.cell? ⟨y, 2, none⟩ = some (.int .i64 s.2.2)) (go_keep) (fail)
  clear k0 k1 k2 j0 j1 j2
  go_wp2
  go_loopw [25] (fun v25 wr => ∃ k : Nat, k ≤ n ∧ v25 = .int .i64 (k : Int) ∧ Below w.heap.size w wr ∧ ∀ j p, j < k → ps[j]? = some p → f p = true) (fun v25 _ => n - (intOf v25).toNat)
  case atStart => exact ⟨0, Nat.zero_le _, rfl, (Below.refl _ _).drew, fun j p hj => by omega⟩
  case round =>
    obtain ⟨k, hk, rfl, hb, hpre⟩ := hrel
    have HB := Aside0.mk hb
    have HPRE := Lib.hid hpre
    clear hb hpre k3
    by_cases hlt : k < n
    · obtain ⟨q, hq⟩ : ∃ q, ps[k]? = some q := ⟨_, List.getElem?_eq_getElem (by have := HN.out; omega)⟩
      obtain ⟨g, rfl, _, _, hrow⟩ := HROW.out (by omega)
      obtain ⟨A1, c1, hc⟩ := (hrow.below HB.out).cell hq
      have d0 := hc.c0; have d1 := hc.c1; have d2 := hc.c2; have d3 := hc.c3
      obtain ⟨A5, c5, e5, hlc, hC⟩ := hc.row.reads
      injection e5 with e5 e6 e7
      subst e5 e7
      have hql := HPL.out q (List.mem_of_getElem? hq)
      have k0 : (0 : Int) ≤ (k : Int) := by omega
      have k2 : (k : Int) < (n : Int) := by omega
      obtain ⟨⟨pa, pb⟩, pl, px⟩ := q
      simp only at d0 d1 d2 d3 hql hC hlc
      rw [hql] at d2
      obtain ⟨V, hV⟩ : ∃ V, V = wr.alloc (.cells #[.int .i64 pa, .int .i64 pb, .slice A1 m c1, .bool px] TP) := ⟨_, rfl⟩
      have y0 : V.heap[wr.heap.size]? = some (.cells #[.int .i64 pa, .int .i64 pb, .slice A1 m c1, .bool px] TP (0, 0)) := by rw [hV]; exact blk_new wr _
      have yb : Below wr.heap.size wr V := by rw [hV]; exact below_alloc (Below.refl _ _) _
      have hbox : ∀ X : World, Below V.heap.size V X → X.cell? ⟨wr.heap.size, 0, none⟩ = some (.int .i64 pa) ∧ X.cell? ⟨wr.heap.size, 1, none⟩ = some (.int .i64 pb) ∧ X.cell? ⟨wr.heap.size, 2, none⟩ = some (.slice A1 m c1) := fun X hX => by
        have := (hX.block wr.heap.size (blt y0)).trans y0
        exact ⟨bcell this 0, bcell this 1, bcell this 2⟩
      have vb : Below w.heap.size w V := HB.out.trans (yb.mono HB.out.size)
      have hfp : f ((pa, pb), pl, px) = (decide (0 ≤ findI pa pb qs) && partB pl (readP m pa pb qs)) := by rw [HF.out]
      obtain ⟨F, hF⟩ : ∃ F, F = findI pa pb qs := ⟨_, rfl⟩
      obtain ⟨R, hRR⟩ : ∃ R, R = readP m pa pb qs := ⟨_, rfl⟩
      have hfind := HFD.out V vb pa pb
      have hread := fun (X : World) (hX : Below V.heap.size V X) => HRD.out X (vb.trans (hX.mono vb.size)) pa pb
      have hrl := HML.out pa pb
      rw [← hF] at hfind hfp
      rw [← hRR] at hread hrl hfp
      obtain ⟨y1, y2, y3⟩ := hbox V (Below.refl _ V)
      have hFl : -1 ≤ F ∧ F < 2000000 := by
        rw [hF, findI]
        rcases idxI_cases (atB pa pb) qs with h | ⟨i, a, h, hi⟩ <;> rw [h]
        · omega
        · have := (List.getElem?_eq_some_iff.1 hi).1
          have := HQL.out
          omega
      have HV := Lib.hid hV
      have VB := Aside0.mk vb
      have HBOX := Lib.hid hbox
      have HFIND := Lib.hid hfind
      have HREAD := Lib.hid hread
      have HFP := Lib.hid hfp
      have HQ := Lib.hid hq
      have HC := Aside0.mk (Kd.C_below hC yb)
      have HCP := Lib.hid (show m ≤ c1 by omega)
      have HL1 := Lib.hid hql
      have HL2 := Lib.hid hrl
      clear hc hrow hC hql hV y0 yb hbox vb hfp hF hRR hfind hread hrl hq hlc
      by_cases h0 : 0 ≤ F
      · have e1 : decide (F < 0) = false := by simp; omega
        have e9 := Lib.hid (show decide (0 ≤ F) = true by simpa using h0)
        go_wp2_with fail
        rw [← HV.out]
        go_wp2_with (first
          | (go_at_call 48; (with_reducible refine HFIND.out.mono ?_); rintro e w1 ⟨rfl, hb⟩; obtain ⟨z1, z2, z3⟩ := HBOX.out _ hb; have HB1 := Aside0.mk hb; clear hb)
          | (go_at_call 49; (with_reducible refine (HREAD.out _ HB1.out).mono ?_); rintro e w2 ⟨v2, rfl, hr, hb⟩; obtain ⟨A2, c2, e2, _, hC2⟩ := hr.reads; rw [HL2.out] at e2; subst e2; have HB2 := Aside0.mk (HB1.out.trans (hb.mono HB1.out.size)); have HC2 := Aside0.mk hC2; clear hb hr hC2))
        obtain ⟨wo, rfl⟩ : ∃ wo : World, wo = wr := ⟨_, rfl⟩
        have hm16 := HM.out
        clear d0 d1 d2 d3 y1 y2 y3 z1 z2 z3
        have HFIN := Lib.hid (fun (X : World) (hX : Below w2.heap.size w2 X) => VB.out.trans ((HB2.out.trans (hX.mono HB2.out.size)).mono VB.out.size))
        have HBX := Lib.hid (fun (X : World) (hX : Below w2.heap.size w2 X) => (HBOX.out _ (HB2.out.trans (hX.mono HB2.out.size))).2.2)
        go_loopw [8] (fun v8 wi => ∃ i : Nat, i ≤ m ∧ v8 = .int .i64 (i : Int) ∧ Below w2.heap.size w2 wi ∧ pl.take i = R.take i) (fun v8 _ => m - (intOf v8).toNat)
        case atStart => exact ⟨0, Nat.zero_le _, rfl, Below.refl _ _, rfl⟩
        case round =>
          obtain ⟨i, hi, rfl, hbi, ht⟩ := hrel
          obtain ⟨wi, rfl⟩ : ∃ wi : World, wi = wr := ⟨_, rfl⟩
          have hbx := HBX.out _ hbi
          have HI := Aside0.mk hbi
          have HTK := Lib.hid ht
          have i0 : (0 : Int) ≤ (i : Int) := by omega
          obtain ⟨ad, hA, hca⟩ := C_cells (Kd.C_below HC.out (HB2.out.trans (hbi.mono HB2.out.size))) (by have := HL1.out; omega)
          obtain ⟨bd, hB, hcb⟩ := C_cells (Kd.C_below HC2.out hbi) (by have := HL2.out; omega)
          subst hA hB
          clear hbi ht
          by_cases hlt2 : i < m
          · obtain ⟨a, ha⟩ : ∃ a, pl[i]? = some a := ⟨_, List.getElem?_eq_getElem (by have := HL1.out; omega)⟩
            obtain ⟨b, hb⟩ : ∃ b, R[i]? = some b := ⟨_, List.getElem?_eq_getElem (by have := HL2.out; omega)⟩
            have ka := hca i (.int .u8 a) (by simp [ha])
            have kb := hcb i (.int .u8 b) (by simp [hb])
            have HA := Lib.hid ha
            have HBB := Lib.hid hb
            have i1 : (i : Int) < (m : Int) := by omega
            clear ha hb hca hcb
            by_cases hab : a = b
            · have e5 : (a == b) = true := by simp [hab]
              go_wp2_with fail
              go_region_held3 (fun w' => w'.cell? (ad.add i) = some (.int .u8 a) ∧ w'.cell? (bd.add i) = some (.int .u8 b) ∧ w'.cell? ⟨wo.heap.size, 2, none⟩ = some (.slice (some ad) m c1)) (go_keep) (fail)
              go_wp2
              exact ⟨⟨i + 1, by omega, by go_num, HI.out.drew, take_eq_succ HA.out HBB.out HTK.out hab⟩, by simp [intOf]; omega⟩
            · have e5 : (a == b) = false := by simp [hab]
              have hp : preN pl R = i := preN_of i pl R HTK.out (by have := HL1.out; omega) (by have := HL2.out; omega) (.inr (.inr (by rw [HA.out, HBB.out]; exact fun e => hab (Option.some.inj e))))
              have HP := Lib.hid hp
              have hcd := Kd.C_drop (m := i) (c := c1) (Kd.C_below HC.out (HB2.out.trans (HI.out.mono HB2.out.size))) (by have := HL1.out; omega) (by have := HL1.out; have := HCP.out; omega)
              have hcp := HCP.out
              rw [if_neg (by omega)] at hcd
              have hz : i * kB.sz = i := Nat.mul_one i
              rw [hz] at hcd
              have hdl : (pl.drop i).length = m - i := by rw [List.length_drop, HL1.out]
              have HCD := Aside0.mk hcd
              have HDL := Lib.hid hdl
              clear hp hab hcd hz hdl
              go_wp2_with fail
              go_region_held3 (fun w' => w'.cell? (ad.add i) = some (.int .u8 a) ∧ w'.cell? (bd.add i) = some (.int .u8 b) ∧ w'.cell? ⟨wo.heap.size, 2, none⟩ = some (.slice (some ad) m c1)) (go_keep) (fail)
              go_wp2
              go_loopw [69] (fun v69 wj => ∃ j : Nat, j ≤ m - i ∧ v69 = .int .i64 (j : Int) ∧ Below wi.heap.size wi wj ∧ ∀ t z, t < j → (pl.drop i)[t]? = some z → (z != 255) = false) (fun v69 _ => (m - i) - (intOf v69).toNat)
              case atStart => exact ⟨0, Nat.zero_le _, rfl, (Below.refl _ wi).drew, fun t z h => by omega⟩
              case round =>
                obtain ⟨j, hj, rfl, hbj, hpre2⟩ := hrel
                have HJ := Aside0.mk hbj
                have HPRE2 := Lib.hid hpre2
                clear hpre2 ka kb hbx
                by_cases hlt3 : j < m - i
                · obtain ⟨z, hz⟩ : ∃ z, (pl.drop i)[j]? = some z := ⟨_, List.getElem?_eq_getElem (by have := HDL.out; omega)⟩
                  obtain ⟨ad2, hA2, hca2⟩ := C_cells (Kd.C_below HCD.out hbj) (by have := HDL.out; omega)
                  have hA3 := Option.some.inj hA2
                  subst hA3
                  have kz := hca2 j (.int .u8 z) (by rw [List.getElem?_map, hz]; rfl)
                  have HZ := Lib.hid hz
                  have j0 : (0 : Int) ≤ (j : Int) := by omega
                  have j1 : (j : Int) < (m : Int) - (i : Int) := by omega
                  have j2 : (j : Int) < ((m - i : Nat) : Int) := by omega
                  clear hz hA2 hca2 hbj
                  by_cases hzz : (z != 255) = true
                  · have hT : f ((pa, pb), pl, px) = false := by
                      rw [HFP.out, e9.out, Bool.true_and, partB, HP.out, Bool.not_eq_false', List.any_eq_true]
                      exact ⟨z, List.mem_of_getElem? HZ.out, hzz⟩
                    have HT := Lib.hid hT
                    clear hT
                    go_wp2
                    go_ret
                    exact ⟨by rw [HALL.out, all_false HQ.out HT.out]; rfl, HFIN.out _ (HI.out.trans (HJ.out.mono HI.out.size))⟩
                  · have hz0 : (z != 255) = false := by simpa using hzz
                    clear hzz
                    go_wp2
                    refine ⟨⟨j + 1, by omega, by go_num, HJ.out, fun t y hty hy => ?_⟩, by simp [intOf]; omega⟩
                    rcases Nat.lt_or_ge t j with h2 | h2
                    · exact HPRE2.out t y h2 hy
                    · obtain rfl : t = j := by omega
                      rw [HZ.out] at hy
                      rw [← Option.some.inj hy]
                      exact hz0
                · obtain rfl : j = m - i := by omega
                  have hT : f ((pa, pb), pl, px) = true := by
                    rw [HFP.out, e9.out, Bool.true_and, partB, HP.out, Bool.not_eq_true', List.any_eq_false]
                    intro z hz
                    obtain ⟨t, ht, e⟩ := List.getElem_of_mem hz
                    rw [HPRE2.out t z (by have := HDL.out; omega) (by rw [← e, List.getElem?_eq_getElem ht])]
                    decide
                  have HT := Lib.hid hT
                  clear hT hbj
                  go_wp2
                  exact ⟨⟨k + 1, by omega, by go_num, HFIN.out _ (HI.out.trans (HJ.out.mono HI.out.size)), all_step HQ.out HT.out HPRE.out⟩, by simp [intOf]; omega⟩
          · obtain rfl : i = m := by omega
            have hp : preN pl R = i := preN_of i pl R HTK.out (by have := HL1.out; omega) (by have := HL2.out; omega) (.inl HL1.out.symm)
            have hT : f ((pa, pb), pl, px) = true := by
              rw [HFP.out, e9.out, Bool.true_and, partB, hp, ← HL1.out, List.drop_length]
              rfl
            have HT := Lib.hid hT
            have f1 : decide ((i : Int) < (i : Int)) = false := by simp
            have hcp := HCP.out
            clear hp hT hca hcb hlt2
            by_cases hck : c1 = i
            · subst hck
              go_wp2_with fail
              go_quiet (fail)
              go_wp2
              go_loopw [69] (fun v69 wj => v69 = .int .i64 0 ∧ Below wi.heap.size wi wj) (fun _ _ => 0)
              case atStart => exact ⟨rfl, pw_below_drewN (Below.refl _ wi) _⟩
              case round =>
                obtain ⟨rfl, hbj⟩ := hrel
                have HJ := Aside0.mk hbj
                clear hbj hbx
                go_wp2
                exact ⟨⟨k + 1, by omega, by go_num, HFIN.out _ (HI.out.trans (HJ.out.mono HI.out.size)), all_step HQ.out HT.out HPRE.out⟩, by simp [intOf]; omega⟩
            · go_wp2_with fail
              go_quiet (fail)
              go_wp2
              go_loopw [69] (fun v69 wj => v69 = .int .i64 0 ∧ Below wi.heap.size wi wj) (fun _ _ => 0)
              case atStart => exact ⟨rfl, pw_below_drewN (Below.refl _ wi) _⟩
              case round =>
                obtain ⟨rfl, hbj⟩ := hrel
                have HJ := Aside0.mk hbj
                clear hbj hbx
                go_wp2
                exact ⟨⟨k + 1, by omega, by go_num, HFIN.out _ (HI.out.trans (HJ.out.mono HI.out.size)), all_step HQ.out HT.out HPRE.out⟩, by simp [intOf]; omega⟩
      · have e1 : decide (F < 0) = true := by simp; omega
        have HT := Lib.hid (show f ((pa, pb), pl, px) = false by rw [HFP.out, decide_eq_false h0]; rfl)
        go_wp2_with fail
        rw [← HV.out]
        go_wp2_with (go_at_call 48; (with_reducible refine HFIND.out.mono ?_); rintro e w1 ⟨rfl, hb⟩; have HB1 := Aside0.mk hb; clear hb)
        go_ret
        exact ⟨by rw [HALL.out, all_false HQ.out HT.out]; rfl, VB.out.trans (HB1.out.mono VB.out.size)⟩
    · obtain rfl : k = n := by omega
      go_wp2
      go_ret
      exact ⟨by rw [HALL.out, all_true HN.out HPRE.out]; rfl, HB.out⟩
end
end Go.Proofs.Ytkmanjfmffdcbaa.Fl

/- CrashAfter: walked. No condition but what every argument brings. -/
namespace Go.Proofs.Ytkmanjfmffdcbaa.Fl
open Go.RowKit Go.Proofs.YtkmanjfmffdcbaaW.PrintWords Go.Proofs.YtkmanjfmffdcbaaW.PrintMore Go.Maps
set_option linter.unusedSimpArgs false
set_option linter.unusedVariables false
theorem mut_below {ok : Nat → Prop} {w8 w9 w10 : World} (hb : Below w8.heap.size w8 w9) (hu : Upd (Mut (CopyOk ok w8) w9) w9 w10) : Below w8.heap.size w8 w10 := by
  refine hb.trans (hu.below hb.size (fun k hk => ?_))
  rcases hk.1 with h | ⟨_, cs, fr, e⟩
  · exact h
  · exact absurd ((hb.block k (blt e)).trans e) (hk.2 cs fr)
theorem byt_readP {n : Nat} {a b : Int} {ps : List Pg} (h : BytP ps) : Byt (readP n a b ps) := by
  unfold readP
  cases hf : ps.find? (atB a b) with
  | none => exact Byt.fullT Byt.nil
  | some p => exact h p (List.mem_of_find?_eq_some hf)
theorem Sim.byt {D : PD} {s : Int × Int × Int} {ps : List Pg} (h : Sim D s ps) (hb : BytP ps) (a b : Int) : Byt (readD D a b) := by
  rw [h.read]
  exact byt_readP hb
theorem few_len2 {ds : List DeedT} (h : fewB ds = true) : ds.length ≤ 60 := by
  unfold fewB at h
  simp at h
  exact h.2
/-- Boxes of a shape and of a plan, one behind the other. -/
theorem boxes_sp {w W : World} (s : Int × Int × Int) (P : PlanT) (hW : W = (w.alloc (.cells #[.int .i64 s.1, .int .i64 s.2.1, .int .i64 s.2.2] 46)).alloc (.cells #[.int .u64 P.keep, .int .i64 P.torn, .int .i64 P.cut] 59)) :
    Below w.heap.size w W ∧ (∀ V : World, Below W.heap.size W V → V.cell? ⟨w.heap.size, 0, none⟩ = some (.int .i64 s.1) ∧ V.cell? ⟨w.heap.size, 1, none⟩ = some (.int .i64 s.2.1) ∧ V.cell? ⟨w.heap.size, 2, none⟩ = some (.int .i64 s.2.2)) ∧ (∀ V : World, Below W.heap.size W V → V.cell? ⟨w.heap.size + 1, 0, none⟩ = some (.int .u64 P.keep) ∧ V.cell? ⟨w.heap.size + 1, 1, none⟩ = some (.int .i64 P.torn) ∧ V.cell? ⟨w.heap.size + 1, 2, none⟩ = some (.int .i64 P.cut)) := by
  have q0 : W.heap[w.heap.size]? = some (.cells #[.int .i64 s.1, .int .i64 s.2.1, .int .i64 s.2.2] 46 (0, 0)) := by rw [hW]; exact (Below.heap_alloc _ _ _ (by simp)).trans (blk_new w _)
  have q1 : W.heap[w.heap.size + 1]? = some (.cells #[.int .u64 P.keep, .int .i64 P.torn, .int .i64 P.cut] 59 (0, 0)) := by
    rw [hW]
    have := blk_new (w.alloc (.cells #[.int .i64 s.1, .int .i64 s.2.1, .int .i64 s.2.2] 46)) (.cells #[.int .u64 P.keep, .int .i64 P.torn, .int .i64 P.cut] 59)
    simpa using this
  refine ⟨by rw [hW]; exact (below_alloc (Below.refl _ _) _).alloc (by simp) _, fun V hV => ?_, fun V hV => ?_⟩
  · have := (hV.block w.heap.size (blt q0)).trans q0
    exact ⟨bcell this 0, bcell this 1, bcell this 2⟩
  · have := (hV.block (w.heap.size + 1) (blt q1)).trans q1
    exact ⟨bcell this 0, bcell this 1, bcell this 2⟩
/-- What Made hands back, for one who reads. -/
def MadeIs (N0 : Nat) (s : Int × Int × Int) (p x : Nat) (D : PD) (ps : List Pg) (w : World) : Prop := (∃ okD okX, DevIs N0 p D okD w ∧ RefIs N0 x s ps okX w) ∧ Sim D s ps ∧ ps.length ≤ 60 ∧ BytP ps
theorem MadeIs.below {N0 : Nat} {s : Int × Int × Int} {p x : Nat} {D : PD} {ps : List Pg} {w w' : World} (h : MadeIs N0 s p x D ps w) (hb : Below w.heap.size w w') : MadeIs N0 s p x D ps w' := by
  obtain ⟨⟨okD, okX, h1, h2⟩, h3⟩ := h
  exact ⟨⟨okD, okX, h1.below hb, h2.below hb⟩, h3⟩
theorem Made_is {W : World} {A : Option Addr} {c : Nat} {s : Int × Int × Int} {ds : List DeedT} (hs : shapeB s = true) (hr : DRow W A ds) (hf : fewB ds = true) (hp : ∀ d ∈ ds, PlanOk d.P ∧ Byt d.l) (V : World) (hV : Below W.heap.size W V) :
    Calls Try.prog 29 #[.agg #[.int .i64 s.1, .int .i64 s.2.1, .int .i64 s.2.2], .slice A ds.length c] V fun e w' => ∃ p x, e = .returned (.tuple #[.pointer (some ⟨p, 0, none⟩), .pointer (some ⟨x, 0, none⟩), .bool true]) ∧ (∃ D ps, MadeIs W.heap.size s p x D ps w') ∧ Below W.heap.size W w' := by
  refine (Made_byt hs (hr.below hV) (few_len2 hf) (fun d h => (hp d h).1)).mono fun e w' ⟨p, x, D, ps, h1, h2, h3, h4, h5, h6⟩ => ⟨p, x, h1, ⟨D, ps, ?_, h3, h4, h6 (fun d h => (hp d h).2)⟩, hV.trans (h5.mono hV.size)⟩
  obtain ⟨okD, okX, hD, hX, _⟩ := h2
  exact ⟨okD, okX, hD.low hV.size, hX.low hV.size⟩
theorem MadeIs.both {N0 : Nat} {s : Int × Int × Int} {p x : Nat} {D : PD} {ps : List Pg} {w : World} (h : MadeIs N0 s p x D ps w) : Both N0 p x D s ps w := h.1
theorem MadeIs.okS {N0 : Nat} {s : Int × Int × Int} {p x : Nat} {D : PD} {ps : List Pg} {w : World} (h : MadeIs N0 s p x D ps w) : ShapeOk s := by
  obtain ⟨⟨okD, okX, h1, h2⟩, h3, _⟩ := h
  have := h1.shape
  rwa [h3.sh] at this
theorem MadeIs.dirtyM {N0 : Nat} {s : Int × Int × Int} {p x : Nat} {D : PD} {ps : List Pg} {w : World} (h : MadeIs N0 s p x D ps w) : D.dirty.length < 1000000 := Nat.lt_of_le_of_lt h.2.1.dirtyLe (by have := h.2.2.1; omega)
theorem MadeIs.after {N0 : Nat} {s : Int × Int × Int} {p x : Nat} {D : PD} {ps : List Pg} {w : World} (h : MadeIs N0 s p x D ps w) (P : PlanT) (hP : PlanOk P) :
    Calls Try.prog 46 #[.pointer (some ⟨p, 0, none⟩), .agg #[.int .u64 P.keep, .int .i64 P.torn, .int .i64 P.cut]] w fun e w' => ∃ c, e = .returned (.pointer (some ⟨c, 0, none⟩)) ∧ (∃ okc, DevIs N0 c (crashD D P) okc w') ∧ Below w.heap.size w w' := by
  have hm := h.dirtyM
  obtain ⟨⟨okD, okX, h1, h2⟩, h3, _⟩ := h
  exact (After_any h1 P hP hm h3.dirtyNd h3.dirtyIn).mono fun e w' ⟨c, okc, e1, e2, _, e3⟩ => ⟨c, e1, ⟨okc, e2⟩, e3⟩
theorem MadeIs.simC {N0 : Nat} {s : Int × Int × Int} {p x : Nat} {D : PD} {ps : List Pg} {w : World} (h : MadeIs N0 s p x D ps w) (P : PlanT) (hP : PlanOk P) : Sim (crashD D P) s (rcTo s.2.2 P ps).1 := by
  have hs := h.okS
  obtain ⟨⟨okD, okX, h1, h2⟩, h3, _⟩ := h
  exact h3.crash h1.nodup hs hP
theorem crash_len {s : Int × Int × Int} {P : PlanT} {ps : List Pg} : (rcTo s.2.2 P ps).1.length ≤ ps.length := by rw [rcTo_eq]; exact rcR_len
/-- Its own copy of the document's device, crashed. -/
theorem MadeIs.copy {N0 : Nat} {s : Int × Int × Int} {p x : Nat} {D : PD} {ps : List Pg} {w : World} (h : MadeIs N0 s p x D ps w) (P : PlanT) (hP : PlanOk P) :
    Calls Try.prog 33 #[.pointer (some ⟨x, 0, none⟩)] w fun e w' => ∃ y, e = .returned (.pointer (some ⟨y, 0, none⟩)) ∧ (Calls Try.prog 37 #[.pointer (some ⟨y, 0, none⟩), .agg #[.int .u64 P.keep, .int .i64 P.torn, .int .i64 P.cut]] w' fun e w2 => e = .returned (.tuple #[]) ∧ (∃ ok, RefIs N0 y s (rcTo s.2.2 P ps).1 ok w2) ∧ Below w.heap.size w w2) ∧ Below w.heap.size w w' := by
  have hs := h.okS
  obtain ⟨⟨okD, okX, h1, h2⟩, h3, h4, _⟩ := h
  refine (RCopy_any h2 (by omega)).mono fun e w' ⟨y, e1, _, hY, hb⟩ => ⟨y, e1, ?_, hb⟩
  exact (RCrash_any hY hs (by omega) h3.len P hP.k0).mono fun e w2 ⟨e2, hY2, hu⟩ => ⟨e2, ⟨_, hY2⟩, mut_below hb hu⟩
theorem exD_below {N0 p : Nat} {D : PD} {w w' : World} (h : ∃ ok, DevIs N0 p D ok w) (hb : Below w.heap.size w w') : ∃ ok, DevIs N0 p D ok w' := by
  obtain ⟨ok, h⟩ := h
  exact ⟨ok, h.below hb⟩
theorem exX_below {N0 x : Nat} {s : Int × Int × Int} {ps : List Pg} {w w' : World} (h : ∃ ok, RefIs N0 x s ps ok w) (hb : Below w.heap.size w w') : ∃ ok, RefIs N0 x s ps ok w' := by
  obtain ⟨ok, h⟩ := h
  exact ⟨ok, h.below hb⟩
theorem exD_pages {N0 p : Nat} {D : PD} {w : World} (h : ∃ ok, DevIs N0 p D ok w) : Calls Try.prog 47 #[.pointer (some ⟨p, 0, none⟩)] w fun e w' => ∃ v, e = .returned v ∧ (∃ N ok, kAddr.R TA w' N ok v (pagesL D)) ∧ Below w.heap.size w w' := by
  obtain ⟨ok, h⟩ := h
  exact (Pages_any h).mono fun e w' ⟨v, e1, e2, e3⟩ => ⟨v, e1, ⟨_, _, e2⟩, e3⟩
theorem ref_len {N0 x : Nat} {s : Int × Int × Int} {ps : List Pg} {w : World} (h : ∃ ok, RefIs N0 x s ps ok w) : ∃ A c, (∀ X, Below w.heap.size w X → X.cell? ⟨x, 3, none⟩ = some (.slice A ps.length c)) ∧ (0 < ps.length → ∃ N ok g, A = some ⟨g, 0, none⟩ ∧ PRow w N ok g c ps) := by
  obtain ⟨ok, h⟩ := h
  obtain ⟨A, c, hx, hrow, _⟩ := ref_open h
  refine ⟨A, c, fun X hX => bcell ((hX.block x (blt hx)).trans hx) 3, fun h => ?_⟩
  obtain ⟨g, e, _, _, hr⟩ := hrow h
  exact ⟨_, _, g, e, hr⟩
theorem rowA {w : World} {v : Value} {L : List Adr} (h : ∃ N ok, kAddr.R TA w N ok v L) : ∃ B d, v = .slice B L.length d ∧ (0 < L.length → ∃ g, B = some ⟨g, 0, none⟩ ∧ ARow w g d L) := by
  obtain ⟨N, ok, h⟩ := h
  obtain ⟨B, d, rfl⟩ := Kd.R_slice h
  refine ⟨B, d, rfl, fun hl => ?_⟩
  obtain ⟨g, cap, e, _, _, hr⟩ := ARow.of_R h (fun e => by injection e with _ h2 _; omega)
  injection e with e1 _ e3
  subst e3
  exact ⟨g, e1, hr⟩
theorem exX_find {N0 x : Nat} {s : Int × Int × Int} {ps : List Pg} {w : World} (h : ∃ ok, RefIs N0 x s ps ok w) (hl : ps.length < 1000000) (a b : Int) : Calls Try.prog 48 #[.pointer (some ⟨x, 0, none⟩), .int .i64 a, .int .i64 b] w fun e w' => e = .returned (.int .i64 (findI a b ps)) ∧ Below w.heap.size w w' := by
  obtain ⟨ok, h⟩ := h
  exact RFind_any h hl a b
theorem exX_read {N0 x : Nat} {s : Int × Int × Int} {ps : List Pg} {w : World} (h : ∃ ok, RefIs N0 x s ps ok w) (hs : ShapeOk s) (hl : ps.length < 1000000) (a b : Int) : Calls Try.prog 49 #[.pointer (some ⟨x, 0, none⟩), .int .i64 a, .int .i64 b] w fun e w' => ∃ A c, e = .returned (.slice A (readP s.2.2.toNat a b ps).length c) ∧ kB.C w' A (readP s.2.2.toNat a b ps).length (readP s.2.2.toNat a b ps) ∧ Below w.heap.size w w' := by
  obtain ⟨ok, h⟩ := h
  refine (RRead_any h hs hl a b).mono fun e w' ⟨v, he, hr, hb⟩ => ?_
  obtain ⟨A, c, rfl, _, hC⟩ := hr.reads
  exact ⟨A, c, he, hC, hb⟩
theorem MadeIs.dev {N0 : Nat} {s : Int × Int × Int} {p x : Nat} {D : PD} {ps : List Pg} {w : World} (h : MadeIs N0 s p x D ps w) : ∃ ok, DevIs N0 p D ok w := by
  obtain ⟨⟨okD, okX, h1, h2⟩, _⟩ := h
  exact ⟨okD, h1⟩
theorem MadeIs.ref {N0 : Nat} {s : Int × Int × Int} {p x : Nat} {D : PD} {ps : List Pg} {w : World} (h : MadeIs N0 s p x D ps w) : ∃ ok, RefIs N0 x s ps ok w := by
  obtain ⟨⟨okD, okX, h1, h2⟩, _⟩ := h
  exact ⟨okX, h2⟩
end Go.Proofs.Ytkmanjfmffdcbaa.Fl

/- CrashWithin: walked. No condition but what every argument brings. -/
namespace Go.Proofs.Ytkmanjfmffdcbaa.Fl
open Go.RowKit Go.Proofs.YtkmanjfmffdcbaaW.PrintWords Go.Proofs.YtkmanjfmffdcbaaW.PrintMore Go.Maps
set_option linter.unusedSimpArgs false
set_option linter.unusedVariables false
theorem Made_is2 {W : World} {A : Option Addr} {c : Nat} {s : Int × Int × Int} {ds : List DeedT} (hs : shapeB s = true) (hr : DRow W A ds) (hf : fewB ds = true) (hp : ∀ d ∈ ds, PlanOk d.P ∧ Byt d.l) (V : World) (hV : Below W.heap.size W V) :
    Calls Try.prog 29 #[.agg #[.int .i64 s.1, .int .i64 s.2.1, .int .i64 s.2.2], .slice A ds.length c] V fun e w' => ∃ p x, e = .returned (.tuple #[.pointer (some ⟨p, 0, none⟩), .pointer (some ⟨x, 0, none⟩), .bool true]) ∧ (∃ D ps, MadeIs W.heap.size s p x D ps w') ∧ Below V.heap.size V w' := by
  refine (Made_byt hs (hr.below hV) (few_len2 hf) (fun d h => (hp d h).1)).mono fun e w' ⟨p, x, D, ps, h1, h2, h3, h4, h5, h6⟩ => ⟨p, x, h1, ⟨D, ps, ?_, h3, h4, h6 (fun d h => (hp d h).2)⟩, h5⟩
  obtain ⟨okD, okX, hD, hX, _⟩ := h2
  exact ⟨okD, okX, hD.low hV.size, hX.low hV.size⟩
set_option maxHeartbeats 1000000 in
set_option maxRecDepth 100000 in
theorem Pages_nil (w : World) : Calls Try.prog 47 #[.pointer none] w fun e w' => e = .returned (.slice none 0 0) ∧ Below w.heap.size w w' := by
  go_enter Try.func47, Try.ntmps47
  go_wp2_with (go_at_call 43; (with_reducible refine (Shape_nil _).mono ?_); rintro e w1 ⟨rfl, hb⟩; have HB1 := Aside0.mk hb; clear hb)
  go_loopw [3, 11] (fun v3 v11 wr => v3 = .slice none 0 0 ∧ v11 = .int .i64 0 ∧ Below w.heap.size w wr) (fun _ _ _ => 0)
  case atStart =>
    refine ⟨rfl, rfl, ?_⟩
    repeat' (first | exact HB1.out | refine Below.setCell ?_ HB1.out.size _ | refine Below.alloc ?_ HB1.out.size _)
  case round =>
    obtain ⟨rfl, rfl, hb⟩ := hrel
    have HB := Aside0.mk hb
    clear hb
    go_wp2
    go_ret
    exact ⟨rfl, HB.out⟩
set_option maxHeartbeats 1000000 in
set_option maxRecDepth 100000 in
theorem Same_nil (w : World) : Calls Try.prog 51 #[.pointer none, .pointer none] w fun e w' => e = .returned (.bool true) ∧ Below w.heap.size w w' := by
  obtain ⟨V, hV⟩ : ∃ V, V = (w.alloc (.cells #[.pointer none] 50)).alloc (.cells #[.pointer none] 50) := ⟨_, rfl⟩
  have q0 : V.heap[w.heap.size]? = some (.cells #[.pointer none] 50 (0, 0)) := by rw [hV]; exact (Below.heap_alloc _ _ _ (by simp)).trans (blk_new w _)
  have q1 : V.heap[w.heap.size + 1]? = some (.cells #[.pointer none] 50 (0, 0)) := by
    rw [hV]
    have := blk_new (w.alloc (.cells #[.pointer none] 50)) (.cells #[.pointer none] 50)
    simpa using this
  have vb : Below w.heap.size w V := by rw [hV]; exact (below_alloc (Below.refl _ _) _).alloc (by simp) _
  have hbc : ∀ X : World, Below V.heap.size V X → X.cell? ⟨w.heap.size, 0, none⟩ = some (.pointer none) ∧ X.cell? ⟨w.heap.size + 1, 0, none⟩ = some (.pointer none) := fun X hX => ⟨bcell ((hX.block _ (blt q0)).trans q0) 0, bcell ((hX.block _ (blt q1)).trans q1) 0⟩
  obtain ⟨y1, y2⟩ := hbc V (Below.refl _ V)
  have heq : ∀ X : World, Calls Try.prog 80 #[.slice none 0 0, .slice none 0 0] X fun e w' => e = .returned (.bool true) ∧ Below X.heap.size X w' := fun X => (EqualA_any (N0 := 0) (N1 := 0) (ok := fun _ => True) (ok' := fun _ => True) (w := X) (Kd.R_nil kAddr _ _ _ _) (Kd.R_nil kAddr _ _ _ _) (by simp) (by simp)).mono fun e w' ⟨h1, h2⟩ => ⟨by rw [h1]; rfl, h2⟩
  have hco : ∀ (X : World) (caps : Array Value), Calls Try.prog 76 #[.slice none 0 0, .func (.func 81) #[] caps] X fun e w' => e = .returned (.bool false) ∧ Below X.heap.size X w' := fun X caps => (ContainsA_any (N0 := 0) (ok := fun _ => True) (w := X) (Kd.R_nil kAddr _ _ _ _) (by simp) same1_clo (caps := caps) (fun _ => True) (fun _ _ _ _ => trivial) (fun _ => true) (fun _ _ _ h => by cases h) trivial).mono fun e w' ⟨h1, h2⟩ => ⟨by rw [h1]; rfl, h2⟩
  have VB := Aside0.mk vb
  have HBC := Lib.hid hbc
  have HV := Lib.hid hV
  have HEQ := Lib.hid heq
  have HCO := Lib.hid hco
  clear hbc hV vb q0 q1 heq hco
  go_enter Try.func51, Try.ntmps51
  go_wp2_with fail
  rw [← HV.out]
  go_wp2_with (go_at_call 47; (with_reducible refine (Pages_nil _).mono ?_); rintro e w3 ⟨rfl, hb⟩; have HB3 := Aside0.mk hb; obtain ⟨z1, z2⟩ := HBC.out _ hb; clear hb)
  go_region_held3 (fun w' => w'.cell? ⟨w.heap.size, 0, none⟩ = some (.pointer none) ∧ w'.cell? ⟨w.heap.size + 1, 0, none⟩ = some (.pointer none)) (first | go_keep | exact HBC.out _ HB6.out | exact HBC.out _ HB5.out | exact HBC.out _ HB2.out | exact HBC.out _ HB1.out)
    (first
      | (go_at_call 43; (have _t := y1); (with_reducible refine (Shape_nil _).mono ?_); rintro e w1 ⟨rfl, hb⟩; have HB1 := Aside0.mk (HB3.out.trans ((undrew hb).mono HB3.out.size)); clear hb y1)
      | (go_at_call 43; (with_reducible refine (Shape_nil _).mono ?_); rintro e w2 ⟨rfl, hb⟩; have HB2 := Aside0.mk (HB1.out.trans (hb.mono HB1.out.size)); clear hb)
      | (go_at_call 47; (with_reducible refine (Pages_nil _).mono ?_); rintro e w5 ⟨rfl, hb⟩; have HB5 := Aside0.mk (HB2.out.trans (hb.mono HB2.out.size)); clear hb)
      | (go_at_call 80; (with_reducible refine (HEQ.out _).mono ?_); rintro e w6 ⟨rfl, hb⟩; have HB6 := Aside0.mk (HB5.out.trans (hb.mono HB5.out.size)); clear hb)
      | fail)
  obtain ⟨t1, t2⟩ := HBC.out _ HB6.out
  clear y2 z1 z2
  go_wp2_with (go_at_call 76; (with_reducible refine (HCO.out _ _).mono ?_); rintro e w4 ⟨rfl, hb⟩; have HB4 := Aside0.mk (HB6.out.trans (hb.mono HB6.out.size)); clear hb)
  go_ret
  exact ⟨rfl, VB.out.trans (HB4.out.mono VB.out.size)⟩
theorem MadeIs.likeR {N0 : Nat} {s : Int × Int × Int} {p x q y : Nat} {D E : PD} {ps qs : List Pg} {w : World} (h : MadeIs N0 s p x D ps w) (k : MadeIs N0 s q y E qs w) :
    (Calls Try.prog 50 #[.pointer (some ⟨p, 0, none⟩), .pointer (some ⟨q, 0, none⟩)] w fun e w' => e = .returned (.bool (withinP s ps qs)) ∧ Below w.heap.size w w') ∧
    (Calls Try.prog 51 #[.pointer (some ⟨p, 0, none⟩), .pointer (some ⟨q, 0, none⟩)] w fun e w' => e = .returned (.bool (withinP s ps qs && withinP s qs ps && alikeP s ps qs)) ∧ Below w.heap.size w w') ∧
    (Calls Try.prog 52 #[.pointer (some ⟨x, 0, none⟩), .pointer (some ⟨y, 0, none⟩)] w fun e w' => e = .returned (.bool (withinP s ps qs)) ∧ Below w.heap.size w w') ∧
    (Calls Try.prog 53 #[.pointer (some ⟨x, 0, none⟩), .pointer (some ⟨y, 0, none⟩)] w fun e w' => e = .returned (.bool (alikeP s ps qs)) ∧ Below w.heap.size w w') := by
  have hs := h.okS
  obtain ⟨⟨okD, okX, hD, hX⟩, h3, h4, h5⟩ := h
  obtain ⟨⟨okE, okY, kE, kY⟩, k3, k4, k5⟩ := k
  have hsh := h3.sh.trans k3.sh.symm
  refine ⟨?_, ?_, within_any hX kY hs (by omega) (by omega) h3.len k3.len, alike_any hX kY hs (by omega) (by omega) h3.len k3.len⟩
  · rw [← withinD_eq h3 k3]
    exact Within_any hD kE hsh
  · rw [← sameD_three h3 k3]
    exact Same_any hD kE hsh (h3.byt h5) (k3.byt k5)
theorem MadeIs.crashed {N0 : Nat} {s : Int × Int × Int} {p x c : Nat} {D : PD} {ps : List Pg} {w : World} (h : MadeIs N0 s p x D ps w) (P : PlanT) (hP : PlanOk P) (hc : ∃ ok, DevIs N0 c (crashD D P) ok w) :
    (Calls Try.prog 50 #[.pointer (some ⟨c, 0, none⟩), .pointer (some ⟨p, 0, none⟩)] w fun e w' => e = .returned (.bool true) ∧ Below w.heap.size w w') ∧
    (P = ⟨18446744073709551615, -1, 0⟩ → Calls Try.prog 51 #[.pointer (some ⟨c, 0, none⟩), .pointer (some ⟨p, 0, none⟩)] w fun e w' => e = .returned (.bool true) ∧ Below w.heap.size w w') := by
  have hs := h.okS
  have hsc := h.simC P hP
  obtain ⟨⟨okD, okX, hD, hX⟩, h3, h4, h5⟩ := h
  obtain ⟨ok, hc⟩ := hc
  have hsh := hsc.sh.trans h3.sh.symm
  refine ⟨?_, fun e => ?_⟩
  · rw [← within_crash h3 hsc]
    exact Within_any hc hD hsh
  · subst e
    rw [← same_all h3 hsc (Nat.le_trans h3.dirtyLe (by omega))]
    exact Same_any hc hD hsh (hsc.byt (h5.crash _ _)) (h3.byt h5)
end Go.Proofs.Ytkmanjfmffdcbaa.Fl

/- CrashWithin: walked. No condition but what every argument brings. -/
namespace Go.Proofs.Ytkmanjfmffdcbaa.Fl
open Go.RowKit Go.Proofs.YtkmanjfmffdcbaaW.PrintWords Go.Proofs.YtkmanjfmffdcbaaW.PrintMore Go.Maps
set_option linter.unusedSimpArgs false
set_option linter.unusedVariables false
theorem ones_ok : PlanOk ⟨18446744073709551615, -1, 0⟩ := ⟨by decide, by decide⟩
set_option maxHeartbeats 8000000 in
set_option maxRecDepth 100000 in
theorem CrashWithin_any {w : World} {A B : Option Addr} {c d : Nat} (s : Int × Int × Int) {ds es : List DeedT} (P : PlanT) (hP : PlanOk P) (hr : DRow w A ds) (h0 : ds.length ≤ 9223372036854775807) (hp : ∀ d ∈ ds, PlanOk d.P ∧ Byt d.l) (hr2 : DRow w B es) (h02 : es.length ≤ 9223372036854775807) (hp2 : ∀ d ∈ es, PlanOk d.P ∧ Byt d.l) :
    Calls Try.prog 11 #[.agg #[.int .i64 s.1, .int .i64 s.2.1, .int .i64 s.2.2], .slice A ds.length c, .agg #[.int .u64 P.keep, .int .i64 P.torn, .int .i64 P.cut], .slice B es.length d] w fun e w' => e = .returned (.bool true) ∧ Below w.heap.size w w' := by
  obtain ⟨n, hn⟩ : ∃ n, n = ds.length := ⟨_, rfl⟩
  obtain ⟨n2, hn2⟩ : ∃ n, n = es.length := ⟨_, rfl⟩
  obtain ⟨W, hW⟩ : ∃ W, W = (w.alloc (.cells #[.int .i64 s.1, .int .i64 s.2.1, .int .i64 s.2.2] 46)).alloc (.cells #[.int .u64 P.keep, .int .i64 P.torn, .int .i64 P.cut] 59) := ⟨_, rfl⟩
  obtain ⟨qb, hbox, hbox2⟩ := boxes_sp s P hW
  have hfew : ∀ V : World, Below W.heap.size W V → Calls Try.prog 25 #[.slice A n c] V fun e w' => e = .returned (.bool (fewB ds)) ∧ Below W.heap.size W w' := fun V hV => by
    rw [hn]
    exact (Few_any ((hr.below qb).below hV) h0).mono fun e w' ⟨h1, h2⟩ => ⟨h1, hV.trans (h2.mono hV.size)⟩
  have hfew2 : ∀ V : World, Below W.heap.size W V → Calls Try.prog 25 #[.slice B n2 d] V fun e w' => e = .returned (.bool (fewB es)) ∧ Below W.heap.size W w' := fun V hV => by
    rw [hn2]
    exact (Few_any ((hr2.below qb).below hV) h02).mono fun e w' ⟨h1, h2⟩ => ⟨h1, hV.trans (h2.mono hV.size)⟩
  have hmade := fun (hs : shapeB s = true) (hf : fewB ds = true) => Made_is2 (c := c) hs (hr.below qb) hf hp
  rw [← hn] at hmade
  have hmade2 := fun (hs : shapeB s = true) (hf : fewB es = true) => Made_is2 (c := d) hs (hr2.below qb) hf hp2
  rw [← hn2] at hmade2
  have HBOX := Lib.hid hbox
  have HBOX2 := Lib.hid hbox2
  have HFEW := Lib.hid hfew
  have HFEW2 := Lib.hid hfew2
  have HMADE := Lib.hid hmade
  have HMADE2 := Lib.hid hmade2
  have HW := Lib.hid hW
  have QB := Aside0.mk qb
  have HPP := Lib.hid hP
  obtain ⟨ON, hON⟩ : ∃ ON : Int, ON = 18446744073709551615 := ⟨_, rfl⟩
  have HON := Lib.hid hON
  rw [← hn] at h0
  rw [← hn2] at h02
  rw [← hn, ← hn2]
  clear hr hr2 hn hn2 hp hp2 hbox hbox2 hfew hfew2 hmade hmade2 hW qb hP hON
  by_cases hall : fewB ds = true ∧ fewB es = true ∧ shapeB s = true
  · obtain ⟨hf, hf2, hs⟩ := hall
    have HMD := Lib.hid (HMADE.out hs hf)
    have HMD2 := Lib.hid (HMADE2.out hs hf2)
    have HF := Lib.hid hf
    have HF2 := Lib.hid hf2
    have HS := Lib.hid hs
    clear hs hf hf2 HMADE HMADE2 h0 h02
    go_enter Try.func11, Try.ntmps11
    go_wp2_with fail
    rw [← HW.out]
    go_wp2_with (first
      | (go_at_call 45; (with_reducible refine (Awake12_any _).mono ?_); rintro e w1 ⟨rfl, hb⟩; have HB1 := Aside0.mk hb; clear hb)
      | (go_at_call 25; (with_reducible refine (HFEW.out _ HB1.out).mono ?_); rw [HF.out]; rintro e w2 ⟨rfl, hb⟩; have HB2 := Aside0.mk hb; clear hb)
      | (go_at_call 25; (with_reducible refine (HFEW2.out _ HB2.out).mono ?_); rw [HF2.out]; rintro e w3 ⟨rfl, hb⟩; obtain ⟨k1, k2, k3⟩ := HBOX.out _ hb; have HB3 := Aside0.mk hb; clear hb)
      | (go_at_call 26; (with_reducible refine (RShape_any _ _).mono ?_); rw [HS.out]; rintro e w4 ⟨rfl, hb⟩; have HB4 := Aside0.mk (HB3.out.trans (hb.mono HB3.out.size)); clear hb; obtain ⟨j1, j2, j3⟩ := HBOX.out _ HB4.out)
      | (go_at_call 29; (with_reducible refine (HMD.out _ HB4.out).mono ?_); rintro e w5 ⟨p, x, rfl, ⟨D, ps, hmi⟩, hb⟩; have HMI := Aside0.mk hmi; have HB5 := Aside0.mk (HB4.out.trans (hb.mono HB4.out.size)); obtain ⟨l1, l2, l3⟩ := HBOX.out _ HB5.out; clear hb hmi)
      | (go_at_call 29; (with_reducible refine (HMD2.out _ HB5.out).mono ?_); rintro e w6 ⟨q, y, rfl, ⟨E, qs, hmi⟩, hb⟩; have HMJ := Aside0.mk hmi; have HMI6 := Aside0.mk (HMI.out.below hb); have HB6 := Aside0.mk (HB5.out.trans (hb.mono HB5.out.size)); obtain ⟨i1, i2, i3⟩ := HBOX2.out (w6.alloc (.cells #[.int .u64 18446744073709551615, .int .i64 (-1), .int .i64 0] 59)) (HB6.out.alloc HB6.out.size _); clear hb hmi))
    obtain ⟨Y, hY⟩ : ∃ Y, Y = w6.alloc (.cells #[.int .u64 18446744073709551615, .int .i64 (-1), .int .i64 0] 59) := ⟨_, rfl⟩
    rw [← hY]
    have yb : Below w6.heap.size w6 Y := by rw [hY]; exact below_alloc (Below.refl _ _) _
    have y0 : Y.heap[w6.heap.size]? = some (.cells #[.int .u64 18446744073709551615, .int .i64 (-1), .int .i64 0] 59 (0, 0)) := by rw [hY]; exact blk_new w6 _
    have hpb : ∀ X : World, Below Y.heap.size Y X → X.cell? ⟨w6.heap.size, 0, none⟩ = some (.int .u64 18446744073709551615) ∧ X.cell? ⟨w6.heap.size, 1, none⟩ = some (.int .i64 (-1)) ∧ X.cell? ⟨w6.heap.size, 2, none⟩ = some (.int .i64 0) := fun X hX => by
      have := (hX.block _ (blt y0)).trans y0
      exact ⟨bcell this 0, bcell this 1, bcell this 2⟩
    obtain ⟨a, ha⟩ : ∃ a, a = withinP s ps qs := ⟨_, rfl⟩
    obtain ⟨b, hb⟩ : ∃ b, b = withinP s qs ps := ⟨_, rfl⟩
    obtain ⟨al, hal⟩ : ∃ al, al = alikeP s ps qs := ⟨_, rfl⟩
    have hmif := fun (X : World) (hX : Below Y.heap.size Y X) => (HMI6.out.below yb).below hX
    have hmjf := fun (X : World) (hX : Below Y.heap.size Y X) => (HMJ.out.below yb).below hX
    have hlr := fun (X : World) (hX : Below Y.heap.size Y X) => (hmif X hX).likeR (hmjf X hX)
    rw [← ha, ← hb, ← hal] at hlr
    have hrl := fun (X : World) (hX : Below Y.heap.size Y X) => ((hmjf X hX).likeR (hmif X hX)).2.2.1
    rw [← hb] at hrl
    obtain ⟨nd, hnd⟩ : ∃ nd, nd = D.dirty.length := ⟨_, rfl⟩
    have hdi := fun (X : World) (hX : Below Y.heap.size Y X) => (hmif X hX).both.dirty
    rw [← hnd] at hdi
    have hn60 : (nd : Int) ≤ 60 := by
      have := HMI.out.2.1.dirtyLe
      have := HMI.out.2.2.1
      omega
    have haf1 := (HMI6.out.below yb).after P HPP.out
    have haf2 : ∀ X : World, Below Y.heap.size Y X → Calls Try.prog 46 #[.pointer (some ⟨p, 0, none⟩), .agg #[.int .u64 18446744073709551615, .int .i64 (-1), .int .i64 0]] X fun e w' => ∃ c, e = .returned (.pointer (some ⟨c, 0, none⟩)) ∧ (∃ okc, DevIs W.heap.size c (crashD D ⟨18446744073709551615, -1, 0⟩) okc w') ∧ Below X.heap.size X w' := fun X hX => (hmif X hX).after ⟨18446744073709551615, -1, 0⟩ ones_ok
    have hfin := fun (X : World) (hX : Below Y.heap.size Y X) => QB.out.trans ((HB6.out.trans ((yb.trans (hX.mono yb.size)).mono HB6.out.size)).mono QB.out.size)
    have HPB := Lib.hid hpb
    have HMIF := Lib.hid hmif
    have HLR := Lib.hid hlr
    have HRL := Lib.hid hrl
    have HDI := Lib.hid hdi
    have HAF1 := Lib.hid haf1
    have HAF2 := Lib.hid haf2
    have HFIN := Lib.hid hfin
    have HY1 := Aside0.mk (Below.refl Y.heap.size Y)
    clear hY yb y0 hpb ha hb hal hmif hmjf hlr hrl hnd hdi haf1 haf2 hfin i1 i2 i3 l1 l2 l3 j1 j2 j3 k1 k2 k3
    cases a with
    | false =>
        go_wp2_with (first
          | (go_at_call 46; (with_reducible refine (HAF1.out).mono ?_); rintro e u1 ⟨c1, rfl, hC, hb⟩; have HC1 := Aside0.mk hC; have U1 := Aside0.mk (HY1.out.trans (hb.mono HY1.out.size)); clear hb hC)
          | (go_at_call 50; (with_reducible refine ((HMIF.out _ U1.out).crashed P HPP.out HC1.out).1.mono ?_); rintro e u2 ⟨rfl, hb⟩; have U2 := Aside0.mk (U1.out.trans (hb.mono U1.out.size)); obtain ⟨p1, p2, p3⟩ := HPB.out _ U2.out; clear hb)
          | (go_at_call 40; (with_reducible refine (HDI.out _ U2.out).mono ?_); rintro e u3 ⟨rfl, rfl⟩)
          | (go_at_call 46; (with_reducible refine (HAF2.out _ U2.out).mono ?_); rintro e u4 ⟨c2, rfl, hC, hb⟩; have HC2 := Aside0.mk hC; have U4 := Aside0.mk (U2.out.trans (hb.mono U2.out.size)); clear hb hC)
          | (go_at_call 51; (with_reducible refine (((HMIF.out _ U4.out).crashed _ ones_ok HC2.out).2 rfl).mono ?_); rintro e u5 ⟨rfl, hb⟩; have U5 := Aside0.mk (U4.out.trans (hb.mono U4.out.size)); clear hb)
          | (go_at_call 50; (with_reducible refine ((HLR.out _ U5.out).1).mono ?_); rintro e u6 ⟨rfl, hb⟩; have U6 := Aside0.mk (U5.out.trans (hb.mono U5.out.size)); clear hb)
          | (go_at_call 52; (with_reducible refine ((HLR.out _ U6.out).2.2.1).mono ?_); rintro e u7 ⟨rfl, hb⟩; have U7 := Aside0.mk (U6.out.trans (hb.mono U6.out.size)); clear hb)
          | (go_at_call 51; (with_reducible refine ((HLR.out _ U7.out).2.1).mono ?_); rintro e u8 ⟨rfl, hb⟩; have U8 := Aside0.mk (U7.out.trans (hb.mono U7.out.size)); clear hb)
          | (go_at_call 52; (with_reducible refine ((HLR.out _ U8.out).2.2.1).mono ?_); rintro e u9 ⟨rfl, hb⟩; have U9 := Aside0.mk (U8.out.trans (hb.mono U8.out.size)); clear hb)
          | (go_at_call 51; (with_reducible refine (Same_nil _).mono ?_); rintro e u12 ⟨rfl, hb⟩; have U12 := Aside0.mk (U9.out.trans (hb.mono U9.out.size)); clear hb))
        go_ret
        exact ⟨rfl, HFIN.out _ U12.out⟩
    | true =>
      cases b with
      | false =>
        go_wp2_with (first
          | (go_at_call 46; (with_reducible refine (HAF1.out).mono ?_); rintro e u1 ⟨c1, rfl, hC, hb⟩; have HC1 := Aside0.mk hC; have U1 := Aside0.mk (HY1.out.trans (hb.mono HY1.out.size)); clear hb hC)
          | (go_at_call 50; (with_reducible refine ((HMIF.out _ U1.out).crashed P HPP.out HC1.out).1.mono ?_); rintro e u2 ⟨rfl, hb⟩; have U2 := Aside0.mk (U1.out.trans (hb.mono U1.out.size)); obtain ⟨p1, p2, p3⟩ := HPB.out _ U2.out; clear hb)
          | (go_at_call 40; (with_reducible refine (HDI.out _ U2.out).mono ?_); rintro e u3 ⟨rfl, rfl⟩)
          | (go_at_call 46; (with_reducible refine (HAF2.out _ U2.out).mono ?_); rintro e u4 ⟨c2, rfl, hC, hb⟩; have HC2 := Aside0.mk hC; have U4 := Aside0.mk (U2.out.trans (hb.mono U2.out.size)); clear hb hC)
          | (go_at_call 51; (with_reducible refine (((HMIF.out _ U4.out).crashed _ ones_ok HC2.out).2 rfl).mono ?_); rintro e u5 ⟨rfl, hb⟩; have U5 := Aside0.mk (U4.out.trans (hb.mono U4.out.size)); clear hb)
          | (go_at_call 50; (with_reducible refine ((HLR.out _ U5.out).1).mono ?_); rintro e u6 ⟨rfl, hb⟩; have U6 := Aside0.mk (U5.out.trans (hb.mono U5.out.size)); clear hb)
          | (go_at_call 52; (with_reducible refine ((HLR.out _ U6.out).2.2.1).mono ?_); rintro e u7 ⟨rfl, hb⟩; have U7 := Aside0.mk (U6.out.trans (hb.mono U6.out.size)); clear hb)
          | (go_at_call 51; (with_reducible refine ((HLR.out _ U7.out).2.1).mono ?_); rintro e u8 ⟨rfl, hb⟩; have U8 := Aside0.mk (U7.out.trans (hb.mono U7.out.size)); clear hb)
          | (go_at_call 52; (with_reducible refine ((HLR.out _ U8.out).2.2.1).mono ?_); rintro e u9 ⟨rfl, hb⟩; have U9 := Aside0.mk (U8.out.trans (hb.mono U8.out.size)); clear hb)
          | (go_at_call 52; (with_reducible refine ((HRL.out _ U9.out)).mono ?_); rintro e u10 ⟨rfl, hb⟩; have U10 := Aside0.mk (U9.out.trans (hb.mono U9.out.size)); clear hb)
          | (go_at_call 51; (with_reducible refine (Same_nil _).mono ?_); rintro e u12 ⟨rfl, hb⟩; have U12 := Aside0.mk (U10.out.trans (hb.mono U10.out.size)); clear hb))
        go_ret
        exact ⟨rfl, HFIN.out _ U12.out⟩
      | true =>
        go_wp2_with (first
          | (go_at_call 46; (with_reducible refine (HAF1.out).mono ?_); rintro e u1 ⟨c1, rfl, hC, hb⟩; have HC1 := Aside0.mk hC; have U1 := Aside0.mk (HY1.out.trans (hb.mono HY1.out.size)); clear hb hC)
          | (go_at_call 50; (with_reducible refine ((HMIF.out _ U1.out).crashed P HPP.out HC1.out).1.mono ?_); rintro e u2 ⟨rfl, hb⟩; have U2 := Aside0.mk (U1.out.trans (hb.mono U1.out.size)); obtain ⟨p1, p2, p3⟩ := HPB.out _ U2.out; clear hb)
          | (go_at_call 40; (with_reducible refine (HDI.out _ U2.out).mono ?_); rintro e u3 ⟨rfl, rfl⟩)
          | (go_at_call 46; (with_reducible refine (HAF2.out _ U2.out).mono ?_); rintro e u4 ⟨c2, rfl, hC, hb⟩; have HC2 := Aside0.mk hC; have U4 := Aside0.mk (U2.out.trans (hb.mono U2.out.size)); clear hb hC)
          | (go_at_call 51; (with_reducible refine (((HMIF.out _ U4.out).crashed _ ones_ok HC2.out).2 rfl).mono ?_); rintro e u5 ⟨rfl, hb⟩; have U5 := Aside0.mk (U4.out.trans (hb.mono U4.out.size)); clear hb)
          | (go_at_call 50; (with_reducible refine ((HLR.out _ U5.out).1).mono ?_); rintro e u6 ⟨rfl, hb⟩; have U6 := Aside0.mk (U5.out.trans (hb.mono U5.out.size)); clear hb)
          | (go_at_call 52; (with_reducible refine ((HLR.out _ U6.out).2.2.1).mono ?_); rintro e u7 ⟨rfl, hb⟩; have U7 := Aside0.mk (U6.out.trans (hb.mono U6.out.size)); clear hb)
          | (go_at_call 51; (with_reducible refine ((HLR.out _ U7.out).2.1).mono ?_); rintro e u8 ⟨rfl, hb⟩; have U8 := Aside0.mk (U7.out.trans (hb.mono U7.out.size)); clear hb)
          | (go_at_call 52; (with_reducible refine ((HLR.out _ U8.out).2.2.1).mono ?_); rintro e u9 ⟨rfl, hb⟩; have U9 := Aside0.mk (U8.out.trans (hb.mono U8.out.size)); clear hb)
          | (go_at_call 52; (with_reducible refine ((HRL.out _ U9.out)).mono ?_); rintro e u10 ⟨rfl, hb⟩; have U10 := Aside0.mk (U9.out.trans (hb.mono U9.out.size)); clear hb)
          | (go_at_call 53; (with_reducible refine ((HLR.out _ U10.out).2.2.2).mono ?_); rintro e u11 ⟨rfl, hb⟩; have U11 := Aside0.mk (U10.out.trans (hb.mono U10.out.size)); clear hb)
          | (go_at_call 51; (with_reducible refine (Same_nil _).mono ?_); rintro e u12 ⟨rfl, hb⟩; have U12 := Aside0.mk (U11.out.trans (hb.mono U11.out.size)); clear hb))
        go_ret
        exact ⟨rfl, HFIN.out _ U12.out⟩
  · clear HMADE HMADE2 h0 h02
    cases hf : fewB ds with
    | false =>
      have HF := Lib.hid hf
      clear hf hall
      go_enter Try.func11, Try.ntmps11
      go_wp2_with fail
      rw [← HW.out]
      go_wp2_with (first
        | (go_at_call 45; (with_reducible refine (Awake12_any _).mono ?_); rintro e w1 ⟨rfl, hb⟩; have HB1 := Aside0.mk hb; clear hb)
        | (go_at_call 25; (with_reducible refine (HFEW.out _ HB1.out).mono ?_); rw [HF.out]; rintro e w2 ⟨rfl, hb⟩; have HB2 := Aside0.mk hb; clear hb))
      go_ret
      exact ⟨rfl, QB.out.trans (HB2.out.mono QB.out.size)⟩
    | true =>
      have HF := Lib.hid hf
      cases hf2 : fewB es with
      | false =>
        have HF2 := Lib.hid hf2
        clear hf hf2 hall
        go_enter Try.func11, Try.ntmps11
        go_wp2_with fail
        rw [← HW.out]
        go_wp2_with (first
          | (go_at_call 45; (with_reducible refine (Awake12_any _).mono ?_); rintro e w1 ⟨rfl, hb⟩; have HB1 := Aside0.mk hb; clear hb)
          | (go_at_call 25; (with_reducible refine (HFEW.out _ HB1.out).mono ?_); rw [HF.out]; rintro e w2 ⟨rfl, hb⟩; have HB2 := Aside0.mk hb; clear hb)
          | (go_at_call 25; (with_reducible refine (HFEW2.out _ HB2.out).mono ?_); rw [HF2.out]; rintro e w3 ⟨rfl, hb⟩; obtain ⟨k1, k2, k3⟩ := HBOX.out _ hb; have HB3 := Aside0.mk hb; clear hb))
        go_ret
        exact ⟨rfl, QB.out.trans (HB3.out.mono QB.out.size)⟩
      | true =>
        have HF2 := Lib.hid hf2
        have hs : shapeB s = false := by
          cases h : shapeB s with
          | false => rfl
          | true => exact absurd ⟨hf, hf2, h⟩ hall
        have HS := Lib.hid hs
        clear hf hf2 hs hall
        go_enter Try.func11, Try.ntmps11
        go_wp2_with fail
        rw [← HW.out]
        go_wp2_with (first
          | (go_at_call 45; (with_reducible refine (Awake12_any _).mono ?_); rintro e w1 ⟨rfl, hb⟩; have HB1 := Aside0.mk hb; clear hb)
          | (go_at_call 25; (with_reducible refine (HFEW.out _ HB1.out).mono ?_); rw [HF.out]; rintro e w2 ⟨rfl, hb⟩; have HB2 := Aside0.mk hb; clear hb)
          | (go_at_call 25; (with_reducible refine (HFEW2.out _ HB2.out).mono ?_); rw [HF2.out]; rintro e w3 ⟨rfl, hb⟩; obtain ⟨k1, k2, k3⟩ := HBOX.out _ hb; have HB3 := Aside0.mk hb; clear hb)
          | (go_at_call 26; (with_reducible refine (RShape_any _ _).mono ?_); rw [HS.out]; rintro e w4 ⟨rfl, hb⟩; have HB4 := Aside0.mk (HB3.out.trans (hb.mono HB3.out.size)); clear hb))
        go_ret
        exact ⟨rfl, QB.out.trans (HB4.out.mono QB.out.size)⟩
theorem crash_within_walk (a b c : Int) (A : Option Addr) (d : Nat) (ds : List DeedT) (k t u : Int) (B : Option Addr) (e : Nat) (es : List DeedT) (W : World) (_ : (Lit.int .i64 a).wf = true) (_ : (Lit.int .i64 b).wf = true) (_ : (Lit.int .i64 c).wf = true)
    (hr : DRow W A ds) (h0 : ds.length ≤ 9223372036854775807) (hp : ∀ d ∈ ds, PlanOk d.P ∧ Byt d.l) (hk : (Lit.int .u64 k).wf = true) (_ : (Lit.int .i64 t).wf = true) (_ : (Lit.int .i64 u).wf = true) (hr2 : DRow W B es) (h02 : es.length ≤ 9223372036854775807) (hp2 : ∀ d ∈ es, PlanOk d.P ∧ Byt d.l) :
    Calls Try.prog 11 #[.agg #[.int .i64 a, .int .i64 b, .int .i64 c], .slice A ds.length d, .agg #[.int .u64 k, .int .i64 t, .int .i64 u], .slice B es.length e] W fun e w' => e = .returned (.bool true) ∧ Below W.heap.size W w' := CrashWithin_any (a, b, c) ⟨k, t, u⟩ (plan_of hk) hr h0 hp hr2 h02 hp2
end Go.Proofs.Ytkmanjfmffdcbaa.Fl

