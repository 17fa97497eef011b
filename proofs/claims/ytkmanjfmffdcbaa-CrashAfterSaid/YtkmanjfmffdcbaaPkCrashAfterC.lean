/- The parts of this proof, one after the other (wip/tools/packfl.py). -/
import Derived.Test.YtkmanjfmffdcbaaPkCrashAfterB
import Derived.Deep.QuietTactic
import Derived.BigQuiet
/- The law's own words within and alike: walked. No condition. -/
namespace Go.Proofs.Ytkmanjfmffdcbaa.Fl
open Go.RowKit Go.Proofs.YtkmanjfmffdcbaaW.PrintWords Go.Proofs.YtkmanjfmffdcbaaW.PrintMore Go.Maps
set_option linter.unusedSimpArgs false
set_option linter.unusedVariables false
theorem readP_len {n : Nat} {a b : Int} {qs : List Pg} (h : ∀ q ∈ qs, q.2.1.length = n) : (readP n a b qs).length = n := by
  unfold readP
  cases hf : qs.find? (atB a b) with
  | none => exact fullT_length _ _
  | some p => exact h p (List.mem_of_find?_eq_some hf)
theorem all_true {α : Type} {l : List α} {f : α → Bool} {n : Nat} (hn : n = l.length) (h : ∀ j p, j < n → l[j]? = some p → f p = true) : l.all f = true := by
  rw [List.all_eq_true]
  intro p hp
  obtain ⟨j, hj, e⟩ := List.getElem_of_mem hp
  exact h j p (by omega) (by rw [← e, List.getElem?_eq_getElem hj])
theorem all_false {α : Type} {l : List α} {f : α → Bool} {k : Nat} {p : α} (hp : l[k]? = some p) (h : f p = false) : l.all f = false := by
  cases hh : l.all f with
  | false => rfl
  | true =>
    rw [List.all_eq_true] at hh
    rw [hh p (List.mem_of_getElem? hp)] at h
    cases h
theorem all_step {α : Type} {l : List α} {f : α → Bool} {k : Nat} {p : α} (hp : l[k]? = some p) (h : f p = true) (hpre : ∀ j p, j < k → l[j]? = some p → f p = true) : ∀ j p, j < k + 1 → l[j]? = some p → f p = true := fun j q hj hq => by
  rcases Nat.lt_or_ge j k with h2 | h2
  · exact hpre j q h2 hq
  · obtain rfl : j = k := by omega
    rw [hp] at hq
    rw [← Option.some.inj hq]
    exact h
section
variable {N0 N1 x y : Nat} {s : Int × Int × Int} {ps qs : List Pg} {okX okY : Nat → Prop} {w : World}
set_option maxHeartbeats 2000000 in
set_option maxRecDepth 100000 in
theorem alike_any (hX : RefIs N0 x s ps okX w) (hY : RefIs N1 y s qs okY w) (hs : ShapeOk s) (hl : ps.length < 1000000) (hl2 : qs.length < 1000000) (hp : ∀ q ∈ ps, q.2.1.length = s.2.2.toNat) (hq : ∀ q ∈ qs, q.2.1.length = s.2.2.toNat) :
    Calls Try.prog 53 #[.pointer (some ⟨x, 0, none⟩), .pointer (some ⟨y, 0, none⟩)] w fun e w' => e = .returned (.bool (alikeP s ps qs)) ∧ Below w.heap.size w w' := by
  obtain ⟨A, c, hx, hrow, hR⟩ := ref_open hX
  obtain ⟨n, hn⟩ : ∃ n, n = ps.length := ⟨_, rfl⟩
  rw [← hn] at hx hrow hl
  have k3 : w.cell? ⟨x, 3, none⟩ = some (.slice A n c) := bcell hx 3
  have hfd := fun (X : World) (hX : Below w.heap.size w X) (a b : Int) => RFind_any (hY.below hX) hl2 a b
  have hrd := fun (X : World) (hX : Below w.heap.size w X) (a b : Int) => RRead_any (hY.below hX) hs hl2 a b
  have hml := fun (a b : Int) => readP_len (a := a) (b := b) hq
  have hm1 := hs.c0
  have hm2 := hs.c1
  have HN := Lib.hid hn
  have HROW := Lib.hid hrow
  have HFD := Lib.hid hfd
  have HRD := Lib.hid hrd
  have HML := Lib.hid hml
  have HPL := Lib.hid hp
  have HM1 := Lib.hid hm1
  have HM2 := Lib.hid hm2
  have HQL := Lib.hid hl2
  clear hx hrow hR hn hfd hrd hml hp hq hX hY hs hm1 hm2 hl2
  obtain ⟨f, hf⟩ : ∃ f : Pg → Bool, f = fun p => !(decide (0 ≤ findI p.1.1 p.1.2 qs) && !decide (p.2.1 = readP s.2.2.toNat p.1.1 p.1.2 qs)) := ⟨_, rfl⟩
  have hall : alikeP s ps qs = ps.all f := by rw [hf]; rfl
  have HF := Lib.hid hf
  have HALL := Lib.hid hall
  clear hf hall
  go_enter Try.func53, Try.ntmps53
  go_wp2
  go_loopw [12] (fun v12 wr => ∃ k : Nat, k ≤ n ∧ v12 = .int .i64 (k : Int) ∧ Below w.heap.size w wr ∧ ∀ j p, j < k → ps[j]? = some p → f p = true) (fun v12 _ => n - (intOf v12).toNat)
  case atStart => exact ⟨0, Nat.zero_le _, rfl, Below.refl _ _, fun j p hj => by omega⟩
  case round =>
    obtain ⟨k, hk, rfl, hb, hpre⟩ := hrel
    have HB := Aside0.mk hb
    have HPRE := Lib.hid hpre
    clear hb hpre k3
    by_cases hlt : k < n
    · obtain ⟨q, hq⟩ : ∃ q, ps[k]? = some q := ⟨_, List.getElem?_eq_getElem (by have := HN.out; omega)⟩
      obtain ⟨g, rfl, _, _, hrow⟩ := HROW.out (by omega)
      obtain ⟨A1, c1, hc⟩ := (hrow.below HB.out).cell hq
      have d0 := hc.c0; have d1 := hc.c1; have d2 := hc.c2; have d3 := hc.c3
      obtain ⟨A5, c5, e5, _, hC⟩ := hc.row.reads
      injection e5 with e5 e6 e7
      subst e5 e7
      have hql := HPL.out q (List.mem_of_getElem? hq)
      have k0 : (0 : Int) ≤ (k : Int) := by omega
      have k2 : (k : Int) < (n : Int) := by omega
      obtain ⟨⟨pa, pb⟩, pl, px⟩ := q
      simp only at d0 d1 d2 d3 hql hC
      obtain ⟨V, hV⟩ : ∃ V, V = wr.alloc (.cells #[.int .i64 pa, .int .i64 pb, .slice A1 pl.length c1, .bool px] TP) := ⟨_, rfl⟩
      have y0 : V.heap[wr.heap.size]? = some (.cells #[.int .i64 pa, .int .i64 pb, .slice A1 pl.length c1, .bool px] TP (0, 0)) := by rw [hV]; exact blk_new wr _
      have yb : Below wr.heap.size wr V := by rw [hV]; exact below_alloc (Below.refl _ _) _
      have hbox : ∀ X : World, Below V.heap.size V X → X.cell? ⟨wr.heap.size, 0, none⟩ = some (.int .i64 pa) ∧ X.cell? ⟨wr.heap.size, 1, none⟩ = some (.int .i64 pb) ∧ X.cell? ⟨wr.heap.size, 2, none⟩ = some (.slice A1 pl.length c1) := fun X hX => by
        have := (hX.block wr.heap.size (blt y0)).trans y0
        exact ⟨bcell this 0, bcell this 1, bcell this 2⟩
      have vb : Below w.heap.size w V := HB.out.trans (yb.mono HB.out.size)
      have hfp : f ((pa, pb), pl, px) = !(decide (0 ≤ findI pa pb qs) && !decide (pl = readP s.2.2.toNat pa pb qs)) := by rw [HF.out]
      obtain ⟨F, hF⟩ : ∃ F, F = findI pa pb qs := ⟨_, rfl⟩
      obtain ⟨R, hRR⟩ : ∃ R, R = readP s.2.2.toNat pa pb qs := ⟨_, rfl⟩
      have hfind := HFD.out V.drew vb.drew pa pb
      have hread := fun (X : World) (hX : Below V.heap.size V X) => HRD.out X (vb.trans (hX.mono vb.size)) pa pb
      have hrl := HML.out pa pb
      rw [← hF] at hfind hfp
      rw [← hRR] at hread hrl hfp
      obtain ⟨y1, y2, y3⟩ := hbox V.drew ((Below.refl _ V).drew)
      have hFl : -1 ≤ F ∧ F < 2000000 := by
        rw [hF, findI]
        rcases idxI_cases (atB pa pb) qs with h | ⟨i, a, h, hi⟩ <;> rw [h]
        · omega
        · have := (List.getElem?_eq_some_iff.1 hi).1
          have := HQL.out
          omega
      have HV := Lib.hid hV
      have VB := Aside0.mk vb
      have HBOX := Lib.hid hbox
      have HFIND := Lib.hid hfind
      have HREAD := Lib.hid hread
      have HFP := Lib.hid hfp
      have HQ := Lib.hid hq
      have HC := Aside0.mk (Kd.C_below hC yb)
      have HL1 := Lib.hid (show pl.length < 1000000 by have := HM2.out; omega)
      have HL2 := Lib.hid (show R.length < 1000000 by have := HM2.out; omega)
      clear hc hrow hC hql hV y0 yb hbox vb hfp hF hRR hfind hread hrl hq
      by_cases h0 : 0 ≤ F
      · have e1 : decide (0 ≤ F) = true := by simpa using h0
        cases hpr : decide (pl = R) with
        | true =>
          have HT := Lib.hid (show f ((pa, pb), pl, px) = true by rw [HFP.out, e1, hpr]; rfl)
          have HPR := Lib.hid hpr
          clear hpr
          go_wp2_with fail
          rw [← HV.out]
          go_region_held3 (fun w' => w'.cell? ⟨wr.heap.size, 0, none⟩ = some (.int .i64 pa) ∧ w'.cell? ⟨wr.heap.size, 1, none⟩ = some (.int .i64 pb) ∧ w'.cell? ⟨wr.heap.size, 2, none⟩ = some (.slice A1 pl.length c1)) (first | go_keep | exact HBOX.out _ HB3.out | exact HBOX.out _ HB2.out | exact HBOX.out _ HB1.out)
            (first
              | (go_at_call 48; (with_reducible refine HFIND.out.mono ?_); rintro e w1 ⟨rfl, hb⟩; have HB1 := Aside0.mk (undrew hb); clear hb)
              | (go_at_call 49; (with_reducible refine (HREAD.out _ HB1.out).mono ?_); rintro e w2 ⟨v2, rfl, hr, hb⟩; obtain ⟨A2, c2, rfl, _, hC2⟩ := hr.reads; have HB2 := Aside0.mk (HB1.out.trans (hb.mono HB1.out.size)); have HC2 := Aside0.mk hC2; clear hb hr hC2)
              | (go_at_call 19; (with_reducible refine (Bytes_any (Kd.C_below HC.out HB2.out) HC2.out HL1.out HL2.out).mono ?_); rw [HPR.out]; rintro e w3 ⟨rfl, hb⟩; have HB3 := Aside0.mk (HB2.out.trans (hb.mono HB2.out.size)); clear hb)
              | fail)
          clear y1 y2 y3
          go_wp2
          exact ⟨⟨k + 1, by omega, by go_num, VB.out.trans (HB3.out.mono VB.out.size), all_step HQ.out HT.out HPRE.out⟩, by simp [intOf]; omega⟩
        | false =>
          have HT := Lib.hid (show f ((pa, pb), pl, px) = false by rw [HFP.out, e1, hpr]; rfl)
          have HPR := Lib.hid hpr
          clear hpr
          go_wp2_with fail
          rw [← HV.out]
          go_region_held3 (fun w' => w'.cell? ⟨wr.heap.size, 0, none⟩ = some (.int .i64 pa) ∧ w'.cell? ⟨wr.heap.size, 1, none⟩ = some (.int .i64 pb) ∧ w'.cell? ⟨wr.heap.size, 2, none⟩ = some (.slice A1 pl.length c1)) (first | go_keep | exact HBOX.out _ HB3.out | exact HBOX.out _ HB2.out | exact HBOX.out _ HB1.out)
            (first
              | (go_at_call 48; (with_reducible refine HFIND.out.mono ?_); rintro e w1 ⟨rfl, hb⟩; have HB1 := Aside0.mk (undrew hb); clear hb)
              | (go_at_call 49; (with_reducible refine (HREAD.out _ HB1.out).mono ?_); rintro e w2 ⟨v2, rfl, hr, hb⟩; obtain ⟨A2, c2, rfl, _, hC2⟩ := hr.reads; have HB2 := Aside0.mk (HB1.out.trans (hb.mono HB1.out.size)); have HC2 := Aside0.mk hC2; clear hb hr hC2)
              | (go_at_call 19; (with_reducible refine (Bytes_any (Kd.C_below HC.out HB2.out) HC2.out HL1.out HL2.out).mono ?_); rw [HPR.out]; rintro e w3 ⟨rfl, hb⟩; have HB3 := Aside0.mk (HB2.out.trans (hb.mono HB2.out.size)); clear hb)
              | fail)
          clear y1 y2 y3
          go_wp2
          go_ret
          exact ⟨by rw [HALL.out, all_false HQ.out HT.out]; rfl, VB.out.trans (HB3.out.mono VB.out.size)⟩
      · have e1 : decide (0 ≤ F) = false := by simpa using h0
        have HT := Lib.hid (show f ((pa, pb), pl, px) = true by rw [HFP.out, e1]; rfl)
        go_wp2_with fail
        rw [← HV.out]
        refine wp_region_held_drew (S := (fun w' => w'.cell? ⟨wr.heap.size, 0, none⟩ = some (.int .i64 pa) ∧ w'.cell? ⟨wr.heap.size, 1, none⟩ = some (.int .i64 pb) ∧ w'.cell? ⟨wr.heap.size, 2, none⟩ = some (.slice A1 pl.length c1))) (by kernel_rfl) ?_ (fun hHeld => ?_)
        · first | exact HBOX.out _ HB1.out | go_keep
        first | (refine wpAnyH_take (i := 0) (oi := ?o1) (v := ?v1) ?i1 (by kernel_rfl) (by kernel_rfl) (by kernel_rfl) ?q1 ?y1 (by assumption) ?r1; (case i1 => (simp only [List.getElem?_toArray, List.getElem?_cons_succ, List.getElem?_cons_zero]; rfl)); (case q1 => exact fun _ _ _ h => h); (case y1 => (refine Or.inl ⟨by rfl, ?_⟩; intro w hSw; (try dsimp only at hSw); go_simp; (try (with_reducible rfl))))) | (refine wpAnyH_take (i := 0) (oi := ?o2) (v := undef) ?i2 (by kernel_rfl) (by kernel_rfl) (by kernel_rfl) ?q2 ?y2 (by assumption) ?r2; (case i2 => (simp only [List.getElem?_toArray, List.getElem?_cons_succ, List.getElem?_cons_zero]; rfl)); (case q2 => exact fun _ _ _ h => h); (case y2 => exact Or.inr ⟨by rfl, rfl⟩))
        try simp only [Act.put, List.setIfInBounds_toArray, List.set_cons_zero, List.set_cons_succ]
        first | (refine wpAnyH_take (i := 1) (oi := ?o3) (v := ?v3) ?i3 (by kernel_rfl) (by kernel_rfl) (by kernel_rfl) ?q3 ?y3 (by assumption) ?r3; (case i3 => (simp only [List.getElem?_toArray, List.getElem?_cons_succ, List.getElem?_cons_zero]; rfl)); (case q3 => exact fun _ _ _ h => h); (case y3 => (refine Or.inl ⟨by rfl, ?_⟩; intro w hSw; (try dsimp only at hSw); go_simp; (try (with_reducible rfl))))) | (refine wpAnyH_take (i := 1) (oi := ?o4) (v := undef) ?i4 (by kernel_rfl) (by kernel_rfl) (by kernel_rfl) ?q4 ?y4 (by assumption) ?r4; (case i4 => (simp only [List.getElem?_toArray, List.getElem?_cons_succ, List.getElem?_cons_zero]; rfl)); (case q4 => exact fun _ _ _ h => h); (case y4 => exact Or.inr ⟨by rfl, rfl⟩))
        try simp only [Act.put, List.setIfInBounds_toArray, List.set_cons_zero, List.set_cons_succ]
        first | (refine wpAnyH_take (i := 2) (oi := ?o5) (v := ?v5) ?i5 (by kernel_rfl) (by kernel_rfl) (by kernel_rfl) ?q5 ?y5 (by assumption) ?r5; (case i5 => (simp only [List.getElem?_toArray, List.getElem?_cons_succ, List.getElem?_cons_zero]; rfl)); (case q5 => exact fun _ _ _ h => h); (case y5 => (refine Or.inl ⟨by rfl, ?_⟩; intro w hSw; (try dsimp only at hSw); go_simp; (try (with_reducible rfl))))) | (refine wpAnyH_take (i := 2) (oi := ?o6) (v := undef) ?i6 (by kernel_rfl) (by kernel_rfl) (by kernel_rfl) ?q6 ?y6 (by assumption) ?r6; (case i6 => (simp only [List.getElem?_toArray, List.getElem?_cons_succ, List.getElem?_cons_zero]; rfl)); (case q6 => exact fun _ _ _ h => h); (case y6 => exact Or.inr ⟨by rfl, rfl⟩))
        try simp only [Act.put, List.setIfInBounds_toArray, List.set_cons_zero, List.set_cons_succ]
        first | (refine wpAnyH_take (i := 3) (oi := ?o7) (v := ?v7) ?i7 (by kernel_rfl) (by kernel_rfl) (by kernel_rfl) ?q7 ?y7 (by assumption) ?r7; (case i7 => (simp only [List.getElem?_toArray, List.getElem?_cons_succ, List.getElem?_cons_zero]; rfl)); (case q7 => exact fun _ _ _ h => h); (case y7 => (refine Or.inl ⟨by rfl, ?_⟩; intro w hSw; (try dsimp only at hSw); go_simp; (try (with_reducible rfl))))) | (refine wpAnyH_take (i := 3) (oi := ?o8) (v := undef) ?i8 (by kernel_rfl) (by kernel_rfl) (by kernel_rfl) ?q8 ?y8 (by assumption) ?r8; (case i8 => (simp only [List.getElem?_toArray, List.getElem?_cons_succ, List.getElem?_cons_zero]; rfl)); (case q8 => exact fun _ _ _ h => h); (case y8 => exact Or.inr ⟨by rfl, rfl⟩))
        try simp only [Act.put, List.setIfInBounds_toArray, List.set_cons_zero, List.set_cons_succ]
        first | (refine wpAnyH_take (i := 4) (oi := ?o9) (v := ?v9) ?i9 (by kernel_rfl) (by kernel_rfl) (by kernel_rfl) ?q9 ?y9 (by assumption) ?r9; (case i9 => (simp only [List.getElem?_toArray, List.getElem?_cons_succ, List.getElem?_cons_zero]; rfl)); (case q9 => exact fun _ _ _ h => h); (case y9 => (refine Or.inl ⟨by rfl, ?_⟩; intro w hSw; (try dsimp only at hSw); go_simp; (try (with_reducible rfl))))) | (refine wpAnyH_take (i := 4) (oi := ?o10) (v := undef) ?i10 (by kernel_rfl) (by kernel_rfl) (by kernel_rfl) ?q10 ?y10 (by assumption) ?r10; (case i10 => (simp only [List.getElem?_toArray, List.getElem?_cons_succ, List.getElem?_cons_zero]; rfl)); (case q10 => exact fun _ _ _ h => h); (case y10 => exact Or.inr ⟨by rfl, rfl⟩))
        try simp only [Act.put, List.setIfInBounds_toArray, List.set_cons_zero, List.set_cons_succ]
        first | (refine wpAnyH_take (i := 5) (oi := ?o11) (v := ?v11) ?i11 (by kernel_rfl) (by kernel_rfl) (by kernel_rfl) ?q11 ?y11 (by assumption) ?r11; (case i11 => (simp only [List.getElem?_toArray, List.getElem?_cons_succ, List.getElem?_cons_zero]; rfl)); (case q11 => exact fun _ _ _ h => h); (case y11 => (refine Or.inl ⟨by rfl, ?_⟩; intro w hSw; (try dsimp only at hSw); go_simp; (try (with_reducible rfl))))) | (refine wpAnyH_take (i := 5) (oi := ?o12) (v := undef) ?i12 (by kernel_rfl) (by kernel_rfl) (by kernel_rfl) ?q12 ?y12 (by assumption) ?r12; (case i12 => (simp only [List.getElem?_toArray, List.getElem?_cons_succ, List.getElem?_cons_zero]; rfl)); (case q12 => exact fun _ _ _ h => h); (case y12 => exact Or.inr ⟨by rfl, rfl⟩))
        try simp only [Act.put, List.setIfInBounds_toArray, List.set_cons_zero, List.set_cons_succ]
        first | (refine wpAnyH_take (i := 6) (oi := ?o13) (v := ?v13) ?i13 (by kernel_rfl) (by kernel_rfl) (by kernel_rfl) ?q13 ?y13 (by assumption) ?r13; (case i13 => (simp only [List.getElem?_toArray, List.getElem?_cons_succ, List.getElem?_cons_zero]; rfl)); (case q13 => exact fun _ _ _ h => h); (case y13 => (refine Or.inl ⟨by rfl, ?_⟩; intro w hSw; (try dsimp only at hSw); go_simp; (try (with_reducible rfl))))) | (refine wpAnyH_take (i := 6) (oi := ?o14) (v := undef) ?i14 (by kernel_rfl) (by kernel_rfl) (by kernel_rfl) ?q14 ?y14 (by assumption) ?r14; (case i14 => (simp only [List.getElem?_toArray, List.getElem?_cons_succ, List.getElem?_cons_zero]; rfl)); (case q14 => exact fun _ _ _ h => h); (case y14 => exact Or.inr ⟨by rfl, rfl⟩))
        try simp only [Act.put, List.setIfInBounds_toArray, List.set_cons_zero, List.set_cons_succ]
        refine wpAnyH_ready (rs := [7]) (by kernel_rfl) (by simp) ?_
        refine AllReadyH.cons (by (simp only [List.getElem?_toArray, List.getElem?_cons_succ, List.getElem?_cons_zero]; rfl)) (fun K hK => ?_) AllReadyH.nil
        go_simp
        (go_at_call 48; (with_reducible refine HFIND.out.mono ?_); rintro e w1 ⟨rfl, hb⟩; have HB1 := Aside0.mk (undrew hb); clear hb)
        (try dsimp only)
        refine hK.out _ _ ?_ (fun hHeld => ?_)
        · first | exact HBOX.out _ HB1.out | go_keep
        clear hK K
        try simp only [Act.put, List.setIfInBounds_toArray, List.set_cons_zero, List.set_cons_succ]
        first | (refine wpAnyH_take (i := 8) (oi := ?o15) (v := ?v15) ?i15 (by kernel_rfl) (by kernel_rfl) (by kernel_rfl) ?q15 ?y15 (by assumption) ?r15; (case i15 => (simp only [List.getElem?_toArray, List.getElem?_cons_succ, List.getElem?_cons_zero]; rfl)); (case q15 => exact fun _ _ _ h => h); (case y15 => (refine Or.inl ⟨by rfl, ?_⟩; intro w hSw; (try dsimp only at hSw); go_simp; (try (with_reducible rfl))))) | (refine wpAnyH_take (i := 8) (oi := ?o16) (v := undef) ?i16 (by kernel_rfl) (by kernel_rfl) (by kernel_rfl) ?q16 ?y16 (by assumption) ?r16; (case i16 => (simp only [List.getElem?_toArray, List.getElem?_cons_succ, List.getElem?_cons_zero]; rfl)); (case q16 => exact fun _ _ _ h => h); (case y16 => exact Or.inr ⟨by rfl, rfl⟩))
        try simp only [Act.put, List.setIfInBounds_toArray, List.set_cons_zero, List.set_cons_succ]
        first | (refine wpAnyH_take (i := 9) (oi := ?o17) (v := ?v17) ?i17 (by kernel_rfl) (by kernel_rfl) (by kernel_rfl) ?q17 ?y17 (by assumption) ?r17; (case i17 => (simp only [List.getElem?_toArray, List.getElem?_cons_succ, List.getElem?_cons_zero]; rfl)); (case q17 => exact fun _ _ _ h => h); (case y17 => (refine Or.inl ⟨by rfl, ?_⟩; intro w hSw; (try dsimp only at hSw); go_simp; (try (with_reducible rfl))))) | (refine wpAnyH_take (i := 9) (oi := ?o18) (v := undef) ?i18 (by kernel_rfl) (by kernel_rfl) (by kernel_rfl) ?q18 ?y18 (by assumption) ?r18; (case i18 => (simp only [List.getElem?_toArray, List.getElem?_cons_succ, List.getElem?_cons_zero]; rfl)); (case q18 => exact fun _ _ _ h => h); (case y18 => exact Or.inr ⟨by rfl, rfl⟩))
        try simp only [Act.put, List.setIfInBounds_toArray, List.set_cons_zero, List.set_cons_succ]
        first | (refine wpAnyH_take (i := 10) (oi := ?o19) (v := ?v19) ?i19 (by kernel_rfl) (by kernel_rfl) (by kernel_rfl) ?q19 ?y19 (by assumption) ?r19; (case i19 => (simp only [List.getElem?_toArray, List.getElem?_cons_succ, List.getElem?_cons_zero]; rfl)); (case q19 => exact fun _ _ _ h => h); (case y19 => (refine Or.inl ⟨by rfl, ?_⟩; intro w hSw; (try dsimp only at hSw); go_simp; (try (with_reducible rfl))))) | (refine wpAnyH_take (i := 10) (oi := ?o20) (v := undef) ?i20 (by kernel_rfl) (by kernel_rfl) (by kernel_rfl) ?q20 ?y20 (by assumption) ?r20; (case i20 => (simp only [List.getElem?_toArray, List.getElem?_cons_succ, List.getElem?_cons_zero]; rfl)); (case q20 => exact fun _ _ _ h => h); (case y20 => exact Or.inr ⟨by rfl, rfl⟩))
        try simp only [Act.put, List.setIfInBounds_toArray, List.set_cons_zero, List.set_cons_succ]
        first | (refine wpAnyH_take (i := 11) (oi := ?o21) (v := ?v21) ?i21 (by kernel_rfl) (by kernel_rfl) (by kernel_rfl) ?q21 ?y21 (by assumption) ?r21; (case i21 => (simp only [List.getElem?_toArray, List.getElem?_cons_succ, List.getElem?_cons_zero]; rfl)); (case q21 => exact fun _ _ _ h => h); (case y21 => (refine Or.inl ⟨by rfl, ?_⟩; intro w hSw; (try dsimp only at hSw); go_simp; (try (with_reducible rfl))))) | (refine wpAnyH_take (i := 11) (oi := ?o22) (v := undef) ?i22 (by kernel_rfl) (by kernel_rfl) (by kernel_rfl) ?q22 ?y22 (by assumption) ?r22; (case i22 => (simp only [List.getElem?_toArray, List.getElem?_cons_succ, List.getElem?_cons_zero]; rfl)); (case q22 => exact fun _ _ _ h => h); (case y22 => exact Or.inr ⟨by rfl, rfl⟩))
        try simp only [Act.put, List.setIfInBounds_toArray, List.set_cons_zero, List.set_cons_succ]
        first | (refine wpAnyH_take (i := 12) (oi := ?o23) (v := ?v23) ?i23 (by kernel_rfl) (by kernel_rfl) (by kernel_rfl) ?q23 ?y23 (by assumption) ?r23; (case i23 => (simp only [List.getElem?_toArray, List.getElem?_cons_succ, List.getElem?_cons_zero]; rfl)); (case q23 => exact fun _ _ _ h => h); (case y23 => (refine Or.inl ⟨by rfl, ?_⟩; intro w hSw; (try dsimp only at hSw); go_simp; (try (with_reducible rfl))))) | (refine wpAnyH_take (i := 12) (oi := ?o24) (v := undef) ?i24 (by kernel_rfl) (by kernel_rfl) (by kernel_rfl) ?q24 ?y24 (by assumption) ?r24; (case i24 => (simp only [List.getElem?_toArray, List.getElem?_cons_succ, List.getElem?_cons_zero]; rfl)); (case q24 => exact fun _ _ _ h => h); (case y24 => exact Or.inr ⟨by rfl, rfl⟩))
        try simp only [Act.put, List.setIfInBounds_toArray, List.set_cons_zero, List.set_cons_succ]
        first | (refine wpAnyH_take (i := 13) (oi := ?o25) (v := ?v25) ?i25 (by kernel_rfl) (by kernel_rfl) (by kernel_rfl) ?q25 ?y25 (by assumption) ?r25; (case i25 => (simp only [List.getElem?_toArray, List.getElem?_cons_succ, List.getElem?_cons_zero]; rfl)); (case q25 => exact fun _ _ _ h => h); (case y25 => (refine Or.inl ⟨by rfl, ?_⟩; intro w hSw; (try dsimp only at hSw); go_simp; (try (with_reducible rfl))))) | (refine wpAnyH_take (i := 13) (oi := ?o26) (v := undef) ?i26 (by kernel_rfl) (by kernel_rfl) (by kernel_rfl) ?q26 ?y26 (by assumption) ?r26; (case i26 => (simp only [List.getElem?_toArray, List.getElem?_cons_succ, List.getElem?_cons_zero]; rfl)); (case q26 => exact fun _ _ _ h => h); (case y26 => exact Or.inr ⟨by rfl, rfl⟩))
        try simp only [Act.put, List.setIfInBounds_toArray, List.set_cons_zero, List.set_cons_succ]
        first | (refine wpAnyH_take (i := 14) (oi := ?o27) (v := ?v27) ?i27 (by kernel_rfl) (by kernel_rfl) (by kernel_rfl) ?q27 ?y27 (by assumption) ?r27; (case i27 => (simp only [List.getElem?_toArray, List.getElem?_cons_succ, List.getElem?_cons_zero]; rfl)); (case q27 => exact fun _ _ _ h => h); (case y27 => (refine Or.inl ⟨by rfl, ?_⟩; intro w hSw; (try dsimp only at hSw); go_simp; (try (with_reducible rfl))))) | (refine wpAnyH_take (i := 14) (oi := ?o28) (v := undef) ?i28 (by kernel_rfl) (by kernel_rfl) (by kernel_rfl) ?q28 ?y28 (by assumption) ?r28; (case i28 => (simp only [List.getElem?_toArray, List.getElem?_cons_succ, List.getElem?_cons_zero]; rfl)); (case q28 => exact fun _ _ _ h => h); (case y28 => exact Or.inr ⟨by rfl, rfl⟩))
        try simp only [Act.put, List.setIfInBounds_toArray, List.set_cons_zero, List.set_cons_succ]
        first | (refine wpAnyH_take (i := 15) (oi := ?o29) (v := ?v29) ?i29 (by kernel_rfl) (by kernel_rfl) (by kernel_rfl) ?q29 ?y29 (by assumption) ?r29; (case i29 => (simp only [List.getElem?_toArray, List.getElem?_cons_succ, List.getElem?_cons_zero]; rfl)); (case q29 => exact fun _ _ _ h => h); (case y29 => (refine Or.inl ⟨by rfl, ?_⟩; intro w hSw; (try dsimp only at hSw); go_simp; (try (with_reducible rfl))))) | (refine wpAnyH_take (i := 15) (oi := ?o30) (v := undef) ?i30 (by kernel_rfl) (by kernel_rfl) (by kernel_rfl) ?q30 ?y30 (by assumption) ?r30; (case i30 => (simp only [List.getElem?_toArray, List.getElem?_cons_succ, List.getElem?_cons_zero]; rfl)); (case q30 => exact fun _ _ _ h => h); (case y30 => exact Or.inr ⟨by rfl, rfl⟩))
        try simp only [Act.put, List.setIfInBounds_toArray, List.set_cons_zero, List.set_cons_succ]
        first | (refine wpAnyH_take (i := 16) (oi := ?o31) (v := ?v31) ?i31 (by kernel_rfl) (by kernel_rfl) (by kernel_rfl) ?q31 ?y31 (by assumption) ?r31; (case i31 => (simp only [List.getElem?_toArray, List.getElem?_cons_succ, List.getElem?_cons_zero]; rfl)); (case q31 => exact fun _ _ _ h => h); (case y31 => (refine Or.inl ⟨by rfl, ?_⟩; intro w hSw; (try dsimp only at hSw); go_simp; (try (with_reducible rfl))))) | (refine wpAnyH_take (i := 16) (oi := ?o32) (v := undef) ?i32 (by kernel_rfl) (by kernel_rfl) (by kernel_rfl) ?q32 ?y32 (by assumption) ?r32; (case i32 => (simp only [List.getElem?_toArray, List.getElem?_cons_succ, List.getElem?_cons_zero]; rfl)); (case q32 => exact fun _ _ _ h => h); (case y32 => exact Or.inr ⟨by rfl, rfl⟩))
        try simp only [Act.put, List.setIfInBounds_toArray, List.set_cons_zero, List.set_cons_succ]
        first | (refine wpAnyH_take (i := 17) (oi := ?o33) (v := ?v33) ?i33 (by kernel_rfl) (by kernel_rfl) (by kernel_rfl) ?q33 ?y33 (by assumption) ?r33; (case i33 => (simp only [List.getElem?_toArray, List.getElem?_cons_succ, List.getElem?_cons_zero]; rfl)); (case q33 => exact fun _ _ _ h => h); (case y33 => (refine Or.inl ⟨by rfl, ?_⟩; intro w hSw; (try dsimp only at hSw); go_simp; (try (with_reducible rfl))))) | (refine wpAnyH_take (i := 17) (oi := ?o34) (v := undef) ?i34 (by kernel_rfl) (by kernel_rfl) (by kernel_rfl) ?q34 ?y34 (by assumption) ?r34; (case i34 => (simp only [List.getElem?_toArray, List.getElem?_cons_succ, List.getElem?_cons_zero]; rfl)); (case q34 => exact fun _ _ _ h => h); (case y34 => exact Or.inr ⟨by rfl, rfl⟩))
        try simp only [Act.put, List.setIfInBounds_toArray, List.set_cons_zero, List.set_cons_succ]
        first | (refine wpAnyH_take (i := 18) (oi := ?o35) (v := ?v35) ?i35 (by kernel_rfl) (by kernel_rfl) (by kernel_rfl) ?q35 ?y35 (by assumption) ?r35; (case i35 => (simp only [List.getElem?_toArray, List.getElem?_cons_succ, List.getElem?_cons_zero]; rfl)); (case q35 => exact fun _ _ _ h => h); (case y35 => (refine Or.inl ⟨by rfl, ?_⟩; intro w hSw; (try dsimp only at hSw); go_simp; (try (with_reducible rfl))))) | (refine wpAnyH_take (i := 18) (oi := ?o36) (v := undef) ?i36 (by kernel_rfl) (by kernel_rfl) (by kernel_rfl) ?q36 ?y36 (by assumption) ?r36; (case i36 => (simp only [List.getElem?_toArray, List.getElem?_cons_succ, List.getElem?_cons_zero]; rfl)); (case q36 => exact fun _ _ _ h => h); (case y36 => exact Or.inr ⟨by rfl, rfl⟩))
        try simp only [Act.put, List.setIfInBounds_toArray, List.set_cons_zero, List.set_cons_succ]
        (refine wpAnyH_take (i := 19) (oi := ?o37) (v := undef) ?i37 (by kernel_rfl) (by kernel_rfl) (by kernel_rfl) ?q37 ?y37 (by assumption) ?r37; (case i37 => (simp only [List.getElem?_toArray, List.getElem?_cons_succ, List.getElem?_cons_zero]; rfl)); (case q37 => exact fun _ _ _ h => h); (case y37 => exact Or.inr ⟨by rfl, rfl⟩))
        try simp only [Act.put, List.setIfInBounds_toArray, List.set_cons_zero, List.set_cons_succ]
        (refine wpAnyH_take (i := 20) (oi := ?o38) (v := undef) ?i38 (by kernel_rfl) (by kernel_rfl) (by kernel_rfl) ?q38 ?y38 (by assumption) ?r38; (case i38 => (simp only [List.getElem?_toArray, List.getElem?_cons_succ, List.getElem?_cons_zero]; rfl)); (case q38 => exact fun _ _ _ h => h); (case y38 => exact Or.inr ⟨by rfl, rfl⟩))
        try simp only [Act.put, List.setIfInBounds_toArray, List.set_cons_zero, List.set_cons_succ]
        first | (refine wpAnyH_take (i := 21) (oi := ?o39) (v := ?v39) ?i39 (by kernel_rfl) (by kernel_rfl) (by kernel_rfl) ?q39 ?y39 (by assumption) ?r39; (case i39 => (simp only [List.getElem?_toArray, List.getElem?_cons_succ, List.getElem?_cons_zero]; rfl)); (case q39 => exact fun _ _ _ h => h); (case y39 => (refine Or.inl ⟨by rfl, ?_⟩; intro w hSw; (try dsimp only at hSw); go_simp; (try (with_reducible rfl))))) | (refine wpAnyH_take (i := 21) (oi := ?o40) (v := undef) ?i40 (by kernel_rfl) (by kernel_rfl) (by kernel_rfl) ?q40 ?y40 (by assumption) ?r40; (case i40 => (simp only [List.getElem?_toArray, List.getElem?_cons_succ, List.getElem?_cons_zero]; rfl)); (case q40 => exact fun _ _ _ h => h); (case y40 => exact Or.inr ⟨by rfl, rfl⟩))
        try simp only [Act.put, List.setIfInBounds_toArray, List.set_cons_zero, List.set_cons_succ]
        first | (refine wpAnyH_take (i := 22) (oi := ?o41) (v := ?v41) ?i41 (by kernel_rfl) (by kernel_rfl) (by kernel_rfl) ?q41 ?y41 (by assumption) ?r41; (case i41 => (simp only [List.getElem?_toArray, List.getElem?_cons_succ, List.getElem?_cons_zero]; rfl)); (case q41 => exact fun _ _ _ h => h); (case y41 => (refine Or.inl ⟨by rfl, ?_⟩; intro w hSw; (try dsimp only at hSw); go_simp; (try (with_reducible rfl))))) | (refine wpAnyH_take (i := 22) (oi := ?o42) (v := undef) ?i42 (by kernel_rfl) (by kernel_rfl) (by kernel_rfl) ?q42 ?y42 (by assumption) ?r42; (case i42 => (simp only [List.getElem?_toArray, List.getElem?_cons_succ, List.getElem?_cons_zero]; rfl)); (case q42 => exact fun _ _ _ h => h); (case y42 => exact Or.inr ⟨by rfl, rfl⟩))
        try simp only [Act.put, List.setIfInBounds_toArray, List.set_cons_zero, List.set_cons_succ]
        refine wpAnyH_done (by kernel_rfl) ?_ _
        clear y1 y2 y3
        go_wp2
        exact ⟨⟨k + 1, by omega, by go_num, VB.out.trans (HB1.out.mono VB.out.size), all_step HQ.out HT.out HPRE.out⟩, by simp [intOf]; omega⟩
    · obtain rfl : k = n := by omega
      go_wp2
      go_ret
      exact ⟨by rw [HALL.out, all_true HN.out HPRE.out]; rfl, HB.out⟩
end
end Go.Proofs.Ytkmanjfmffdcbaa.Fl

/- The law's own words within: walked. No condition. -/
namespace Go.Proofs.Ytkmanjfmffdcbaa.Fl
open Go.RowKit Go.Proofs.YtkmanjfmffdcbaaW.PrintWords Go.Proofs.YtkmanjfmffdcbaaW.PrintMore Go.Maps
set_option linter.unusedSimpArgs false
set_option linter.unusedVariables false
section
variable {N0 N1 x y : Nat} {s : Int × Int × Int} {ps qs : List Pg} {okX okY : Nat → Prop} {w : World}
set_option maxHeartbeats 4000000 in
set_option maxRecDepth 100000 in
theorem within_any (hX : RefIs N0 x s ps okX w) (hY : RefIs N1 y s qs okY w) (hs : ShapeOk s) (hl : ps.length < 1000000) (hl2 : qs.length < 1000000) (hp : ∀ q ∈ ps, q.2.1.length = s.2.2.toNat) (hq : ∀ q ∈ qs, q.2.1.length = s.2.2.toNat) :
    Calls Try.prog 52 #[.pointer (some ⟨x, 0, none⟩), .pointer (some ⟨y, 0, none⟩)] w fun e w' => e = .returned (.bool (withinP s ps qs)) ∧ Below w.heap.size w w' := by
  obtain ⟨A, c, hx, hrow, hR⟩ := ref_open hX
  obtain ⟨A', c', hy, _, _⟩ := ref_open hY
  obtain ⟨n, hn⟩ : ∃ n, n = ps.length := ⟨_, rfl⟩
  obtain ⟨m, hm⟩ : ∃ m, m = s.2.2.toNat := ⟨_, rfl⟩
  rw [← hn] at hx hrow hl
  have k0 : w.cell? ⟨x, 0, none⟩ = some (.int .i64 s.1) := bcell hx 0
  have k1 : w.cell? ⟨x, 1, none⟩ = some (.int .i64 s.2.1) := bcell hx 1
  have k2 : w.cell? ⟨x, 2, none⟩ = some (.int .i64 s.2.2) := bcell hx 2
  have k3 : w.cell? ⟨x, 3, none⟩ = some (.slice A n c) := bcell hx 3
  have j0 : w.cell? ⟨y, 0, none⟩ = some (.int .i64 s.1) := bcell hy 0
  have j1 : w.cell? ⟨y, 1, none⟩ = some (.int .i64 s.2.1) := bcell hy 1
  have j2 : w.cell? ⟨y, 2, none⟩ = some (.int .i64 s.2.2) := bcell hy 2
  have hfd := fun (X : World) (hX : Below w.heap.size w X) (a b : Int) => RFind_any (hY.below hX) hl2 a b
  have hrd := fun (X : World) (hX : Below w.heap.size w X) (a b : Int) => RRead_any (hY.below hX) hs hl2 a b
  have hml := fun (a b : Int) => readP_len (a := a) (b := b) hq
  have hm1 := hs.c0
  have hm2 := hs.c1
  have hm3 : 16 ≤ m ∧ m ≤ 256 := by omega
  rw [← hm] at hp hml hrd
  have HN := Lib.hid hn
  have HROW := Lib.hid hrow
  have HFD := Lib.hid hfd
  have HRD := Lib.hid hrd
  have HML := Lib.hid hml
  have HPL := Lib.hid hp
  have HM := Lib.hid hm3
  have HQL := Lib.hid hl2
  obtain ⟨f, hf⟩ : ∃ f : Pg → Bool, f = fun p => decide (0 ≤ findI p.1.1 p.1.2 qs) && partB p.2.1 (readP m p.1.1 p.1.2 qs) := ⟨_, rfl⟩
  have hall : withinP s ps qs = ps.all f := by rw [hf, hm]; rfl
  have HF := Lib.hid hf
  have HALL := Lib.hid hall
  clear hx hy hrow hR hn hfd hrd hml hp hq hX hY hs hm1 hm2 hm3 hl2 hf hall hm
  go_enter Try.func52, Try.ntmps52
  go_wp2_with fail
  go_region_held3 (fun w' => w'.cell? ⟨x, 0, none⟩ = some (.int .i64 s.1) ∧ w'.cell? ⟨x, 1, none⟩ = some (.int .i64 s.2.1) ∧ w'.cell? ⟨x, 2, none⟩ = some (.int .i64 s.2.2) ∧ w'.cell? ⟨y, 0, none⟩ = some (.int .i64 s.1) ∧ w'.cell? ⟨y, 1, none⟩ = some (.int .i64 s.2.1) ∧ w'.cell? ⟨y, 2, none⟩ = some (.int .i64 s.2.2)) (go_keep) (fail)
  clear k0 k1 k2 j0 j1 j2
  go_wp2
  go_loopw [25] (fun v25 wr => ∃ k : Nat, k ≤ n ∧ v25 = .int .i64 (k : Int) ∧ Below w.heap.size w wr ∧ ∀ j p, j < k → ps[j]? = some p → f p = true) (fun v25 _ => n - (intOf v25).toNat)
  case atStart => exact ⟨0, Nat.zero_le _, rfl, (Below.refl _ _).drew, fun j p hj => by omega⟩
  case round =>
    obtain ⟨k, hk, rfl, hb, hpre⟩ := hrel
    have HB := Aside0.mk hb
    have HPRE := Lib.hid hpre
    clear hb hpre k3
    by_cases hlt : k < n
    · obtain ⟨q, hq⟩ : ∃ q, ps[k]? = some q := ⟨_, List.getElem?_eq_getElem (by have := HN.out; omega)⟩
      obtain ⟨g, rfl, _, _, hrow⟩ := HROW.out (by omega)
      obtain ⟨A1, c1, hc⟩ := (hrow.below HB.out).cell hq
      have d0 := hc.c0; have d1 := hc.c1; have d2 := hc.c2; have d3 := hc.c3
      obtain ⟨A5, c5, e5, hlc, hC⟩ := hc.row.reads
      injection e5 with e5 e6 e7
      subst e5 e7
      have hql := HPL.out q (List.mem_of_getElem? hq)
      have k0 : (0 : Int) ≤ (k : Int) := by omega
      have k2 : (k : Int) < (n : Int) := by omega
      obtain ⟨⟨pa, pb⟩, pl, px⟩ := q
      simp only at d0 d1 d2 d3 hql hC hlc
      rw [hql] at d2
      obtain ⟨V, hV⟩ : ∃ V, V = wr.alloc (.cells #[.int .i64 pa, .int .i64 pb, .slice A1 m c1, .bool px] TP) := ⟨_, rfl⟩
      have y0 : V.heap[wr.heap.size]? = some (.cells #[.int .i64 pa, .int .i64 pb, .slice A1 m c1, .bool px] TP (0, 0)) := by rw [hV]; exact blk_new wr _
      have yb : Below wr.heap.size wr V := by rw [hV]; exact below_alloc (Below.refl _ _) _
      have hbox : ∀ X : World, Below V.heap.size V X → X.cell? ⟨wr.heap.size, 0, none⟩ = some (.int .i64 pa) ∧ X.cell? ⟨wr.heap.size, 1, none⟩ = some (.int .i64 pb) ∧ X.cell? ⟨wr.heap.size, 2, none⟩ = some (.slice A1 m c1) := fun X hX => by
        have := (hX.block wr.heap.size (blt y0)).trans y0
        exact ⟨bcell this 0, bcell this 1, bcell this 2⟩
      have vb : Below w.heap.size w V := HB.out.trans (yb.mono HB.out.size)
      have hfp : f ((pa, pb), pl, px) = (decide (0 ≤ findI pa pb qs) && partB pl (readP m pa pb qs)) := by rw [HF.out]
      obtain ⟨F, hF⟩ : ∃ F, F = findI pa pb qs := ⟨_, rfl⟩
      obtain ⟨R, hRR⟩ : ∃ R, R = readP m pa pb qs := ⟨_, rfl⟩
      have hfind := HFD.out V vb pa pb
      have hread := fun (X : World) (hX : Below V.heap.size V X) => HRD.out X (vb.trans (hX.mono vb.size)) pa pb
      have hrl := HML.out pa pb
      rw [← hF] at hfind hfp
      rw [← hRR] at hread hrl hfp
      obtain ⟨y1, y2, y3⟩ := hbox V (Below.refl _ V)
      have hFl : -1 ≤ F ∧ F < 2000000 := by
        rw [hF, findI]
        rcases idxI_cases (atB pa pb) qs with h | ⟨i, a, h, hi⟩ <;> rw [h]
        · omega
        · have := (List.getElem?_eq_some_iff.1 hi).1
          have := HQL.out
          omega
      have HV := Lib.hid hV
      have VB := Aside0.mk vb
      have HBOX := Lib.hid hbox
      have HFIND := Lib.hid hfind
      have HREAD := Lib.hid hread
      have HFP := Lib.hid hfp
      have HQ := Lib.hid hq
      have HC := Aside0.mk (Kd.C_below hC yb)
      have HCP := Lib.hid (show m ≤ c1 by omega)
      have HL1 := Lib.hid hql
      have HL2 := Lib.hid hrl
      clear hc hrow hC hql hV y0 yb hbox vb hfp hF hRR hfind hread hrl hq hlc
      by_cases h0 : 0 ≤ F
      · have e1 : decide (F < 0) = false := by simp; omega
        have e9 := Lib.hid (show decide (0 ≤ F) = true by simpa using h0)
        go_wp2_with fail
        rw [← HV.out]
        go_wp2_with (first
          | (go_at_call 48; (with_reducible refine HFIND.out.mono ?_); rintro e w1 ⟨rfl, hb⟩; obtain ⟨z1, z2, z3⟩ := HBOX.out _ hb; have HB1 := Aside0.mk hb; clear hb)
          | (go_at_call 49; (with_reducible refine (HREAD.out _ HB1.out).mono ?_); rintro e w2 ⟨v2, rfl, hr, hb⟩; obtain ⟨A2, c2, e2, _, hC2⟩ := hr.reads; rw [HL2.out] at e2; subst e2; have HB2 := Aside0.mk (HB1.out.trans (hb.mono HB1.out.size)); have HC2 := Aside0.mk hC2; clear hb hr hC2))
        obtain ⟨wo, rfl⟩ : ∃ wo : World, wo = wr := ⟨_, rfl⟩
        have hm16 := HM.out
        clear d0 d1 d2 d3 y1 y2 y3 z1 z2 z3
        have HFIN := Lib.hid (fun (X : World) (hX : Below w2.heap.size w2 X) => VB.out.trans ((HB2.out.trans (hX.mono HB2.out.size)).mono VB.out.size))
        have HBX := Lib.hid (fun (X : World) (hX : Below w2.heap.size w2 X) => (HBOX.out _ (HB2.out.trans (hX.mono HB2.out.size))).2.2)
        go_loopw [8] (fun v8 wi => ∃ i : Nat, i ≤ m ∧ v8 = .int .i64 (i : Int) ∧ Below w2.heap.size w2 wi ∧ pl.take i = R.take i) (fun v8 _ => m - (intOf v8).toNat)
        case atStart => exact ⟨0, Nat.zero_le _, rfl, Below.refl _ _, rfl⟩
        case round =>
          obtain ⟨i, hi, rfl, hbi, ht⟩ := hrel
          obtain ⟨wi, rfl⟩ : ∃ wi : World, wi = wr := ⟨_, rfl⟩
          have hbx := HBX.out _ hbi
          have HI := Aside0.mk hbi
          have HTK := Lib.hid ht
          have i0 : (0 : Int) ≤ (i : Int) := by omega
          obtain ⟨ad, hA, hca⟩ := C_cells (Kd.C_below HC.out (HB2.out.trans (hbi.mono HB2.out.size))) (by have := HL1.out; omega)
          obtain ⟨bd, hB, hcb⟩ := C_cells (Kd.C_below HC2.out hbi) (by have := HL2.out; omega)
          subst hA hB
          clear hbi ht
          by_cases hlt2 : i < m
          · obtain ⟨a, ha⟩ : ∃ a, pl[i]? = some a := ⟨_, List.getElem?_eq_getElem (by have := HL1.out; omega)⟩
            obtain ⟨b, hb⟩ : ∃ b, R[i]? = some b := ⟨_, List.getElem?_eq_getElem (by have := HL2.out; omega)⟩
            have ka := hca i (.int .u8 a) (by simp [ha])
            have kb := hcb i (.int .u8 b) (by simp [hb])
            have HA := Lib.hid ha
            have HBB := Lib.hid hb
            have i1 : (i : Int) < (m : Int) := by omega
            clear ha hb hca hcb
            by_cases hab : a = b
            · have e5 : (a == b) = true := by simp [hab]
              go_wp2_with fail
              go_region_held3 (fun w' => w'.cell? (ad.add i) = some (.int .u8 a) ∧ w'.cell? (bd.add i) = some (.int .u8 b) ∧ w'.cell? ⟨wo.heap.size, 2, none⟩ = some (.slice (some ad) m c1)) (go_keep) (fail)
              go_wp2
              exact ⟨⟨i + 1, by omega, by go_num, HI.out.drew, take_eq_succ HA.out HBB.out HTK.out hab⟩, by simp [intOf]; omega⟩
            · have e5 : (a == b) = false := by simp [hab]
              have hp : preN pl R = i := preN_of i pl R HTK.out (by have := HL1.out; omega) (by have := HL2.out; omega) (.inr (.inr (by rw [HA.out, HBB.out]; exact fun e => hab (Option.some.inj e))))
              have HP := Lib.hid hp
              have hcd := Kd.C_drop (m := i) (c := c1) (Kd.C_below HC.out (HB2.out.trans (HI.out.mono HB2.out.size))) (by have := HL1.out; omega) (by have := HL1.out; have := HCP.out; omega)
              have hcp := HCP.out
              rw [if_neg (by omega)] at hcd
              have hz : i * kB.sz = i := Nat.mul_one i
              rw [hz] at hcd
              have hdl : (pl.drop i).length = m - i := by rw [List.length_drop, HL1.out]
              have HCD := Aside0.mk hcd
              have HDL := Lib.hid hdl
              clear hp hab hcd hz hdl
              go_wp2_with fail
              go_region_held3 (fun w' => w'.cell? (ad.add i) = some (.int .u8 a) ∧ w'.cell? (bd.add i) = some (.int .u8 b) ∧ w'.cell? ⟨wo.heap.size, 2, none⟩ = some (.slice (some ad) m c1)) (go_keep) (fail)
              go_wp2
              go_loopw [69] (fun v69 wj => ∃ j : Nat, j ≤ m - i ∧ v69 = .int .i64 (j : Int) ∧ Below wi.heap.size wi wj ∧ ∀ t z, t < j → (pl.drop i)[t]? = some z → (z != 255) = false) (fun v69 _ => (m - i) - (intOf v69).toNat)
              case atStart => exact ⟨0, Nat.zero_le _, rfl, (Below.refl _ wi).drew, fun t z h => by omega⟩
              case round =>
                obtain ⟨j, hj, rfl, hbj, hpre2⟩ := hrel
                have HJ := Aside0.mk hbj
                have HPRE2 := Lib.hid hpre2
                clear hpre2 ka kb hbx
                by_cases hlt3 : j < m - i
                · obtain ⟨z, hz⟩ : ∃ z, (pl.drop i)[j]? = some z := ⟨_, List.getElem?_eq_getElem (by have := HDL.out; omega)⟩
                  obtain ⟨ad2, hA2, hca2⟩ := C_cells (Kd.C_below HCD.out hbj) (by have := HDL.out; omega)
                  have hA3 := Option.some.inj hA2
                  subst hA3
                  have kz := hca2 j (.int .u8 z) (by rw [List.getElem?_map, hz]; rfl)
                  have HZ := Lib.hid hz
                  have j0 : (0 : Int) ≤ (j : Int) := by omega
                  have j1 : (j : Int) < (m : Int) - (i : Int) := by omega
                  have j2 : (j : Int) < ((m - i : Nat) : Int) := by omega
                  clear hz hA2 hca2 hbj
                  by_cases hzz : (z != 255) = true
                  · have hT : f ((pa, pb), pl, px) = false := by
                      rw [HFP.out, e9.out, Bool.true_and, partB, HP.out, Bool.not_eq_false', List.any_eq_true]
                      exact ⟨z, List.mem_of_getElem? HZ.out, hzz⟩
                    have HT := Lib.hid hT
                    clear hT
                    go_wp2
                    go_ret
                    exact ⟨by rw [HALL.out, all_false HQ.out HT.out]; rfl, HFIN.out _ (HI.out.trans (HJ.out.mono HI.out.size))⟩
                  · have hz0 : (z != 255) = false := by simpa using hzz
                    clear hzz
                    go_wp2
                    refine ⟨⟨j + 1, by omega, by go_num, HJ.out, fun t y hty hy => ?_⟩, by simp [intOf]; omega⟩
                    rcases Nat.lt_or_ge t j with h2 | h2
                    · exact HPRE2.out t y h2 hy
                    · obtain rfl : t = j := by omega
                      rw [HZ.out] at hy
                      rw [← Option.some.inj hy]
                      exact hz0
                · obtain rfl : j = m - i := by omega
                  have hT : f ((pa, pb), pl, px) = true := by
                    rw [HFP.out, e9.out, Bool.true_and, partB, HP.out, Bool.not_eq_true', List.any_eq_false]
                    intro z hz
                    obtain ⟨t, ht, e⟩ := List.getElem_of_mem hz
                    rw [HPRE2.out t z (by have := HDL.out; omega) (by rw [← e, List.getElem?_eq_getElem ht])]
                    decide
                  have HT := Lib.hid hT
                  clear hT hbj
                  go_wp2
                  exact ⟨⟨k + 1, by omega, by go_num, HFIN.out _ (HI.out.trans (HJ.out.mono HI.out.size)), all_step HQ.out HT.out HPRE.out⟩, by simp [intOf]; omega⟩
          · obtain rfl : i = m := by omega
            have hp : preN pl R = i := preN_of i pl R HTK.out (by have := HL1.out; omega) (by have := HL2.out; omega) (.inl HL1.out.symm)
            have hT : f ((pa, pb), pl, px) = true := by
              rw [HFP.out, e9.out, Bool.true_and, partB, hp, ← HL1.out, List.drop_length]
              rfl
            have HT := Lib.hid hT
            have f1 : decide ((i : Int) < (i : Int)) = false := by simp
            have hcp := HCP.out
            clear hp hT hca hcb hlt2
            by_cases hck : c1 = i
            · subst hck
              go_wp2_with fail
              go_quiet (fail)
              go_wp2
              go_loopw [69] (fun v69 wj => v69 = .int .i64 0 ∧ Below wi.heap.size wi wj) (fun _ _ => 0)
              case atStart => exact ⟨rfl, pw_below_drewN (Below.refl _ wi) _⟩
              case round =>
                obtain ⟨rfl, hbj⟩ := hrel
                have HJ := Aside0.mk hbj
                clear hbj hbx
                go_wp2
                exact ⟨⟨k + 1, by omega, by go_num, HFIN.out _ (HI.out.trans (HJ.out.mono HI.out.size)), all_step HQ.out HT.out HPRE.out⟩, by simp [intOf]; omega⟩
            · go_wp2_with fail
              go_quiet (fail)
              go_wp2
              go_loopw [69] (fun v69 wj => v69 = .int .i64 0 ∧ Below wi.heap.size wi wj) (fun _ _ => 0)
              case atStart => exact ⟨rfl, pw_below_drewN (Below.refl _ wi) _⟩
              case round =>
                obtain ⟨rfl, hbj⟩ := hrel
                have HJ := Aside0.mk hbj
                clear hbj hbx
                go_wp2
                exact ⟨⟨k + 1, by omega, by go_num, HFIN.out _ (HI.out.trans (HJ.out.mono HI.out.size)), all_step HQ.out HT.out HPRE.out⟩, by simp [intOf]; omega⟩
      · have e1 : decide (F < 0) = true := by simp; omega
        have HT := Lib.hid (show f ((pa, pb), pl, px) = false by rw [HFP.out, decide_eq_false h0]; rfl)
        go_wp2_with fail
        rw [← HV.out]
        go_wp2_with (go_at_call 48; (with_reducible refine HFIND.out.mono ?_); rintro e w1 ⟨rfl, hb⟩; have HB1 := Aside0.mk hb; clear hb)
        go_ret
        exact ⟨by rw [HALL.out, all_false HQ.out HT.out]; rfl, VB.out.trans (HB1.out.mono VB.out.size)⟩
    · obtain rfl : k = n := by omega
      go_wp2
      go_ret
      exact ⟨by rw [HALL.out, all_true HN.out HPRE.out]; rfl, HB.out⟩
end
end Go.Proofs.Ytkmanjfmffdcbaa.Fl

/- CrashAfter: walked. No condition but what every argument brings. -/
namespace Go.Proofs.Ytkmanjfmffdcbaa.Fl
open Go.RowKit Go.Proofs.YtkmanjfmffdcbaaW.PrintWords Go.Proofs.YtkmanjfmffdcbaaW.PrintMore Go.Maps
set_option linter.unusedSimpArgs false
set_option linter.unusedVariables false
theorem mut_below {ok : Nat → Prop} {w8 w9 w10 : World} (hb : Below w8.heap.size w8 w9) (hu : Upd (Mut (CopyOk ok w8) w9) w9 w10) : Below w8.heap.size w8 w10 := by
  refine hb.trans (hu.below hb.size (fun k hk => ?_))
  rcases hk.1 with h | ⟨_, cs, fr, e⟩
  · exact h
  · exact absurd ((hb.block k (blt e)).trans e) (hk.2 cs fr)
theorem byt_readP {n : Nat} {a b : Int} {ps : List Pg} (h : BytP ps) : Byt (readP n a b ps) := by
  unfold readP
  cases hf : ps.find? (atB a b) with
  | none => exact Byt.fullT Byt.nil
  | some p => exact h p (List.mem_of_find?_eq_some hf)
theorem Sim.byt {D : PD} {s : Int × Int × Int} {ps : List Pg} (h : Sim D s ps) (hb : BytP ps) (a b : Int) : Byt (readD D a b) := by
  rw [h.read]
  exact byt_readP hb
theorem few_len2 {ds : List DeedT} (h : fewB ds = true) : ds.length ≤ 60 := by
  unfold fewB at h
  simp at h
  exact h.2
/-- Boxes of a shape and of a plan, one behind the other. -/
theorem boxes_sp {w W : World} (s : Int × Int × Int) (P : PlanT) (hW : W = (w.alloc (.cells #[.int .i64 s.1, .int .i64 s.2.1, .int .i64 s.2.2] 46)).alloc (.cells #[.int .u64 P.keep, .int .i64 P.torn, .int .i64 P.cut] 59)) :
    Below w.heap.size w W ∧ (∀ V : World, Below W.heap.size W V → V.cell? ⟨w.heap.size, 0, none⟩ = some (.int .i64 s.1) ∧ V.cell? ⟨w.heap.size, 1, none⟩ = some (.int .i64 s.2.1) ∧ V.cell? ⟨w.heap.size, 2, none⟩ = some (.int .i64 s.2.2)) ∧ (∀ V : World, Below W.heap.size W V → V.cell? ⟨w.heap.size + 1, 0, none⟩ = some (.int .u64 P.keep) ∧ V.cell? ⟨w.heap.size + 1, 1, none⟩ = some (.int .i64 P.torn) ∧ V.cell? ⟨w.heap.size + 1, 2, none⟩ = some (.int .i64 P.cut)) := by
  have q0 : W.heap[w.heap.size]? = some (.cells #[.int .i64 s.1, .int .i64 s.2.1, .int .i64 s.2.2] 46 (0, 0)) := by rw [hW]; exact (Below.heap_alloc _ _ _ (by simp)).trans (blk_new w _)
  have q1 : W.heap[w.heap.size + 1]? = some (.cells #[.int .u64 P.keep, .int .i64 P.torn, .int .i64 P.cut] 59 (0, 0)) := by
    rw [hW]
    have := blk_new (w.alloc (.cells #[.int .i64 s.1, .int .i64 s.2.1, .int .i64 s.2.2] 46)) (.cells #[.int .u64 P.keep, .int .i64 P.torn, .int .i64 P.cut] 59)
    simpa using this
  refine ⟨by rw [hW]; exact (below_alloc (Below.refl _ _) _).alloc (by simp) _, fun V hV => ?_, fun V hV => ?_⟩
  · have := (hV.block w.heap.size (blt q0)).trans q0
    exact ⟨bcell this 0, bcell this 1, bcell this 2⟩
  · have := (hV.block (w.heap.size + 1) (blt q1)).trans q1
    exact ⟨bcell this 0, bcell this 1, bcell this 2⟩
/-- What Made hands back, for one who reads. -/
def MadeIs (N0 : Nat) (s : Int × Int × Int) (p x : Nat) (D : PD) (ps : List Pg) (w : World) : Prop := (∃ okD okX, DevIs N0 p D okD w ∧ RefIs N0 x s ps okX w) ∧ Sim D s ps ∧ ps.length ≤ 60 ∧ BytP ps
theorem MadeIs.below {N0 : Nat} {s : Int × Int × Int} {p x : Nat} {D : PD} {ps : List Pg} {w w' : World} (h : MadeIs N0 s p x D ps w) (hb : Below w.heap.size w w') : MadeIs N0 s p x D ps w' := by
  obtain ⟨⟨okD, okX, h1, h2⟩, h3⟩ := h
  exact ⟨⟨okD, okX, h1.below hb, h2.below hb⟩, h3⟩
theorem Made_is {W : World} {A : Option Addr} {c : Nat} {s : Int × Int × Int} {ds : List DeedT} (hs : shapeB s = true) (hr : DRow W A ds) (hf : fewB ds = true) (hp : ∀ d ∈ ds, PlanOk d.P ∧ Byt d.l) (V : World) (hV : Below W.heap.size W V) :
    Calls Try.prog 29 #[.agg #[.int .i64 s.1, .int .i64 s.2.1, .int .i64 s.2.2], .slice A ds.length c] V fun e w' => ∃ p x, e = .returned (.tuple #[.pointer (some ⟨p, 0, none⟩), .pointer (some ⟨x, 0, none⟩), .bool true]) ∧ (∃ D ps, MadeIs W.heap.size s p x D ps w') ∧ Below W.heap.size W w' := by
  refine (Made_byt hs (hr.below hV) (few_len2 hf) (fun d h => (hp d h).1)).mono fun e w' ⟨p, x, D, ps, h1, h2, h3, h4, h5, h6⟩ => ⟨p, x, h1, ⟨D, ps, ?_, h3, h4, h6 (fun d h => (hp d h).2)⟩, hV.trans (h5.mono hV.size)⟩
  obtain ⟨okD, okX, hD, hX, _⟩ := h2
  exact ⟨okD, okX, hD.low hV.size, hX.low hV.size⟩
theorem MadeIs.both {N0 : Nat} {s : Int × Int × Int} {p x : Nat} {D : PD} {ps : List Pg} {w : World} (h : MadeIs N0 s p x D ps w) : Both N0 p x D s ps w := h.1
theorem MadeIs.okS {N0 : Nat} {s : Int × Int × Int} {p x : Nat} {D : PD} {ps : List Pg} {w : World} (h : MadeIs N0 s p x D ps w) : ShapeOk s := by
  obtain ⟨⟨okD, okX, h1, h2⟩, h3, _⟩ := h
  have := h1.shape
  rwa [h3.sh] at this
theorem MadeIs.dirtyM {N0 : Nat} {s : Int × Int × Int} {p x : Nat} {D : PD} {ps : List Pg} {w : World} (h : MadeIs N0 s p x D ps w) : D.dirty.length < 1000000 := Nat.lt_of_le_of_lt h.2.1.dirtyLe (by have := h.2.2.1; omega)
theorem MadeIs.after {N0 : Nat} {s : Int × Int × Int} {p x : Nat} {D : PD} {ps : List Pg} {w : World} (h : MadeIs N0 s p x D ps w) (P : PlanT) (hP : PlanOk P) :
    Calls Try.prog 46 #[.pointer (some ⟨p, 0, none⟩), .agg #[.int .u64 P.keep, .int .i64 P.torn, .int .i64 P.cut]] w fun e w' => ∃ c, e = .returned (.pointer (some ⟨c, 0, none⟩)) ∧ (∃ okc, DevIs N0 c (crashD D P) okc w') ∧ Below w.heap.size w w' := by
  have hm := h.dirtyM
  obtain ⟨⟨okD, okX, h1, h2⟩, h3, _⟩ := h
  exact (After_any h1 P hP hm h3.dirtyNd h3.dirtyIn).mono fun e w' ⟨c, okc, e1, e2, _, e3⟩ => ⟨c, e1, ⟨okc, e2⟩, e3⟩
theorem MadeIs.simC {N0 : Nat} {s : Int × Int × Int} {p x : Nat} {D : PD} {ps : List Pg} {w : World} (h : MadeIs N0 s p x D ps w) (P : PlanT) (hP : PlanOk P) : Sim (crashD D P) s (rcTo s.2.2 P ps).1 := by
  have hs := h.okS
  obtain ⟨⟨okD, okX, h1, h2⟩, h3, _⟩ := h
  exact h3.crash h1.nodup hs hP
theorem crash_len {s : Int × Int × Int} {P : PlanT} {ps : List Pg} : (rcTo s.2.2 P ps).1.length ≤ ps.length := by rw [rcTo_eq]; exact rcR_len
/-- Its own copy of the document's device, crashed. -/
theorem MadeIs.copy {N0 : Nat} {s : Int × Int × Int} {p x : Nat} {D : PD} {ps : List Pg} {w : World} (h : MadeIs N0 s p x D ps w) (P : PlanT) (hP : PlanOk P) :
    Calls Try.prog 33 #[.pointer (some ⟨x, 0, none⟩)] w fun e w' => ∃ y, e = .returned (.pointer (some ⟨y, 0, none⟩)) ∧ (Calls Try.prog 37 #[.pointer (some ⟨y, 0, none⟩), .agg #[.int .u64 P.keep, .int .i64 P.torn, .int .i64 P.cut]] w' fun e w2 => e = .returned (.tuple #[]) ∧ (∃ ok, RefIs N0 y s (rcTo s.2.2 P ps).1 ok w2) ∧ Below w.heap.size w w2) ∧ Below w.heap.size w w' := by
  have hs := h.okS
  obtain ⟨⟨okD, okX, h1, h2⟩, h3, h4, _⟩ := h
  refine (RCopy_any h2 (by omega)).mono fun e w' ⟨y, e1, _, hY, hb⟩ => ⟨y, e1, ?_, hb⟩
  exact (RCrash_any hY hs (by omega) h3.len P hP.k0).mono fun e w2 ⟨e2, hY2, hu⟩ => ⟨e2, ⟨_, hY2⟩, mut_below hb hu⟩
theorem exD_below {N0 p : Nat} {D : PD} {w w' : World} (h : ∃ ok, DevIs N0 p D ok w) (hb : Below w.heap.size w w') : ∃ ok, DevIs N0 p D ok w' := by
  obtain ⟨ok, h⟩ := h
  exact ⟨ok, h.below hb⟩
theorem exX_below {N0 x : Nat} {s : Int × Int × Int} {ps : List Pg} {w w' : World} (h : ∃ ok, RefIs N0 x s ps ok w) (hb : Below w.heap.size w w') : ∃ ok, RefIs N0 x s ps ok w' := by
  obtain ⟨ok, h⟩ := h
  exact ⟨ok, h.below hb⟩
theorem exD_pages {N0 p : Nat} {D : PD} {w : World} (h : ∃ ok, DevIs N0 p D ok w) : Calls Try.prog 47 #[.pointer (some ⟨p, 0, none⟩)] w fun e w' => ∃ v, e = .returned v ∧ (∃ N ok, kAddr.R TA w' N ok v (pagesL D)) ∧ Below w.heap.size w w' := by
  obtain ⟨ok, h⟩ := h
  exact (Pages_any h).mono fun e w' ⟨v, e1, e2, e3⟩ => ⟨v, e1, ⟨_, _, e2⟩, e3⟩
theorem ref_len {N0 x : Nat} {s : Int × Int × Int} {ps : List Pg} {w : World} (h : ∃ ok, RefIs N0 x s ps ok w) : ∃ A c, (∀ X, Below w.heap.size w X → X.cell? ⟨x, 3, none⟩ = some (.slice A ps.length c)) ∧ (0 < ps.length → ∃ N ok g, A = some ⟨g, 0, none⟩ ∧ PRow w N ok g c ps) := by
  obtain ⟨ok, h⟩ := h
  obtain ⟨A, c, hx, hrow, _⟩ := ref_open h
  refine ⟨A, c, fun X hX => bcell ((hX.block x (blt hx)).trans hx) 3, fun h => ?_⟩
  obtain ⟨g, e, _, _, hr⟩ := hrow h
  exact ⟨_, _, g, e, hr⟩
theorem rowA {w : World} {v : Value} {L : List Adr} (h : ∃ N ok, kAddr.R TA w N ok v L) : ∃ B d, v = .slice B L.length d ∧ (0 < L.length → ∃ g, B = some ⟨g, 0, none⟩ ∧ ARow w g d L) := by
  obtain ⟨N, ok, h⟩ := h
  obtain ⟨B, d, rfl⟩ := Kd.R_slice h
  refine ⟨B, d, rfl, fun hl => ?_⟩
  obtain ⟨g, cap, e, _, _, hr⟩ := ARow.of_R h (fun e => by injection e with _ h2 _; omega)
  injection e with e1 _ e3
  subst e3
  exact ⟨g, e1, hr⟩
theorem exX_find {N0 x : Nat} {s : Int × Int × Int} {ps : List Pg} {w : World} (h : ∃ ok, RefIs N0 x s ps ok w) (hl : ps.length < 1000000) (a b : Int) : Calls Try.prog 48 #[.pointer (some ⟨x, 0, none⟩), .int .i64 a, .int .i64 b] w fun e w' => e = .returned (.int .i64 (findI a b ps)) ∧ Below w.heap.size w w' := by
  obtain ⟨ok, h⟩ := h
  exact RFind_any h hl a b
theorem exX_read {N0 x : Nat} {s : Int × Int × Int} {ps : List Pg} {w : World} (h : ∃ ok, RefIs N0 x s ps ok w) (hs : ShapeOk s) (hl : ps.length < 1000000) (a b : Int) : Calls Try.prog 49 #[.pointer (some ⟨x, 0, none⟩), .int .i64 a, .int .i64 b] w fun e w' => ∃ A c, e = .returned (.slice A (readP s.2.2.toNat a b ps).length c) ∧ kB.C w' A (readP s.2.2.toNat a b ps).length (readP s.2.2.toNat a b ps) ∧ Below w.heap.size w w' := by
  obtain ⟨ok, h⟩ := h
  refine (RRead_any h hs hl a b).mono fun e w' ⟨v, he, hr, hb⟩ => ?_
  obtain ⟨A, c, rfl, _, hC⟩ := hr.reads
  exact ⟨A, c, he, hC, hb⟩
theorem MadeIs.dev {N0 : Nat} {s : Int × Int × Int} {p x : Nat} {D : PD} {ps : List Pg} {w : World} (h : MadeIs N0 s p x D ps w) : ∃ ok, DevIs N0 p D ok w := by
  obtain ⟨⟨okD, okX, h1, h2⟩, _⟩ := h
  exact ⟨okD, h1⟩
theorem MadeIs.ref {N0 : Nat} {s : Int × Int × Int} {p x : Nat} {D : PD} {ps : List Pg} {w : World} (h : MadeIs N0 s p x D ps w) : ∃ ok, RefIs N0 x s ps ok w := by
  obtain ⟨⟨okD, okX, h1, h2⟩, _⟩ := h
  exact ⟨okX, h2⟩
end Go.Proofs.Ytkmanjfmffdcbaa.Fl

/- CrashAfter: walked. No condition but what every argument brings. -/
namespace Go.Proofs.Ytkmanjfmffdcbaa.Fl
open Go.RowKit Go.Proofs.YtkmanjfmffdcbaaW.PrintWords Go.Proofs.YtkmanjfmffdcbaaW.PrintMore Go.Maps
set_option linter.unusedSimpArgs false
set_option linter.unusedVariables false
theorem lex_next {L : List Adr} (h : L.Pairwise lexLt) {j : Nat} {a b : Adr} (ha : L[j]? = some a) (hb : L[j + 1]? = some b) : lexLt a b := by
  obtain ⟨h1, e1⟩ := List.getElem?_eq_some_iff.1 ha
  obtain ⟨h2, e2⟩ := List.getElem?_eq_some_iff.1 hb
  have := List.pairwise_iff_getElem.1 h j (j + 1) h1 h2 (by omega)
  rwa [e1, e2] at this
/-- What the loop has found of the first k pages. -/
def smP (s : Int × Int × Int) (ps qs : List Pg) (k : Nat) : Bool := decide (ps.length = qs.length) && (qs.take k).all (fun z => decide (z.2.1 = readP s.2.2.toNat z.1.1 z.1.2 ps))
theorem smP_step {s : Int × Int × Int} {ps qs : List Pg} {k : Nat} {z : Pg} (hz : qs[k]? = some z) : smP s ps qs (k + 1) = (smP s ps qs k && decide (z.2.1 = readP s.2.2.toNat z.1.1 z.1.2 ps)) := by
  unfold smP
  rw [List.take_add_one, hz, List.all_append, Bool.and_assoc]
  simp
theorem smP_all (s : Int × Int × Int) (ps qs : List Pg) : smP s ps qs qs.length = sameP s ps qs := by
  unfold smP sameP
  rw [List.take_length]
set_option maxHeartbeats 8000000 in
set_option maxRecDepth 100000 in
theorem CrashAfter_any {w : World} {A : Option Addr} {c : Nat} (s : Int × Int × Int) {ds : List DeedT} (P : PlanT) (hP : PlanOk P) (hr : DRow w A ds) (h0 : ds.length ≤ 9223372036854775807) (hp : ∀ d ∈ ds, PlanOk d.P ∧ Byt d.l) :
    Calls Try.prog 10 #[.agg #[.int .i64 s.1, .int .i64 s.2.1, .int .i64 s.2.2], .slice A ds.length c, .agg #[.int .u64 P.keep, .int .i64 P.torn, .int .i64 P.cut]] w fun e w' => e = .returned (.bool true) ∧ Below w.heap.size w w' := by
  obtain ⟨n, hn⟩ : ∃ n, n = ds.length := ⟨_, rfl⟩
  obtain ⟨W, hW⟩ : ∃ W, W = (w.alloc (.cells #[.int .i64 s.1, .int .i64 s.2.1, .int .i64 s.2.2] 46)).alloc (.cells #[.int .u64 P.keep, .int .i64 P.torn, .int .i64 P.cut] 59) := ⟨_, rfl⟩
  obtain ⟨qb, hbox, hbox2⟩ := boxes_sp s P hW
  have hfew : ∀ V : World, Below W.heap.size W V → Calls Try.prog 25 #[.slice A n c] V fun e w' => e = .returned (.bool (fewB ds)) ∧ Below W.heap.size W w' := fun V hV => by
    rw [hn]
    exact (Few_any ((hr.below qb).below hV) h0).mono fun e w' ⟨h1, h2⟩ => ⟨h1, hV.trans (h2.mono hV.size)⟩
  have hmade := fun (hs : shapeB s = true) (hf : fewB ds = true) => Made_is (c := c) hs (hr.below qb) hf hp
  rw [← hn] at hmade
  have HBOX := Lib.hid hbox
  have HBOX2 := Lib.hid hbox2
  have HFEW := Lib.hid hfew
  have HMADE := Lib.hid hmade
  have HW := Lib.hid hW
  have QB := Aside0.mk qb
  have HPP := Lib.hid hP
  rw [← hn] at h0
  rw [← hn]
  clear hr hn hp hbox hbox2 hfew hmade hW qb hP
  by_cases hall : fewB ds = true ∧ shapeB s = true
  · obtain ⟨hf, hs⟩ := hall
    have HMD := Lib.hid (HMADE.out hs hf)
    have HF := Lib.hid hf
    have HS := Lib.hid hs
    clear hs hf HMADE h0
    go_enter Try.func10, Try.ntmps10
    go_wp2_with fail
    rw [← HW.out]
    go_wp2_with (first
      | (go_at_call 45; (with_reducible refine (Awake12_any _).mono ?_); rintro e w1 ⟨rfl, hb⟩; have HB1 := Aside0.mk hb; clear hb)
      | (go_at_call 25; (with_reducible refine (HFEW.out _ HB1.out).mono ?_); rw [HF.out]; rintro e w2 ⟨rfl, hb⟩; obtain ⟨k1, k2, k3⟩ := HBOX.out _ hb; have HB2 := Aside0.mk hb; clear hb)
      | (go_at_call 26; (with_reducible refine (RShape_any _ _).mono ?_); rw [HS.out]; rintro e w3 ⟨rfl, hb⟩; have HB3 := Aside0.mk (HB2.out.trans (hb.mono HB2.out.size)); clear hb; obtain ⟨j1, j2, j3⟩ := HBOX.out _ HB3.out)
      | (go_at_call 29; (with_reducible refine (HMD.out _ HB3.out).mono ?_); rintro e w4 ⟨p, x, rfl, ⟨D, ps, hmi⟩, hb⟩; obtain ⟨m, hm⟩ : ∃ m, m = ps.length := ⟨_, rfl⟩; have HM := Lib.hid hm; have HMI := Aside0.mk hmi; have HB4 := Aside0.mk hb; obtain ⟨l1, l2, l3⟩ := HBOX2.out _ hb; clear hb hmi hm)
      | (go_at_call 46; (with_reducible refine (HMI.out.after P HPP.out).mono ?_); rintro e w5 ⟨cc, rfl, hC, hb⟩; have HC5 := Aside0.mk hC; have HMI5 := Aside0.mk (HMI.out.below hb); have HB5 := Aside0.mk (HB4.out.trans (hb.mono HB4.out.size)); clear hb hC)
      | (go_at_call 33; (with_reducible refine (HMI5.out.copy P HPP.out).mono ?_); rintro e w6 ⟨y, rfl, hcr, hb⟩; have HCR := Lib.hid hcr; have HB6 := Aside0.mk (HB5.out.trans (hb.mono HB5.out.size)); obtain ⟨i1, i2, i3⟩ := HBOX2.out _ HB6.out; clear hb hcr)
      | (go_at_call 37; (with_reducible refine HCR.out.mono ?_); rintro e w7 ⟨rfl, hY, hb⟩; have HY7 := Aside0.mk hY; have HMI7 := Aside0.mk (HMI5.out.below hb); have HC7 := Aside0.mk (exD_below HC5.out hb); have HB7 := Aside0.mk (HB5.out.trans (hb.mono HB5.out.size)); clear hb hY)
      | (go_at_call 47; (with_reducible refine (exD_pages HMI7.out.dev).mono ?_); rintro e w8 ⟨v8, rfl, hr8, hb⟩; obtain ⟨B8, d8, e8, hra⟩ := rowA hr8; rw [show (pagesL D).length = m from HMI7.out.2.1.len_pages.trans HM.out.symm] at e8; subst e8; have HRA := Lib.hid hra; have HMI8 := Aside0.mk (HMI7.out.below hb); have HC8 := Aside0.mk (exD_below HC7.out hb); have HY8 := Aside0.mk (exX_below HY7.out hb); have HB8 := Aside0.mk (HB7.out.trans (hb.mono HB7.out.size)); obtain ⟨A9, c9, hkx, hpx⟩ := ref_len HMI8.out.ref; rw [← HM.out] at hkx; have kx := hkx _ (Below.refl _ _); have HKX := Lib.hid hkx; clear hr8 hb hra hpx hkx))
    have hm60 : m ≤ 60 := by rw [HM.out]; exact HMI.out.2.2.1
    clear k1 k2 k3 j1 j2 j3 l1 l2 l3 i1 i2 i3
    obtain ⟨L, hL⟩ : ∃ L, L = pagesL D := ⟨_, rfl⟩
    have hLl : L.length = m := by rw [hL]; exact HMI.out.2.1.len_pages.trans HM.out.symm
    have hLx : L.Pairwise lexLt := by rw [hL]; exact pagesL_lex D
    have hLu : ∀ a ∈ L, 0 ≤ findI a.1 a.2 ps := fun a ha => by
      rw [hL, pagesL_mem, HMI.out.2.1.used, decide_eq_true_eq] at ha
      exact ha
    have hra : 0 < m → ∃ g, B8 = some ⟨g, 0, none⟩ ∧ ARow w8 g d8 L := fun h => by
      have := HRA.out (by rw [← hL, hLl]; exact h)
      rwa [← hL] at this
    have HLL := Lib.hid hLl
    have HLX := Lib.hid hLx
    have HLU := Lib.hid hLu
    have HRA2 := Lib.hid hra
    have HFD := Lib.hid (fun (X : World) (hX : Below w8.heap.size w8 X) (a b : Int) => exX_find (exX_below HMI8.out.ref hX) (by have := HMI.out.2.2.1; omega) a b)
    clear hL hLl hLx hLu hra HRA
    go_loopw [57] (fun v57 wr => ∃ k : Nat, k ≤ m ∧ v57 = .int .i64 (k : Int) ∧ Below w8.heap.size w8 wr) (fun v57 _ => m - (intOf v57).toNat)
    case atStart => exact ⟨0, Nat.zero_le _, rfl, Below.refl _ _⟩
    case round =>
      obtain ⟨k, hk, hv, hb⟩ := hrel
      have HB := Aside0.mk hb
      clear hb kx
      by_cases hlt : k < m
      · obtain ⟨a, ha⟩ : ∃ a, L[k]? = some a := ⟨_, List.getElem?_eq_getElem (by have := HLL.out; omega)⟩
        obtain ⟨g, rfl, hr1⟩ := HRA2.out (by omega)
        have hc1 := (hr1.step (HB.out.block g hr1.lt)).cell ha
        have c1 := hc1.1
        have c2 := hc1.2.1
        have hFu := HLU.out a (List.mem_of_getElem? ha)
        obtain ⟨a0, a1⟩ := a
        simp only at c1 c2 hFu
        obtain ⟨V, hV⟩ : ∃ V, V = wr.alloc (.cells #[.int .i64 a0, .int .i64 a1] TA) := ⟨_, rfl⟩
        have y0 : V.heap[wr.heap.size]? = some (.cells #[.int .i64 a0, .int .i64 a1] TA (0, 0)) := by rw [hV]; exact blk_new wr _
        have yb : Below wr.heap.size wr V := by rw [hV]; exact below_alloc (Below.refl _ _) _
        have vb : Below w8.heap.size w8 V := HB.out.trans (yb.mono HB.out.size)
        obtain ⟨F, hF⟩ : ∃ F, F = findI a0 a1 ps := ⟨_, rfl⟩
        have hfind := HFD.out V.drew vb.drew a0 a1
        rw [← hF] at hfind hFu
        have f0 : decide (F < 0) = false := by simp; omega
        have HFIND := Lib.hid hfind
        have HV := Lib.hid hV
        have VB := Aside0.mk vb
        have HA := Lib.hid ha
        rcases k with _ | j
        · have hbox : ∀ X : World, Below V.heap.size V X → X.cell? ⟨wr.heap.size, 0, none⟩ = some (.int .i64 a0) ∧ X.cell? ⟨wr.heap.size, 1, none⟩ = some (.int .i64 a1) := fun X hX => by
            have := (hX.block wr.heap.size (blt y0)).trans y0
            exact ⟨bcell this 0, bcell this 1⟩
          have HBOX3 := Lib.hid hbox
          have k2 : (0 : Int) < (m : Int) := by omega
          rw [show ((0 : Nat) : Int) = 0 from rfl] at hv
          rw [show 0 * 2 = 0 from rfl, show 0 + 1 = 1 from rfl] at c2
          rw [show 0 * 2 = 0 from rfl] at c1
          subst hv
          clear hr1 hc1 hV y0 yb vb hF hfind ha hbox hFu
          go_wp2_with fail
          rw [← HV.out]
          refine wp_region_held_drew (S := (fun w' => w'.cell? ⟨wr.heap.size, 0, none⟩ = some (.int .i64 a0) ∧ w'.cell? ⟨wr.heap.size, 1, none⟩ = some (.int .i64 a1))) (by kernel_rfl) ?_ (fun hHeld => ?_)
          · first | exact HBOX3.out _ HB1.out | exact HBOX3.out _ ((Below.refl _ V).drew)
          first | (refine wpAnyH_take (i := 0) (oi := ?o1) (v := ?v1) ?i1 (by kernel_rfl) (by kernel_rfl) (by kernel_rfl) ?q1 ?y1 (by assumption) ?r1; (case i1 => (simp only [List.getElem?_toArray, List.getElem?_cons_succ, List.getElem?_cons_zero]; rfl)); (case q1 => exact fun _ _ _ h => h); (case y1 => (refine Or.inl ⟨by rfl, ?_⟩; intro w hSw; (try dsimp only at hSw); go_simp; (try (with_reducible rfl))))) | (refine wpAnyH_take (i := 0) (oi := ?o2) (v := undef) ?i2 (by kernel_rfl) (by kernel_rfl) (by kernel_rfl) ?q2 ?y2 (by assumption) ?r2; (case i2 => (simp only [List.getElem?_toArray, List.getElem?_cons_succ, List.getElem?_cons_zero]; rfl)); (case q2 => exact fun _ _ _ h => h); (case y2 => exact Or.inr ⟨by rfl, rfl⟩))
          try simp only [Act.put, List.setIfInBounds_toArray, List.set_cons_zero, List.set_cons_succ]
          first | (refine wpAnyH_take (i := 1) (oi := ?o3) (v := ?v3) ?i3 (by kernel_rfl) (by kernel_rfl) (by kernel_rfl) ?q3 ?y3 (by assumption) ?r3; (case i3 => (simp only [List.getElem?_toArray, List.getElem?_cons_succ, List.getElem?_cons_zero]; rfl)); (case q3 => exact fun _ _ _ h => h); (case y3 => (refine Or.inl ⟨by rfl, ?_⟩; intro w hSw; (try dsimp only at hSw); go_simp; (try (with_reducible rfl))))) | (refine wpAnyH_take (i := 1) (oi := ?o4) (v := undef) ?i4 (by kernel_rfl) (by kernel_rfl) (by kernel_rfl) ?q4 ?y4 (by assumption) ?r4; (case i4 => (simp only [List.getElem?_toArray, List.getElem?_cons_succ, List.getElem?_cons_zero]; rfl)); (case q4 => exact fun _ _ _ h => h); (case y4 => exact Or.inr ⟨by rfl, rfl⟩))
          try simp only [Act.put, List.setIfInBounds_toArray, List.set_cons_zero, List.set_cons_succ]
          first | (refine wpAnyH_take (i := 2) (oi := ?o5) (v := ?v5) ?i5 (by kernel_rfl) (by kernel_rfl) (by kernel_rfl) ?q5 ?y5 (by assumption) ?r5; (case i5 => (simp only [List.getElem?_toArray, List.getElem?_cons_succ, List.getElem?_cons_zero]; rfl)); (case q5 => exact fun _ _ _ h => h); (case y5 => (refine Or.inl ⟨by rfl, ?_⟩; intro w hSw; (try dsimp only at hSw); go_simp; (try (with_reducible rfl))))) | (refine wpAnyH_take (i := 2) (oi := ?o6) (v := undef) ?i6 (by kernel_rfl) (by kernel_rfl) (by kernel_rfl) ?q6 ?y6 (by assumption) ?r6; (case i6 => (simp only [List.getElem?_toArray, List.getElem?_cons_succ, List.getElem?_cons_zero]; rfl)); (case q6 => exact fun _ _ _ h => h); (case y6 => exact Or.inr ⟨by rfl, rfl⟩))
          try simp only [Act.put, List.setIfInBounds_toArray, List.set_cons_zero, List.set_cons_succ]
          first | (refine wpAnyH_take (i := 3) (oi := ?o7) (v := ?v7) ?i7 (by kernel_rfl) (by kernel_rfl) (by kernel_rfl) ?q7 ?y7 (by assumption) ?r7; (case i7 => (simp only [List.getElem?_toArray, List.getElem?_cons_succ, List.getElem?_cons_zero]; rfl)); (case q7 => exact fun _ _ _ h => h); (case y7 => (refine Or.inl ⟨by rfl, ?_⟩; intro w hSw; (try dsimp only at hSw); go_simp; (try (with_reducible rfl))))) | (refine wpAnyH_take (i := 3) (oi := ?o8) (v := undef) ?i8 (by kernel_rfl) (by kernel_rfl) (by kernel_rfl) ?q8 ?y8 (by assumption) ?r8; (case i8 => (simp only [List.getElem?_toArray, List.getElem?_cons_succ, List.getElem?_cons_zero]; rfl)); (case q8 => exact fun _ _ _ h => h); (case y8 => exact Or.inr ⟨by rfl, rfl⟩))
          try simp only [Act.put, List.setIfInBounds_toArray, List.set_cons_zero, List.set_cons_succ]
          first | (refine wpAnyH_take (i := 4) (oi := ?o9) (v := ?v9) ?i9 (by kernel_rfl) (by kernel_rfl) (by kernel_rfl) ?q9 ?y9 (by assumption) ?r9; (case i9 => (simp only [List.getElem?_toArray, List.getElem?_cons_succ, List.getElem?_cons_zero]; rfl)); (case q9 => exact fun _ _ _ h => h); (case y9 => (refine Or.inl ⟨by rfl, ?_⟩; intro w hSw; (try dsimp only at hSw); go_simp; (try (with_reducible rfl))))) | (refine wpAnyH_take (i := 4) (oi := ?o10) (v := undef) ?i10 (by kernel_rfl) (by kernel_rfl) (by kernel_rfl) ?q10 ?y10 (by assumption) ?r10; (case i10 => (simp only [List.getElem?_toArray, List.getElem?_cons_succ, List.getElem?_cons_zero]; rfl)); (case q10 => exact fun _ _ _ h => h); (case y10 => exact Or.inr ⟨by rfl, rfl⟩))
          try simp only [Act.put, List.setIfInBounds_toArray, List.set_cons_zero, List.set_cons_succ]
          refine wpAnyH_ready (rs := [5]) (by kernel_rfl) (by simp) ?_
          refine AllReadyH.cons (by (simp only [List.getElem?_toArray, List.getElem?_cons_succ, List.getElem?_cons_zero]; rfl)) (fun K hK => ?_) AllReadyH.nil
          go_simp
          (go_at_call 48; (with_reducible refine HFIND.out.mono ?_); rintro e w1 ⟨rfl, hb⟩; have HB1 := Aside0.mk (undrew hb); clear hb)
          (try dsimp only)
          refine hK.out _ _ ?_ (fun hHeld => ?_)
          · first | exact HBOX3.out _ HB1.out | exact HBOX3.out _ ((Below.refl _ V).drew)
          clear hK K
          try simp only [Act.put, List.setIfInBounds_toArray, List.set_cons_zero, List.set_cons_succ]
          first | (refine wpAnyH_take (i := 6) (oi := ?o11) (v := ?v11) ?i11 (by kernel_rfl) (by kernel_rfl) (by kernel_rfl) ?q11 ?y11 (by assumption) ?r11; (case i11 => (simp only [List.getElem?_toArray, List.getElem?_cons_succ, List.getElem?_cons_zero]; rfl)); (case q11 => exact fun _ _ _ h => h); (case y11 => (refine Or.inl ⟨by rfl, ?_⟩; intro w hSw; (try dsimp only at hSw); go_simp; (try (with_reducible rfl))))) | (refine wpAnyH_take (i := 6) (oi := ?o12) (v := undef) ?i12 (by kernel_rfl) (by kernel_rfl) (by kernel_rfl) ?q12 ?y12 (by assumption) ?r12; (case i12 => (simp only [List.getElem?_toArray, List.getElem?_cons_succ, List.getElem?_cons_zero]; rfl)); (case q12 => exact fun _ _ _ h => h); (case y12 => exact Or.inr ⟨by rfl, rfl⟩))
          try simp only [Act.put, List.setIfInBounds_toArray, List.set_cons_zero, List.set_cons_succ]
          first | (refine wpAnyH_take (i := 7) (oi := ?o13) (v := ?v13) ?i13 (by kernel_rfl) (by kernel_rfl) (by kernel_rfl) ?q13 ?y13 (by assumption) ?r13; (case i13 => (simp only [List.getElem?_toArray, List.getElem?_cons_succ, List.getElem?_cons_zero]; rfl)); (case q13 => exact fun _ _ _ h => h); (case y13 => (refine Or.inl ⟨by rfl, ?_⟩; intro w hSw; (try dsimp only at hSw); go_simp; (try (with_reducible rfl))))) | (refine wpAnyH_take (i := 7) (oi := ?o14) (v := undef) ?i14 (by kernel_rfl) (by kernel_rfl) (by kernel_rfl) ?q14 ?y14 (by assumption) ?r14; (case i14 => (simp only [List.getElem?_toArray, List.getElem?_cons_succ, List.getElem?_cons_zero]; rfl)); (case q14 => exact fun _ _ _ h => h); (case y14 => exact Or.inr ⟨by rfl, rfl⟩))
          try simp only [Act.put, List.setIfInBounds_toArray, List.set_cons_zero, List.set_cons_succ]
          first | (refine wpAnyH_take (i := 8) (oi := ?o15) (v := ?v15) ?i15 (by kernel_rfl) (by kernel_rfl) (by kernel_rfl) ?q15 ?y15 (by assumption) ?r15; (case i15 => (simp only [List.getElem?_toArray, List.getElem?_cons_succ, List.getElem?_cons_zero]; rfl)); (case q15 => exact fun _ _ _ h => h); (case y15 => (refine Or.inl ⟨by rfl, ?_⟩; intro w hSw; (try dsimp only at hSw); go_simp; (try (with_reducible rfl))))) | (refine wpAnyH_take (i := 8) (oi := ?o16) (v := undef) ?i16 (by kernel_rfl) (by kernel_rfl) (by kernel_rfl) ?q16 ?y16 (by assumption) ?r16; (case i16 => (simp only [List.getElem?_toArray, List.getElem?_cons_succ, List.getElem?_cons_zero]; rfl)); (case q16 => exact fun _ _ _ h => h); (case y16 => exact Or.inr ⟨by rfl, rfl⟩))
          try simp only [Act.put, List.setIfInBounds_toArray, List.set_cons_zero, List.set_cons_succ]
          first | (refine wpAnyH_take (i := 9) (oi := ?o17) (v := ?v17) ?i17 (by kernel_rfl) (by kernel_rfl) (by kernel_rfl) ?q17 ?y17 (by assumption) ?r17; (case i17 => (simp only [List.getElem?_toArray, List.getElem?_cons_succ, List.getElem?_cons_zero]; rfl)); (case q17 => exact fun _ _ _ h => h); (case y17 => (refine Or.inl ⟨by rfl, ?_⟩; intro w hSw; (try dsimp only at hSw); go_simp; (try (with_reducible rfl))))) | (refine wpAnyH_take (i := 9) (oi := ?o18) (v := undef) ?i18 (by kernel_rfl) (by kernel_rfl) (by kernel_rfl) ?q18 ?y18 (by assumption) ?r18; (case i18 => (simp only [List.getElem?_toArray, List.getElem?_cons_succ, List.getElem?_cons_zero]; rfl)); (case q18 => exact fun _ _ _ h => h); (case y18 => exact Or.inr ⟨by rfl, rfl⟩))
          try simp only [Act.put, List.setIfInBounds_toArray, List.set_cons_zero, List.set_cons_succ]
          first | (refine wpAnyH_take (i := 10) (oi := ?o19) (v := ?v19) ?i19 (by kernel_rfl) (by kernel_rfl) (by kernel_rfl) ?q19 ?y19 (by assumption) ?r19; (case i19 => (simp only [List.getElem?_toArray, List.getElem?_cons_succ, List.getElem?_cons_zero]; rfl)); (case q19 => exact fun _ _ _ h => h); (case y19 => (refine Or.inl ⟨by rfl, ?_⟩; intro w hSw; (try dsimp only at hSw); go_simp; (try (with_reducible rfl))))) | (refine wpAnyH_take (i := 10) (oi := ?o20) (v := undef) ?i20 (by kernel_rfl) (by kernel_rfl) (by kernel_rfl) ?q20 ?y20 (by assumption) ?r20; (case i20 => (simp only [List.getElem?_toArray, List.getElem?_cons_succ, List.getElem?_cons_zero]; rfl)); (case q20 => exact fun _ _ _ h => h); (case y20 => exact Or.inr ⟨by rfl, rfl⟩))
          try simp only [Act.put, List.setIfInBounds_toArray, List.set_cons_zero, List.set_cons_succ]
          first | (refine wpAnyH_take (i := 11) (oi := ?o21) (v := ?v21) ?i21 (by kernel_rfl) (by kernel_rfl) (by kernel_rfl) ?q21 ?y21 (by assumption) ?r21; (case i21 => (simp only [List.getElem?_toArray, List.getElem?_cons_succ, List.getElem?_cons_zero]; rfl)); (case q21 => exact fun _ _ _ h => h); (case y21 => (refine Or.inl ⟨by rfl, ?_⟩; intro w hSw; (try dsimp only at hSw); go_simp; (try (with_reducible rfl))))) | (refine wpAnyH_take (i := 11) (oi := ?o22) (v := undef) ?i22 (by kernel_rfl) (by kernel_rfl) (by kernel_rfl) ?q22 ?y22 (by assumption) ?r22; (case i22 => (simp only [List.getElem?_toArray, List.getElem?_cons_succ, List.getElem?_cons_zero]; rfl)); (case q22 => exact fun _ _ _ h => h); (case y22 => exact Or.inr ⟨by rfl, rfl⟩))
          try simp only [Act.put, List.setIfInBounds_toArray, List.set_cons_zero, List.set_cons_succ]
          first | (refine wpAnyH_take (i := 12) (oi := ?o23) (v := ?v23) ?i23 (by kernel_rfl) (by kernel_rfl) (by kernel_rfl) ?q23 ?y23 (by assumption) ?r23; (case i23 => (simp only [List.getElem?_toArray, List.getElem?_cons_succ, List.getElem?_cons_zero]; rfl)); (case q23 => exact fun _ _ _ h => h); (case y23 => (refine Or.inl ⟨by rfl, ?_⟩; intro w hSw; (try dsimp only at hSw); go_simp; (try (with_reducible rfl))))) | (refine wpAnyH_take (i := 12) (oi := ?o24) (v := undef) ?i24 (by kernel_rfl) (by kernel_rfl) (by kernel_rfl) ?q24 ?y24 (by assumption) ?r24; (case i24 => (simp only [List.getElem?_toArray, List.getElem?_cons_succ, List.getElem?_cons_zero]; rfl)); (case q24 => exact fun _ _ _ h => h); (case y24 => exact Or.inr ⟨by rfl, rfl⟩))
          try simp only [Act.put, List.setIfInBounds_toArray, List.set_cons_zero, List.set_cons_succ]
          first | (refine wpAnyH_take (i := 13) (oi := ?o25) (v := ?v25) ?i25 (by kernel_rfl) (by kernel_rfl) (by kernel_rfl) ?q25 ?y25 (by assumption) ?r25; (case i25 => (simp only [List.getElem?_toArray, List.getElem?_cons_succ, List.getElem?_cons_zero]; rfl)); (case q25 => exact fun _ _ _ h => h); (case y25 => (refine Or.inl ⟨by rfl, ?_⟩; intro w hSw; (try dsimp only at hSw); go_simp; (try (with_reducible rfl))))) | (refine wpAnyH_take (i := 13) (oi := ?o26) (v := undef) ?i26 (by kernel_rfl) (by kernel_rfl) (by kernel_rfl) ?q26 ?y26 (by assumption) ?r26; (case i26 => (simp only [List.getElem?_toArray, List.getElem?_cons_succ, List.getElem?_cons_zero]; rfl)); (case q26 => exact fun _ _ _ h => h); (case y26 => exact Or.inr ⟨by rfl, rfl⟩))
          try simp only [Act.put, List.setIfInBounds_toArray, List.set_cons_zero, List.set_cons_succ]
          first | (refine wpAnyH_take (i := 14) (oi := ?o27) (v := ?v27) ?i27 (by kernel_rfl) (by kernel_rfl) (by kernel_rfl) ?q27 ?y27 (by assumption) ?r27; (case i27 => (simp only [List.getElem?_toArray, List.getElem?_cons_succ, List.getElem?_cons_zero]; rfl)); (case q27 => exact fun _ _ _ h => h); (case y27 => (refine Or.inl ⟨by rfl, ?_⟩; intro w hSw; (try dsimp only at hSw); go_simp; (try (with_reducible rfl))))) | (refine wpAnyH_take (i := 14) (oi := ?o28) (v := undef) ?i28 (by kernel_rfl) (by kernel_rfl) (by kernel_rfl) ?q28 ?y28 (by assumption) ?r28; (case i28 => (simp only [List.getElem?_toArray, List.getElem?_cons_succ, List.getElem?_cons_zero]; rfl)); (case q28 => exact fun _ _ _ h => h); (case y28 => exact Or.inr ⟨by rfl, rfl⟩))
          try simp only [Act.put, List.setIfInBounds_toArray, List.set_cons_zero, List.set_cons_succ]
          first | (refine wpAnyH_take (i := 15) (oi := ?o29) (v := ?v29) ?i29 (by kernel_rfl) (by kernel_rfl) (by kernel_rfl) ?q29 ?y29 (by assumption) ?r29; (case i29 => (simp only [List.getElem?_toArray, List.getElem?_cons_succ, List.getElem?_cons_zero]; rfl)); (case q29 => exact fun _ _ _ h => h); (case y29 => (refine Or.inl ⟨by rfl, ?_⟩; intro w hSw; (try dsimp only at hSw); go_simp; (try (with_reducible rfl))))) | (refine wpAnyH_take (i := 15) (oi := ?o30) (v := undef) ?i30 (by kernel_rfl) (by kernel_rfl) (by kernel_rfl) ?q30 ?y30 (by assumption) ?r30; (case i30 => (simp only [List.getElem?_toArray, List.getElem?_cons_succ, List.getElem?_cons_zero]; rfl)); (case q30 => exact fun _ _ _ h => h); (case y30 => exact Or.inr ⟨by rfl, rfl⟩))
          try simp only [Act.put, List.setIfInBounds_toArray, List.set_cons_zero, List.set_cons_succ]
          first | (refine wpAnyH_take (i := 16) (oi := ?o31) (v := ?v31) ?i31 (by kernel_rfl) (by kernel_rfl) (by kernel_rfl) ?q31 ?y31 (by assumption) ?r31; (case i31 => (simp only [List.getElem?_toArray, List.getElem?_cons_succ, List.getElem?_cons_zero]; rfl)); (case q31 => exact fun _ _ _ h => h); (case y31 => (refine Or.inl ⟨by rfl, ?_⟩; intro w hSw; (try dsimp only at hSw); go_simp; (try (with_reducible rfl))))) | (refine wpAnyH_take (i := 16) (oi := ?o32) (v := undef) ?i32 (by kernel_rfl) (by kernel_rfl) (by kernel_rfl) ?q32 ?y32 (by assumption) ?r32; (case i32 => (simp only [List.getElem?_toArray, List.getElem?_cons_succ, List.getElem?_cons_zero]; rfl)); (case q32 => exact fun _ _ _ h => h); (case y32 => exact Or.inr ⟨by rfl, rfl⟩))
          try simp only [Act.put, List.setIfInBounds_toArray, List.set_cons_zero, List.set_cons_succ]
          first | (refine wpAnyH_take (i := 17) (oi := ?o33) (v := ?v33) ?i33 (by kernel_rfl) (by kernel_rfl) (by kernel_rfl) ?q33 ?y33 (by assumption) ?r33; (case i33 => (simp only [List.getElem?_toArray, List.getElem?_cons_succ, List.getElem?_cons_zero]; rfl)); (case q33 => exact fun _ _ _ h => h); (case y33 => (refine Or.inl ⟨by rfl, ?_⟩; intro w hSw; (try dsimp only at hSw); go_simp; (try (with_reducible rfl))))) | (refine wpAnyH_take (i := 17) (oi := ?o34) (v := undef) ?i34 (by kernel_rfl) (by kernel_rfl) (by kernel_rfl) ?q34 ?y34 (by assumption) ?r34; (case i34 => (simp only [List.getElem?_toArray, List.getElem?_cons_succ, List.getElem?_cons_zero]; rfl)); (case q34 => exact fun _ _ _ h => h); (case y34 => exact Or.inr ⟨by rfl, rfl⟩))
          try simp only [Act.put, List.setIfInBounds_toArray, List.set_cons_zero, List.set_cons_succ]
          first | (refine wpAnyH_take (i := 18) (oi := ?o35) (v := ?v35) ?i35 (by kernel_rfl) (by kernel_rfl) (by kernel_rfl) ?q35 ?y35 (by assumption) ?r35; (case i35 => (simp only [List.getElem?_toArray, List.getElem?_cons_succ, List.getElem?_cons_zero]; rfl)); (case q35 => exact fun _ _ _ h => h); (case y35 => (refine Or.inl ⟨by rfl, ?_⟩; intro w hSw; (try dsimp only at hSw); go_simp; (try (with_reducible rfl))))) | (refine wpAnyH_take (i := 18) (oi := ?o36) (v := undef) ?i36 (by kernel_rfl) (by kernel_rfl) (by kernel_rfl) ?q36 ?y36 (by assumption) ?r36; (case i36 => (simp only [List.getElem?_toArray, List.getElem?_cons_succ, List.getElem?_cons_zero]; rfl)); (case q36 => exact fun _ _ _ h => h); (case y36 => exact Or.inr ⟨by rfl, rfl⟩))
          try simp only [Act.put, List.setIfInBounds_toArray, List.set_cons_zero, List.set_cons_succ]
          first | (refine wpAnyH_take (i := 19) (oi := ?o37) (v := ?v37) ?i37 (by kernel_rfl) (by kernel_rfl) (by kernel_rfl) ?q37 ?y37 (by assumption) ?r37; (case i37 => (simp only [List.getElem?_toArray, List.getElem?_cons_succ, List.getElem?_cons_zero]; rfl)); (case q37 => exact fun _ _ _ h => h); (case y37 => (refine Or.inl ⟨by rfl, ?_⟩; intro w hSw; (try dsimp only at hSw); go_simp; (try (with_reducible rfl))))) | (refine wpAnyH_take (i := 19) (oi := ?o38) (v := undef) ?i38 (by kernel_rfl) (by kernel_rfl) (by kernel_rfl) ?q38 ?y38 (by assumption) ?r38; (case i38 => (simp only [List.getElem?_toArray, List.getElem?_cons_succ, List.getElem?_cons_zero]; rfl)); (case q38 => exact fun _ _ _ h => h); (case y38 => exact Or.inr ⟨by rfl, rfl⟩))
          try simp only [Act.put, List.setIfInBounds_toArray, List.set_cons_zero, List.set_cons_succ]
          first | (refine wpAnyH_take (i := 20) (oi := ?o39) (v := ?v39) ?i39 (by kernel_rfl) (by kernel_rfl) (by kernel_rfl) ?q39 ?y39 (by assumption) ?r39; (case i39 => (simp only [List.getElem?_toArray, List.getElem?_cons_succ, List.getElem?_cons_zero]; rfl)); (case q39 => exact fun _ _ _ h => h); (case y39 => (refine Or.inl ⟨by rfl, ?_⟩; intro w hSw; (try dsimp only at hSw); go_simp; (try (with_reducible rfl))))) | (refine wpAnyH_take (i := 20) (oi := ?o40) (v := undef) ?i40 (by kernel_rfl) (by kernel_rfl) (by kernel_rfl) ?q40 ?y40 (by assumption) ?r40; (case i40 => (simp only [List.getElem?_toArray, List.getElem?_cons_succ, List.getElem?_cons_zero]; rfl)); (case q40 => exact fun _ _ _ h => h); (case y40 => exact Or.inr ⟨by rfl, rfl⟩))
          try simp only [Act.put, List.setIfInBounds_toArray, List.set_cons_zero, List.set_cons_succ]
          first | (refine wpAnyH_take (i := 21) (oi := ?o41) (v := ?v41) ?i41 (by kernel_rfl) (by kernel_rfl) (by kernel_rfl) ?q41 ?y41 (by assumption) ?r41; (case i41 => (simp only [List.getElem?_toArray, List.getElem?_cons_succ, List.getElem?_cons_zero]; rfl)); (case q41 => exact fun _ _ _ h => h); (case y41 => (refine Or.inl ⟨by rfl, ?_⟩; intro w hSw; (try dsimp only at hSw); go_simp; (try (with_reducible rfl))))) | (refine wpAnyH_take (i := 21) (oi := ?o42) (v := undef) ?i42 (by kernel_rfl) (by kernel_rfl) (by kernel_rfl) ?q42 ?y42 (by assumption) ?r42; (case i42 => (simp only [List.getElem?_toArray, List.getElem?_cons_succ, List.getElem?_cons_zero]; rfl)); (case q42 => exact fun _ _ _ h => h); (case y42 => exact Or.inr ⟨by rfl, rfl⟩))
          try simp only [Act.put, List.setIfInBounds_toArray, List.set_cons_zero, List.set_cons_succ]
          first | (refine wpAnyH_take (i := 22) (oi := ?o43) (v := ?v43) ?i43 (by kernel_rfl) (by kernel_rfl) (by kernel_rfl) ?q43 ?y43 (by assumption) ?r43; (case i43 => (simp only [List.getElem?_toArray, List.getElem?_cons_succ, List.getElem?_cons_zero]; rfl)); (case q43 => exact fun _ _ _ h => h); (case y43 => (refine Or.inl ⟨by rfl, ?_⟩; intro w hSw; (try dsimp only at hSw); go_simp; (try (with_reducible rfl))))) | (refine wpAnyH_take (i := 22) (oi := ?o44) (v := undef) ?i44 (by kernel_rfl) (by kernel_rfl) (by kernel_rfl) ?q44 ?y44 (by assumption) ?r44; (case i44 => (simp only [List.getElem?_toArray, List.getElem?_cons_succ, List.getElem?_cons_zero]; rfl)); (case q44 => exact fun _ _ _ h => h); (case y44 => exact Or.inr ⟨by rfl, rfl⟩))
          try simp only [Act.put, List.setIfInBounds_toArray, List.set_cons_zero, List.set_cons_succ]
          first | (refine wpAnyH_take (i := 23) (oi := ?o45) (v := ?v45) ?i45 (by kernel_rfl) (by kernel_rfl) (by kernel_rfl) ?q45 ?y45 (by assumption) ?r45; (case i45 => (simp only [List.getElem?_toArray, List.getElem?_cons_succ, List.getElem?_cons_zero]; rfl)); (case q45 => exact fun _ _ _ h => h); (case y45 => (refine Or.inl ⟨by rfl, ?_⟩; intro w hSw; (try dsimp only at hSw); go_simp; (try (with_reducible rfl))))) | (refine wpAnyH_take (i := 23) (oi := ?o46) (v := undef) ?i46 (by kernel_rfl) (by kernel_rfl) (by kernel_rfl) ?q46 ?y46 (by assumption) ?r46; (case i46 => (simp only [List.getElem?_toArray, List.getElem?_cons_succ, List.getElem?_cons_zero]; rfl)); (case q46 => exact fun _ _ _ h => h); (case y46 => exact Or.inr ⟨by rfl, rfl⟩))
          try simp only [Act.put, List.setIfInBounds_toArray, List.set_cons_zero, List.set_cons_succ]
          first | (refine wpAnyH_take (i := 24) (oi := ?o47) (v := ?v47) ?i47 (by kernel_rfl) (by kernel_rfl) (by kernel_rfl) ?q47 ?y47 (by assumption) ?r47; (case i47 => (simp only [List.getElem?_toArray, List.getElem?_cons_succ, List.getElem?_cons_zero]; rfl)); (case q47 => exact fun _ _ _ h => h); (case y47 => (refine Or.inl ⟨by rfl, ?_⟩; intro w hSw; (try dsimp only at hSw); go_simp; (try (with_reducible rfl))))) | (refine wpAnyH_take (i := 24) (oi := ?o48) (v := undef) ?i48 (by kernel_rfl) (by kernel_rfl) (by kernel_rfl) ?q48 ?y48 (by assumption) ?r48; (case i48 => (simp only [List.getElem?_toArray, List.getElem?_cons_succ, List.getElem?_cons_zero]; rfl)); (case q48 => exact fun _ _ _ h => h); (case y48 => exact Or.inr ⟨by rfl, rfl⟩))
          try simp only [Act.put, List.setIfInBounds_toArray, List.set_cons_zero, List.set_cons_succ]
          first | (refine wpAnyH_take (i := 25) (oi := ?o49) (v := ?v49) ?i49 (by kernel_rfl) (by kernel_rfl) (by kernel_rfl) ?q49 ?y49 (by assumption) ?r49; (case i49 => (simp only [List.getElem?_toArray, List.getElem?_cons_succ, List.getElem?_cons_zero]; rfl)); (case q49 => exact fun _ _ _ h => h); (case y49 => (refine Or.inl ⟨by rfl, ?_⟩; intro w hSw; (try dsimp only at hSw); go_simp; (try (with_reducible rfl))))) | (refine wpAnyH_take (i := 25) (oi := ?o50) (v := undef) ?i50 (by kernel_rfl) (by kernel_rfl) (by kernel_rfl) ?q50 ?y50 (by assumption) ?r50; (case i50 => (simp only [List.getElem?_toArray, List.getElem?_cons_succ, List.getElem?_cons_zero]; rfl)); (case q50 => exact fun _ _ _ h => h); (case y50 => exact Or.inr ⟨by rfl, rfl⟩))
          try simp only [Act.put, List.setIfInBounds_toArray, List.set_cons_zero, List.set_cons_succ]
          first | (refine wpAnyH_take (i := 26) (oi := ?o51) (v := ?v51) ?i51 (by kernel_rfl) (by kernel_rfl) (by kernel_rfl) ?q51 ?y51 (by assumption) ?r51; (case i51 => (simp only [List.getElem?_toArray, List.getElem?_cons_succ, List.getElem?_cons_zero]; rfl)); (case q51 => exact fun _ _ _ h => h); (case y51 => (refine Or.inl ⟨by rfl, ?_⟩; intro w hSw; (try dsimp only at hSw); go_simp; (try (with_reducible rfl))))) | (refine wpAnyH_take (i := 26) (oi := ?o52) (v := undef) ?i52 (by kernel_rfl) (by kernel_rfl) (by kernel_rfl) ?q52 ?y52 (by assumption) ?r52; (case i52 => (simp only [List.getElem?_toArray, List.getElem?_cons_succ, List.getElem?_cons_zero]; rfl)); (case q52 => exact fun _ _ _ h => h); (case y52 => exact Or.inr ⟨by rfl, rfl⟩))
          try simp only [Act.put, List.setIfInBounds_toArray, List.set_cons_zero, List.set_cons_succ]
          first | (refine wpAnyH_take (i := 27) (oi := ?o53) (v := ?v53) ?i53 (by kernel_rfl) (by kernel_rfl) (by kernel_rfl) ?q53 ?y53 (by assumption) ?r53; (case i53 => (simp only [List.getElem?_toArray, List.getElem?_cons_succ, List.getElem?_cons_zero]; rfl)); (case q53 => exact fun _ _ _ h => h); (case y53 => (refine Or.inl ⟨by rfl, ?_⟩; intro w hSw; (try dsimp only at hSw); go_simp; (try (with_reducible rfl))))) | (refine wpAnyH_take (i := 27) (oi := ?o54) (v := undef) ?i54 (by kernel_rfl) (by kernel_rfl) (by kernel_rfl) ?q54 ?y54 (by assumption) ?r54; (case i54 => (simp only [List.getElem?_toArray, List.getElem?_cons_succ, List.getElem?_cons_zero]; rfl)); (case q54 => exact fun _ _ _ h => h); (case y54 => exact Or.inr ⟨by rfl, rfl⟩))
          try simp only [Act.put, List.setIfInBounds_toArray, List.set_cons_zero, List.set_cons_succ]
          first | (refine wpAnyH_take (i := 28) (oi := ?o55) (v := ?v55) ?i55 (by kernel_rfl) (by kernel_rfl) (by kernel_rfl) ?q55 ?y55 (by assumption) ?r55; (case i55 => (simp only [List.getElem?_toArray, List.getElem?_cons_succ, List.getElem?_cons_zero]; rfl)); (case q55 => exact fun _ _ _ h => h); (case y55 => (refine Or.inl ⟨by rfl, ?_⟩; intro w hSw; (try dsimp only at hSw); go_simp; (try (with_reducible rfl))))) | (refine wpAnyH_take (i := 28) (oi := ?o56) (v := undef) ?i56 (by kernel_rfl) (by kernel_rfl) (by kernel_rfl) ?q56 ?y56 (by assumption) ?r56; (case i56 => (simp only [List.getElem?_toArray, List.getElem?_cons_succ, List.getElem?_cons_zero]; rfl)); (case q56 => exact fun _ _ _ h => h); (case y56 => exact Or.inr ⟨by rfl, rfl⟩))
          try simp only [Act.put, List.setIfInBounds_toArray, List.set_cons_zero, List.set_cons_succ]
          first | (refine wpAnyH_take (i := 29) (oi := ?o57) (v := ?v57) ?i57 (by kernel_rfl) (by kernel_rfl) (by kernel_rfl) ?q57 ?y57 (by assumption) ?r57; (case i57 => (simp only [List.getElem?_toArray, List.getElem?_cons_succ, List.getElem?_cons_zero]; rfl)); (case q57 => exact fun _ _ _ h => h); (case y57 => (refine Or.inl ⟨by rfl, ?_⟩; intro w hSw; (try dsimp only at hSw); go_simp; (try (with_reducible rfl))))) | (refine wpAnyH_take (i := 29) (oi := ?o58) (v := undef) ?i58 (by kernel_rfl) (by kernel_rfl) (by kernel_rfl) ?q58 ?y58 (by assumption) ?r58; (case i58 => (simp only [List.getElem?_toArray, List.getElem?_cons_succ, List.getElem?_cons_zero]; rfl)); (case q58 => exact fun _ _ _ h => h); (case y58 => exact Or.inr ⟨by rfl, rfl⟩))
          try simp only [Act.put, List.setIfInBounds_toArray, List.set_cons_zero, List.set_cons_succ]
          first | (refine wpAnyH_take (i := 30) (oi := ?o59) (v := ?v59) ?i59 (by kernel_rfl) (by kernel_rfl) (by kernel_rfl) ?q59 ?y59 (by assumption) ?r59; (case i59 => (simp only [List.getElem?_toArray, List.getElem?_cons_succ, List.getElem?_cons_zero]; rfl)); (case q59 => exact fun _ _ _ h => h); (case y59 => (refine Or.inl ⟨by rfl, ?_⟩; intro w hSw; (try dsimp only at hSw); go_simp; (try (with_reducible rfl))))) | (refine wpAnyH_take (i := 30) (oi := ?o60) (v := undef) ?i60 (by kernel_rfl) (by kernel_rfl) (by kernel_rfl) ?q60 ?y60 (by assumption) ?r60; (case i60 => (simp only [List.getElem?_toArray, List.getElem?_cons_succ, List.getElem?_cons_zero]; rfl)); (case q60 => exact fun _ _ _ h => h); (case y60 => exact Or.inr ⟨by rfl, rfl⟩))
          try simp only [Act.put, List.setIfInBounds_toArray, List.set_cons_zero, List.set_cons_succ]
          first | (refine wpAnyH_take (i := 31) (oi := ?o61) (v := ?v61) ?i61 (by kernel_rfl) (by kernel_rfl) (by kernel_rfl) ?q61 ?y61 (by assumption) ?r61; (case i61 => (simp only [List.getElem?_toArray, List.getElem?_cons_succ, List.getElem?_cons_zero]; rfl)); (case q61 => exact fun _ _ _ h => h); (case y61 => (refine Or.inl ⟨by rfl, ?_⟩; intro w hSw; (try dsimp only at hSw); go_simp; (try (with_reducible rfl))))) | (refine wpAnyH_take (i := 31) (oi := ?o62) (v := undef) ?i62 (by kernel_rfl) (by kernel_rfl) (by kernel_rfl) ?q62 ?y62 (by assumption) ?r62; (case i62 => (simp only [List.getElem?_toArray, List.getElem?_cons_succ, List.getElem?_cons_zero]; rfl)); (case q62 => exact fun _ _ _ h => h); (case y62 => exact Or.inr ⟨by rfl, rfl⟩))
          try simp only [Act.put, List.setIfInBounds_toArray, List.set_cons_zero, List.set_cons_succ]
          first | (refine wpAnyH_take (i := 32) (oi := ?o63) (v := ?v63) ?i63 (by kernel_rfl) (by kernel_rfl) (by kernel_rfl) ?q63 ?y63 (by assumption) ?r63; (case i63 => (simp only [List.getElem?_toArray, List.getElem?_cons_succ, List.getElem?_cons_zero]; rfl)); (case q63 => exact fun _ _ _ h => h); (case y63 => (refine Or.inl ⟨by rfl, ?_⟩; intro w hSw; (try dsimp only at hSw); go_simp; (try (with_reducible rfl))))) | (refine wpAnyH_take (i := 32) (oi := ?o64) (v := undef) ?i64 (by kernel_rfl) (by kernel_rfl) (by kernel_rfl) ?q64 ?y64 (by assumption) ?r64; (case i64 => (simp only [List.getElem?_toArray, List.getElem?_cons_succ, List.getElem?_cons_zero]; rfl)); (case q64 => exact fun _ _ _ h => h); (case y64 => exact Or.inr ⟨by rfl, rfl⟩))
          try simp only [Act.put, List.setIfInBounds_toArray, List.set_cons_zero, List.set_cons_succ]
          first | (refine wpAnyH_take (i := 33) (oi := ?o65) (v := ?v65) ?i65 (by kernel_rfl) (by kernel_rfl) (by kernel_rfl) ?q65 ?y65 (by assumption) ?r65; (case i65 => (simp only [List.getElem?_toArray, List.getElem?_cons_succ, List.getElem?_cons_zero]; rfl)); (case q65 => exact fun _ _ _ h => h); (case y65 => (refine Or.inl ⟨by rfl, ?_⟩; intro w hSw; (try dsimp only at hSw); go_simp; (try (with_reducible rfl))))) | (refine wpAnyH_take (i := 33) (oi := ?o66) (v := undef) ?i66 (by kernel_rfl) (by kernel_rfl) (by kernel_rfl) ?q66 ?y66 (by assumption) ?r66; (case i66 => (simp only [List.getElem?_toArray, List.getElem?_cons_succ, List.getElem?_cons_zero]; rfl)); (case q66 => exact fun _ _ _ h => h); (case y66 => exact Or.inr ⟨by rfl, rfl⟩))
          try simp only [Act.put, List.setIfInBounds_toArray, List.set_cons_zero, List.set_cons_succ]
          first | (refine wpAnyH_take (i := 34) (oi := ?o67) (v := ?v67) ?i67 (by kernel_rfl) (by kernel_rfl) (by kernel_rfl) ?q67 ?y67 (by assumption) ?r67; (case i67 => (simp only [List.getElem?_toArray, List.getElem?_cons_succ, List.getElem?_cons_zero]; rfl)); (case q67 => exact fun _ _ _ h => h); (case y67 => (refine Or.inl ⟨by rfl, ?_⟩; intro w hSw; (try dsimp only at hSw); go_simp; (try (with_reducible rfl))))) | (refine wpAnyH_take (i := 34) (oi := ?o68) (v := undef) ?i68 (by kernel_rfl) (by kernel_rfl) (by kernel_rfl) ?q68 ?y68 (by assumption) ?r68; (case i68 => (simp only [List.getElem?_toArray, List.getElem?_cons_succ, List.getElem?_cons_zero]; rfl)); (case q68 => exact fun _ _ _ h => h); (case y68 => exact Or.inr ⟨by rfl, rfl⟩))
          try simp only [Act.put, List.setIfInBounds_toArray, List.set_cons_zero, List.set_cons_succ]
          first | (refine wpAnyH_take (i := 35) (oi := ?o69) (v := ?v69) ?i69 (by kernel_rfl) (by kernel_rfl) (by kernel_rfl) ?q69 ?y69 (by assumption) ?r69; (case i69 => (simp only [List.getElem?_toArray, List.getElem?_cons_succ, List.getElem?_cons_zero]; rfl)); (case q69 => exact fun _ _ _ h => h); (case y69 => (refine Or.inl ⟨by rfl, ?_⟩; intro w hSw; (try dsimp only at hSw); go_simp; (try (with_reducible rfl))))) | (refine wpAnyH_take (i := 35) (oi := ?o70) (v := undef) ?i70 (by kernel_rfl) (by kernel_rfl) (by kernel_rfl) ?q70 ?y70 (by assumption) ?r70; (case i70 => (simp only [List.getElem?_toArray, List.getElem?_cons_succ, List.getElem?_cons_zero]; rfl)); (case q70 => exact fun _ _ _ h => h); (case y70 => exact Or.inr ⟨by rfl, rfl⟩))
          try simp only [Act.put, List.setIfInBounds_toArray, List.set_cons_zero, List.set_cons_succ]
          first | (refine wpAnyH_take (i := 36) (oi := ?o71) (v := ?v71) ?i71 (by kernel_rfl) (by kernel_rfl) (by kernel_rfl) ?q71 ?y71 (by assumption) ?r71; (case i71 => (simp only [List.getElem?_toArray, List.getElem?_cons_succ, List.getElem?_cons_zero]; rfl)); (case q71 => exact fun _ _ _ h => h); (case y71 => (refine Or.inl ⟨by rfl, ?_⟩; intro w hSw; (try dsimp only at hSw); go_simp; (try (with_reducible rfl))))) | (refine wpAnyH_take (i := 36) (oi := ?o72) (v := undef) ?i72 (by kernel_rfl) (by kernel_rfl) (by kernel_rfl) ?q72 ?y72 (by assumption) ?r72; (case i72 => (simp only [List.getElem?_toArray, List.getElem?_cons_succ, List.getElem?_cons_zero]; rfl)); (case q72 => exact fun _ _ _ h => h); (case y72 => exact Or.inr ⟨by rfl, rfl⟩))
          try simp only [Act.put, List.setIfInBounds_toArray, List.set_cons_zero, List.set_cons_succ]
          first | (refine wpAnyH_take (i := 37) (oi := ?o73) (v := ?v73) ?i73 (by kernel_rfl) (by kernel_rfl) (by kernel_rfl) ?q73 ?y73 (by assumption) ?r73; (case i73 => (simp only [List.getElem?_toArray, List.getElem?_cons_succ, List.getElem?_cons_zero]; rfl)); (case q73 => exact fun _ _ _ h => h); (case y73 => (refine Or.inl ⟨by rfl, ?_⟩; intro w hSw; (try dsimp only at hSw); go_simp; (try (with_reducible rfl))))) | (refine wpAnyH_take (i := 37) (oi := ?o74) (v := undef) ?i74 (by kernel_rfl) (by kernel_rfl) (by kernel_rfl) ?q74 ?y74 (by assumption) ?r74; (case i74 => (simp only [List.getElem?_toArray, List.getElem?_cons_succ, List.getElem?_cons_zero]; rfl)); (case q74 => exact fun _ _ _ h => h); (case y74 => exact Or.inr ⟨by rfl, rfl⟩))
          try simp only [Act.put, List.setIfInBounds_toArray, List.set_cons_zero, List.set_cons_succ]
          first | (refine wpAnyH_take (i := 38) (oi := ?o75) (v := ?v75) ?i75 (by kernel_rfl) (by kernel_rfl) (by kernel_rfl) ?q75 ?y75 (by assumption) ?r75; (case i75 => (simp only [List.getElem?_toArray, List.getElem?_cons_succ, List.getElem?_cons_zero]; rfl)); (case q75 => exact fun _ _ _ h => h); (case y75 => (refine Or.inl ⟨by rfl, ?_⟩; intro w hSw; (try dsimp only at hSw); go_simp; (try (with_reducible rfl))))) | (refine wpAnyH_take (i := 38) (oi := ?o76) (v := undef) ?i76 (by kernel_rfl) (by kernel_rfl) (by kernel_rfl) ?q76 ?y76 (by assumption) ?r76; (case i76 => (simp only [List.getElem?_toArray, List.getElem?_cons_succ, List.getElem?_cons_zero]; rfl)); (case q76 => exact fun _ _ _ h => h); (case y76 => exact Or.inr ⟨by rfl, rfl⟩))
          try simp only [Act.put, List.setIfInBounds_toArray, List.set_cons_zero, List.set_cons_succ]
          first | (refine wpAnyH_take (i := 39) (oi := ?o77) (v := ?v77) ?i77 (by kernel_rfl) (by kernel_rfl) (by kernel_rfl) ?q77 ?y77 (by assumption) ?r77; (case i77 => (simp only [List.getElem?_toArray, List.getElem?_cons_succ, List.getElem?_cons_zero]; rfl)); (case q77 => exact fun _ _ _ h => h); (case y77 => (refine Or.inl ⟨by rfl, ?_⟩; intro w hSw; (try dsimp only at hSw); go_simp; (try (with_reducible rfl))))) | (refine wpAnyH_take (i := 39) (oi := ?o78) (v := undef) ?i78 (by kernel_rfl) (by kernel_rfl) (by kernel_rfl) ?q78 ?y78 (by assumption) ?r78; (case i78 => (simp only [List.getElem?_toArray, List.getElem?_cons_succ, List.getElem?_cons_zero]; rfl)); (case q78 => exact fun _ _ _ h => h); (case y78 => exact Or.inr ⟨by rfl, rfl⟩))
          try simp only [Act.put, List.setIfInBounds_toArray, List.set_cons_zero, List.set_cons_succ]
          first | (refine wpAnyH_take (i := 40) (oi := ?o79) (v := ?v79) ?i79 (by kernel_rfl) (by kernel_rfl) (by kernel_rfl) ?q79 ?y79 (by assumption) ?r79; (case i79 => (simp only [List.getElem?_toArray, List.getElem?_cons_succ, List.getElem?_cons_zero]; rfl)); (case q79 => exact fun _ _ _ h => h); (case y79 => (refine Or.inl ⟨by rfl, ?_⟩; intro w hSw; (try dsimp only at hSw); go_simp; (try (with_reducible rfl))))) | (refine wpAnyH_take (i := 40) (oi := ?o80) (v := undef) ?i80 (by kernel_rfl) (by kernel_rfl) (by kernel_rfl) ?q80 ?y80 (by assumption) ?r80; (case i80 => (simp only [List.getElem?_toArray, List.getElem?_cons_succ, List.getElem?_cons_zero]; rfl)); (case q80 => exact fun _ _ _ h => h); (case y80 => exact Or.inr ⟨by rfl, rfl⟩))
          try simp only [Act.put, List.setIfInBounds_toArray, List.set_cons_zero, List.set_cons_succ]
          first | (refine wpAnyH_take (i := 41) (oi := ?o81) (v := ?v81) ?i81 (by kernel_rfl) (by kernel_rfl) (by kernel_rfl) ?q81 ?y81 (by assumption) ?r81; (case i81 => (simp only [List.getElem?_toArray, List.getElem?_cons_succ, List.getElem?_cons_zero]; rfl)); (case q81 => exact fun _ _ _ h => h); (case y81 => (refine Or.inl ⟨by rfl, ?_⟩; intro w hSw; (try dsimp only at hSw); go_simp; (try (with_reducible rfl))))) | (refine wpAnyH_take (i := 41) (oi := ?o82) (v := undef) ?i82 (by kernel_rfl) (by kernel_rfl) (by kernel_rfl) ?q82 ?y82 (by assumption) ?r82; (case i82 => (simp only [List.getElem?_toArray, List.getElem?_cons_succ, List.getElem?_cons_zero]; rfl)); (case q82 => exact fun _ _ _ h => h); (case y82 => exact Or.inr ⟨by rfl, rfl⟩))
          try simp only [Act.put, List.setIfInBounds_toArray, List.set_cons_zero, List.set_cons_succ]
          first | (refine wpAnyH_take (i := 42) (oi := ?o83) (v := ?v83) ?i83 (by kernel_rfl) (by kernel_rfl) (by kernel_rfl) ?q83 ?y83 (by assumption) ?r83; (case i83 => (simp only [List.getElem?_toArray, List.getElem?_cons_succ, List.getElem?_cons_zero]; rfl)); (case q83 => exact fun _ _ _ h => h); (case y83 => (refine Or.inl ⟨by rfl, ?_⟩; intro w hSw; (try dsimp only at hSw); go_simp; (try (with_reducible rfl))))) | (refine wpAnyH_take (i := 42) (oi := ?o84) (v := undef) ?i84 (by kernel_rfl) (by kernel_rfl) (by kernel_rfl) ?q84 ?y84 (by assumption) ?r84; (case i84 => (simp only [List.getElem?_toArray, List.getElem?_cons_succ, List.getElem?_cons_zero]; rfl)); (case q84 => exact fun _ _ _ h => h); (case y84 => exact Or.inr ⟨by rfl, rfl⟩))
          try simp only [Act.put, List.setIfInBounds_toArray, List.set_cons_zero, List.set_cons_succ]
          first | (refine wpAnyH_take (i := 43) (oi := ?o85) (v := ?v85) ?i85 (by kernel_rfl) (by kernel_rfl) (by kernel_rfl) ?q85 ?y85 (by assumption) ?r85; (case i85 => (simp only [List.getElem?_toArray, List.getElem?_cons_succ, List.getElem?_cons_zero]; rfl)); (case q85 => exact fun _ _ _ h => h); (case y85 => (refine Or.inl ⟨by rfl, ?_⟩; intro w hSw; (try dsimp only at hSw); go_simp; (try (with_reducible rfl))))) | (refine wpAnyH_take (i := 43) (oi := ?o86) (v := undef) ?i86 (by kernel_rfl) (by kernel_rfl) (by kernel_rfl) ?q86 ?y86 (by assumption) ?r86; (case i86 => (simp only [List.getElem?_toArray, List.getElem?_cons_succ, List.getElem?_cons_zero]; rfl)); (case q86 => exact fun _ _ _ h => h); (case y86 => exact Or.inr ⟨by rfl, rfl⟩))
          try simp only [Act.put, List.setIfInBounds_toArray, List.set_cons_zero, List.set_cons_succ]
          refine wpAnyH_done (by kernel_rfl) ?_ _
          go_wp2
          exact ⟨⟨1, by omega, by go_num, VB.out.trans (HB1.out.mono VB.out.size)⟩, by simp [intOf]; omega⟩
        · obtain ⟨b, hb0⟩ : ∃ b, L[j]? = some b := ⟨_, List.getElem?_eq_getElem (by have := HLL.out; omega)⟩
          have hlex := lex_next HLX.out hb0 ha
          have hc3 := (hr1.step (HB.out.block g hr1.lt)).cell hb0
          have c3 := hc3.1
          have c4 := hc3.2.1
          obtain ⟨b0, b1⟩ := b
          simp only at c3 c4
          have hbox : ∀ X : World, Below V.heap.size V X → X.cell? ⟨wr.heap.size, 0, none⟩ = some (.int .i64 a0) ∧ X.cell? ⟨wr.heap.size, 1, none⟩ = some (.int .i64 a1) ∧ X.cell? ⟨g, j * 2, none⟩ = some (.int .i64 b0) ∧ X.cell? ⟨g, j * 2 + 1, none⟩ = some (.int .i64 b1) := fun X hX => by
            have h0 := (hX.block wr.heap.size (blt y0)).trans y0
            have hr2 := (hr1.step (HB.out.block g hr1.lt))
            have h1 := (hX.cell (p := ⟨g, j * 2, none⟩) (Nat.lt_of_lt_of_le hr2.lt yb.size)).trans ((yb.cell (p := ⟨g, j * 2, none⟩) hr2.lt).trans c3)
            have h2 := (hX.cell (p := ⟨g, j * 2 + 1, none⟩) (Nat.lt_of_lt_of_le hr2.lt yb.size)).trans ((yb.cell (p := ⟨g, j * 2 + 1, none⟩) hr2.lt).trans c4)
            exact ⟨bcell h0 0, bcell h0 1, h1, h2⟩
          have HBOX3 := Lib.hid hbox
          have k2 : (j : Int) + 1 < (m : Int) := by omega
          have k3 : (0 : Int) ≤ (j : Int) := by omega
          have k4 : (j : Int) < (m : Int) := by omega
          have s1 : IntKind.i64.wrap ((j : Int) + 1 - 1) = (j : Int) := by rw [IntWalk.i64_in _ (by omega)]; first | done | omega
          have s2 : IntKind.i64.wrap (j : Int) = (j : Int) := IntWalk.i64_in _ (by omega)
          have s3 : decide ((0 : Int) < (j : Int) + 1) = true := decide_eq_true (by omega)
          rw [show ((j + 1 : Nat) : Int) = (j : Int) + 1 by omega] at hv
          subst hv
          by_cases hlt2 : b0 < a0
          · have g1 : decide (a0 < b0) = false := by simp; omega
            have g2 : (b0 == a0) = false := by simp; omega
            clear hr1 hc1 hc3 hV y0 yb vb hF hfind ha hbox hFu hb0 hlex hlt2
            go_wp2_with fail
            rw [← HV.out]
            refine wp_region_held_drew (S := (fun w' => w'.cell? ⟨wr.heap.size, 0, none⟩ = some (.int .i64 a0) ∧ w'.cell? ⟨wr.heap.size, 1, none⟩ = some (.int .i64 a1) ∧ w'.cell? ⟨g, j * 2, none⟩ = some (.int .i64 b0) ∧ w'.cell? ⟨g, j * 2 + 1, none⟩ = some (.int .i64 b1))) (by kernel_rfl) ?_ (fun hHeld => ?_)
            · first | exact HBOX3.out _ HB1.out | exact HBOX3.out _ ((Below.refl _ V).drew)
            first | (refine wpAnyH_take (i := 0) (oi := ?o87) (v := ?v87) ?i87 (by kernel_rfl) (by kernel_rfl) (by kernel_rfl) ?q87 ?y87 (by assumption) ?r87; (case i87 => (simp only [List.getElem?_toArray, List.getElem?_cons_succ, List.getElem?_cons_zero]; rfl)); (case q87 => exact fun _ _ _ h => h); (case y87 => (refine Or.inl ⟨by rfl, ?_⟩; intro w hSw; (try dsimp only at hSw); go_simp; (try (with_reducible rfl))))) | (refine wpAnyH_take (i := 0) (oi := ?o88) (v := undef) ?i88 (by kernel_rfl) (by kernel_rfl) (by kernel_rfl) ?q88 ?y88 (by assumption) ?r88; (case i88 => (simp only [List.getElem?_toArray, List.getElem?_cons_succ, List.getElem?_cons_zero]; rfl)); (case q88 => exact fun _ _ _ h => h); (case y88 => exact Or.inr ⟨by rfl, rfl⟩))
            try simp only [Act.put, List.setIfInBounds_toArray, List.set_cons_zero, List.set_cons_succ]
            first | (refine wpAnyH_take (i := 1) (oi := ?o89) (v := ?v89) ?i89 (by kernel_rfl) (by kernel_rfl) (by kernel_rfl) ?q89 ?y89 (by assumption) ?r89; (case i89 => (simp only [List.getElem?_toArray, List.getElem?_cons_succ, List.getElem?_cons_zero]; rfl)); (case q89 => exact fun _ _ _ h => h); (case y89 => (refine Or.inl ⟨by rfl, ?_⟩; intro w hSw; (try dsimp only at hSw); go_simp; (try (with_reducible rfl))))) | (refine wpAnyH_take (i := 1) (oi := ?o90) (v := undef) ?i90 (by kernel_rfl) (by kernel_rfl) (by kernel_rfl) ?q90 ?y90 (by assumption) ?r90; (case i90 => (simp only [List.getElem?_toArray, List.getElem?_cons_succ, List.getElem?_cons_zero]; rfl)); (case q90 => exact fun _ _ _ h => h); (case y90 => exact Or.inr ⟨by rfl, rfl⟩))
            try simp only [Act.put, List.setIfInBounds_toArray, List.set_cons_zero, List.set_cons_succ]
            first | (refine wpAnyH_take (i := 2) (oi := ?o91) (v := ?v91) ?i91 (by kernel_rfl) (by kernel_rfl) (by kernel_rfl) ?q91 ?y91 (by assumption) ?r91; (case i91 => (simp only [List.getElem?_toArray, List.getElem?_cons_succ, List.getElem?_cons_zero]; rfl)); (case q91 => exact fun _ _ _ h => h); (case y91 => (refine Or.inl ⟨by rfl, ?_⟩; intro w hSw; (try dsimp only at hSw); go_simp; (try (with_reducible rfl))))) | (refine wpAnyH_take (i := 2) (oi := ?o92) (v := undef) ?i92 (by kernel_rfl) (by kernel_rfl) (by kernel_rfl) ?q92 ?y92 (by assumption) ?r92; (case i92 => (simp only [List.getElem?_toArray, List.getElem?_cons_succ, List.getElem?_cons_zero]; rfl)); (case q92 => exact fun _ _ _ h => h); (case y92 => exact Or.inr ⟨by rfl, rfl⟩))
            try simp only [Act.put, List.setIfInBounds_toArray, List.set_cons_zero, List.set_cons_succ]
            first | (refine wpAnyH_take (i := 3) (oi := ?o93) (v := ?v93) ?i93 (by kernel_rfl) (by kernel_rfl) (by kernel_rfl) ?q93 ?y93 (by assumption) ?r93; (case i93 => (simp only [List.getElem?_toArray, List.getElem?_cons_succ, List.getElem?_cons_zero]; rfl)); (case q93 => exact fun _ _ _ h => h); (case y93 => (refine Or.inl ⟨by rfl, ?_⟩; intro w hSw; (try dsimp only at hSw); go_simp; (try (with_reducible rfl))))) | (refine wpAnyH_take (i := 3) (oi := ?o94) (v := undef) ?i94 (by kernel_rfl) (by kernel_rfl) (by kernel_rfl) ?q94 ?y94 (by assumption) ?r94; (case i94 => (simp only [List.getElem?_toArray, List.getElem?_cons_succ, List.getElem?_cons_zero]; rfl)); (case q94 => exact fun _ _ _ h => h); (case y94 => exact Or.inr ⟨by rfl, rfl⟩))
            try simp only [Act.put, List.setIfInBounds_toArray, List.set_cons_zero, List.set_cons_succ]
            first | (refine wpAnyH_take (i := 4) (oi := ?o95) (v := ?v95) ?i95 (by kernel_rfl) (by kernel_rfl) (by kernel_rfl) ?q95 ?y95 (by assumption) ?r95; (case i95 => (simp only [List.getElem?_toArray, List.getElem?_cons_succ, List.getElem?_cons_zero]; rfl)); (case q95 => exact fun _ _ _ h => h); (case y95 => (refine Or.inl ⟨by rfl, ?_⟩; intro w hSw; (try dsimp only at hSw); go_simp; (try (with_reducible rfl))))) | (refine wpAnyH_take (i := 4) (oi := ?o96) (v := undef) ?i96 (by kernel_rfl) (by kernel_rfl) (by kernel_rfl) ?q96 ?y96 (by assumption) ?r96; (case i96 => (simp only [List.getElem?_toArray, List.getElem?_cons_succ, List.getElem?_cons_zero]; rfl)); (case q96 => exact fun _ _ _ h => h); (case y96 => exact Or.inr ⟨by rfl, rfl⟩))
            try simp only [Act.put, List.setIfInBounds_toArray, List.set_cons_zero, List.set_cons_succ]
            refine wpAnyH_ready (rs := [5]) (by kernel_rfl) (by simp) ?_
            refine AllReadyH.cons (by (simp only [List.getElem?_toArray, List.getElem?_cons_succ, List.getElem?_cons_zero]; rfl)) (fun K hK => ?_) AllReadyH.nil
            go_simp
            (go_at_call 48; (with_reducible refine HFIND.out.mono ?_); rintro e w1 ⟨rfl, hb⟩; have HB1 := Aside0.mk (undrew hb); clear hb)
            (try dsimp only)
            refine hK.out _ _ ?_ (fun hHeld => ?_)
            · first | exact HBOX3.out _ HB1.out | exact HBOX3.out _ ((Below.refl _ V).drew)
            clear hK K
            try simp only [Act.put, List.setIfInBounds_toArray, List.set_cons_zero, List.set_cons_succ]
            first | (refine wpAnyH_take (i := 6) (oi := ?o97) (v := ?v97) ?i97 (by kernel_rfl) (by kernel_rfl) (by kernel_rfl) ?q97 ?y97 (by assumption) ?r97; (case i97 => (simp only [List.getElem?_toArray, List.getElem?_cons_succ, List.getElem?_cons_zero]; rfl)); (case q97 => exact fun _ _ _ h => h); (case y97 => (refine Or.inl ⟨by rfl, ?_⟩; intro w hSw; (try dsimp only at hSw); go_simp; (try (with_reducible rfl))))) | (refine wpAnyH_take (i := 6) (oi := ?o98) (v := undef) ?i98 (by kernel_rfl) (by kernel_rfl) (by kernel_rfl) ?q98 ?y98 (by assumption) ?r98; (case i98 => (simp only [List.getElem?_toArray, List.getElem?_cons_succ, List.getElem?_cons_zero]; rfl)); (case q98 => exact fun _ _ _ h => h); (case y98 => exact Or.inr ⟨by rfl, rfl⟩))
            try simp only [Act.put, List.setIfInBounds_toArray, List.set_cons_zero, List.set_cons_succ]
            first | (refine wpAnyH_take (i := 7) (oi := ?o99) (v := ?v99) ?i99 (by kernel_rfl) (by kernel_rfl) (by kernel_rfl) ?q99 ?y99 (by assumption) ?r99; (case i99 => (simp only [List.getElem?_toArray, List.getElem?_cons_succ, List.getElem?_cons_zero]; rfl)); (case q99 => exact fun _ _ _ h => h); (case y99 => (refine Or.inl ⟨by rfl, ?_⟩; intro w hSw; (try dsimp only at hSw); go_simp; (try (with_reducible rfl))))) | (refine wpAnyH_take (i := 7) (oi := ?o100) (v := undef) ?i100 (by kernel_rfl) (by kernel_rfl) (by kernel_rfl) ?q100 ?y100 (by assumption) ?r100; (case i100 => (simp only [List.getElem?_toArray, List.getElem?_cons_succ, List.getElem?_cons_zero]; rfl)); (case q100 => exact fun _ _ _ h => h); (case y100 => exact Or.inr ⟨by rfl, rfl⟩))
            try simp only [Act.put, List.setIfInBounds_toArray, List.set_cons_zero, List.set_cons_succ]
            first | (refine wpAnyH_take (i := 8) (oi := ?o101) (v := ?v101) ?i101 (by kernel_rfl) (by kernel_rfl) (by kernel_rfl) ?q101 ?y101 (by assumption) ?r101; (case i101 => (simp only [List.getElem?_toArray, List.getElem?_cons_succ, List.getElem?_cons_zero]; rfl)); (case q101 => exact fun _ _ _ h => h); (case y101 => (refine Or.inl ⟨by rfl, ?_⟩; intro w hSw; (try dsimp only at hSw); go_simp; (try (with_reducible rfl))))) | (refine wpAnyH_take (i := 8) (oi := ?o102) (v := undef) ?i102 (by kernel_rfl) (by kernel_rfl) (by kernel_rfl) ?q102 ?y102 (by assumption) ?r102; (case i102 => (simp only [List.getElem?_toArray, List.getElem?_cons_succ, List.getElem?_cons_zero]; rfl)); (case q102 => exact fun _ _ _ h => h); (case y102 => exact Or.inr ⟨by rfl, rfl⟩))
            try simp only [Act.put, List.setIfInBounds_toArray, List.set_cons_zero, List.set_cons_succ]
            first | (refine wpAnyH_take (i := 9) (oi := ?o103) (v := ?v103) ?i103 (by kernel_rfl) (by kernel_rfl) (by kernel_rfl) ?q103 ?y103 (by assumption) ?r103; (case i103 => (simp only [List.getElem?_toArray, List.getElem?_cons_succ, List.getElem?_cons_zero]; rfl)); (case q103 => exact fun _ _ _ h => h); (case y103 => (refine Or.inl ⟨by rfl, ?_⟩; intro w hSw; (try dsimp only at hSw); go_simp; (try (with_reducible rfl))))) | (refine wpAnyH_take (i := 9) (oi := ?o104) (v := undef) ?i104 (by kernel_rfl) (by kernel_rfl) (by kernel_rfl) ?q104 ?y104 (by assumption) ?r104; (case i104 => (simp only [List.getElem?_toArray, List.getElem?_cons_succ, List.getElem?_cons_zero]; rfl)); (case q104 => exact fun _ _ _ h => h); (case y104 => exact Or.inr ⟨by rfl, rfl⟩))
            try simp only [Act.put, List.setIfInBounds_toArray, List.set_cons_zero, List.set_cons_succ]
            first | (refine wpAnyH_take (i := 10) (oi := ?o105) (v := ?v105) ?i105 (by kernel_rfl) (by kernel_rfl) (by kernel_rfl) ?q105 ?y105 (by assumption) ?r105; (case i105 => (simp only [List.getElem?_toArray, List.getElem?_cons_succ, List.getElem?_cons_zero]; rfl)); (case q105 => exact fun _ _ _ h => h); (case y105 => (refine Or.inl ⟨by rfl, ?_⟩; intro w hSw; (try dsimp only at hSw); go_simp; (try (with_reducible rfl))))) | (refine wpAnyH_take (i := 10) (oi := ?o106) (v := undef) ?i106 (by kernel_rfl) (by kernel_rfl) (by kernel_rfl) ?q106 ?y106 (by assumption) ?r106; (case i106 => (simp only [List.getElem?_toArray, List.getElem?_cons_succ, List.getElem?_cons_zero]; rfl)); (case q106 => exact fun _ _ _ h => h); (case y106 => exact Or.inr ⟨by rfl, rfl⟩))
            try simp only [Act.put, List.setIfInBounds_toArray, List.set_cons_zero, List.set_cons_succ]
            first | (refine wpAnyH_take (i := 11) (oi := ?o107) (v := ?v107) ?i107 (by kernel_rfl) (by kernel_rfl) (by kernel_rfl) ?q107 ?y107 (by assumption) ?r107; (case i107 => (simp only [List.getElem?_toArray, List.getElem?_cons_succ, List.getElem?_cons_zero]; rfl)); (case q107 => exact fun _ _ _ h => h); (case y107 => (refine Or.inl ⟨by rfl, ?_⟩; intro w hSw; (try dsimp only at hSw); go_simp; (try (with_reducible rfl))))) | (refine wpAnyH_take (i := 11) (oi := ?o108) (v := undef) ?i108 (by kernel_rfl) (by kernel_rfl) (by kernel_rfl) ?q108 ?y108 (by assumption) ?r108; (case i108 => (simp only [List.getElem?_toArray, List.getElem?_cons_succ, List.getElem?_cons_zero]; rfl)); (case q108 => exact fun _ _ _ h => h); (case y108 => exact Or.inr ⟨by rfl, rfl⟩))
            try simp only [Act.put, List.setIfInBounds_toArray, List.set_cons_zero, List.set_cons_succ]
            first | (refine wpAnyH_take (i := 12) (oi := ?o109) (v := ?v109) ?i109 (by kernel_rfl) (by kernel_rfl) (by kernel_rfl) ?q109 ?y109 (by assumption) ?r109; (case i109 => (simp only [List.getElem?_toArray, List.getElem?_cons_succ, List.getElem?_cons_zero]; rfl)); (case q109 => exact fun _ _ _ h => h); (case y109 => (refine Or.inl ⟨by rfl, ?_⟩; intro w hSw; (try dsimp only at hSw); go_simp; (try (with_reducible rfl))))) | (refine wpAnyH_take (i := 12) (oi := ?o110) (v := undef) ?i110 (by kernel_rfl) (by kernel_rfl) (by kernel_rfl) ?q110 ?y110 (by assumption) ?r110; (case i110 => (simp only [List.getElem?_toArray, List.getElem?_cons_succ, List.getElem?_cons_zero]; rfl)); (case q110 => exact fun _ _ _ h => h); (case y110 => exact Or.inr ⟨by rfl, rfl⟩))
            try simp only [Act.put, List.setIfInBounds_toArray, List.set_cons_zero, List.set_cons_succ]
            first | (refine wpAnyH_take (i := 13) (oi := ?o111) (v := ?v111) ?i111 (by kernel_rfl) (by kernel_rfl) (by kernel_rfl) ?q111 ?y111 (by assumption) ?r111; (case i111 => (simp only [List.getElem?_toArray, List.getElem?_cons_succ, List.getElem?_cons_zero]; rfl)); (case q111 => exact fun _ _ _ h => h); (case y111 => (refine Or.inl ⟨by rfl, ?_⟩; intro w hSw; (try dsimp only at hSw); go_simp; (try (with_reducible rfl))))) | (refine wpAnyH_take (i := 13) (oi := ?o112) (v := undef) ?i112 (by kernel_rfl) (by kernel_rfl) (by kernel_rfl) ?q112 ?y112 (by assumption) ?r112; (case i112 => (simp only [List.getElem?_toArray, List.getElem?_cons_succ, List.getElem?_cons_zero]; rfl)); (case q112 => exact fun _ _ _ h => h); (case y112 => exact Or.inr ⟨by rfl, rfl⟩))
            try simp only [Act.put, List.setIfInBounds_toArray, List.set_cons_zero, List.set_cons_succ]
            first | (refine wpAnyH_take (i := 14) (oi := ?o113) (v := ?v113) ?i113 (by kernel_rfl) (by kernel_rfl) (by kernel_rfl) ?q113 ?y113 (by assumption) ?r113; (case i113 => (simp only [List.getElem?_toArray, List.getElem?_cons_succ, List.getElem?_cons_zero]; rfl)); (case q113 => exact fun _ _ _ h => h); (case y113 => (refine Or.inl ⟨by rfl, ?_⟩; intro w hSw; (try dsimp only at hSw); go_simp; (try (with_reducible rfl))))) | (refine wpAnyH_take (i := 14) (oi := ?o114) (v := undef) ?i114 (by kernel_rfl) (by kernel_rfl) (by kernel_rfl) ?q114 ?y114 (by assumption) ?r114; (case i114 => (simp only [List.getElem?_toArray, List.getElem?_cons_succ, List.getElem?_cons_zero]; rfl)); (case q114 => exact fun _ _ _ h => h); (case y114 => exact Or.inr ⟨by rfl, rfl⟩))
            try simp only [Act.put, List.setIfInBounds_toArray, List.set_cons_zero, List.set_cons_succ]
            first | (refine wpAnyH_take (i := 15) (oi := ?o115) (v := ?v115) ?i115 (by kernel_rfl) (by kernel_rfl) (by kernel_rfl) ?q115 ?y115 (by assumption) ?r115; (case i115 => (simp only [List.getElem?_toArray, List.getElem?_cons_succ, List.getElem?_cons_zero]; rfl)); (case q115 => exact fun _ _ _ h => h); (case y115 => (refine Or.inl ⟨by rfl, ?_⟩; intro w hSw; (try dsimp only at hSw); go_simp; (try (with_reducible rfl))))) | (refine wpAnyH_take (i := 15) (oi := ?o116) (v := undef) ?i116 (by kernel_rfl) (by kernel_rfl) (by kernel_rfl) ?q116 ?y116 (by assumption) ?r116; (case i116 => (simp only [List.getElem?_toArray, List.getElem?_cons_succ, List.getElem?_cons_zero]; rfl)); (case q116 => exact fun _ _ _ h => h); (case y116 => exact Or.inr ⟨by rfl, rfl⟩))
            try simp only [Act.put, List.setIfInBounds_toArray, List.set_cons_zero, List.set_cons_succ]
            first | (refine wpAnyH_take (i := 16) (oi := ?o117) (v := ?v117) ?i117 (by kernel_rfl) (by kernel_rfl) (by kernel_rfl) ?q117 ?y117 (by assumption) ?r117; (case i117 => (simp only [List.getElem?_toArray, List.getElem?_cons_succ, List.getElem?_cons_zero]; rfl)); (case q117 => exact fun _ _ _ h => h); (case y117 => (refine Or.inl ⟨by rfl, ?_⟩; intro w hSw; (try dsimp only at hSw); go_simp; (try (with_reducible rfl))))) | (refine wpAnyH_take (i := 16) (oi := ?o118) (v := undef) ?i118 (by kernel_rfl) (by kernel_rfl) (by kernel_rfl) ?q118 ?y118 (by assumption) ?r118; (case i118 => (simp only [List.getElem?_toArray, List.getElem?_cons_succ, List.getElem?_cons_zero]; rfl)); (case q118 => exact fun _ _ _ h => h); (case y118 => exact Or.inr ⟨by rfl, rfl⟩))
            try simp only [Act.put, List.setIfInBounds_toArray, List.set_cons_zero, List.set_cons_succ]
            first | (refine wpAnyH_take (i := 17) (oi := ?o119) (v := ?v119) ?i119 (by kernel_rfl) (by kernel_rfl) (by kernel_rfl) ?q119 ?y119 (by assumption) ?r119; (case i119 => (simp only [List.getElem?_toArray, List.getElem?_cons_succ, List.getElem?_cons_zero]; rfl)); (case q119 => exact fun _ _ _ h => h); (case y119 => (refine Or.inl ⟨by rfl, ?_⟩; intro w hSw; (try dsimp only at hSw); go_simp; (try (with_reducible rfl))))) | (refine wpAnyH_take (i := 17) (oi := ?o120) (v := undef) ?i120 (by kernel_rfl) (by kernel_rfl) (by kernel_rfl) ?q120 ?y120 (by assumption) ?r120; (case i120 => (simp only [List.getElem?_toArray, List.getElem?_cons_succ, List.getElem?_cons_zero]; rfl)); (case q120 => exact fun _ _ _ h => h); (case y120 => exact Or.inr ⟨by rfl, rfl⟩))
            try simp only [Act.put, List.setIfInBounds_toArray, List.set_cons_zero, List.set_cons_succ]
            first | (refine wpAnyH_take (i := 18) (oi := ?o121) (v := ?v121) ?i121 (by kernel_rfl) (by kernel_rfl) (by kernel_rfl) ?q121 ?y121 (by assumption) ?r121; (case i121 => (simp only [List.getElem?_toArray, List.getElem?_cons_succ, List.getElem?_cons_zero]; rfl)); (case q121 => exact fun _ _ _ h => h); (case y121 => (refine Or.inl ⟨by rfl, ?_⟩; intro w hSw; (try dsimp only at hSw); go_simp; (try (with_reducible rfl))))) | (refine wpAnyH_take (i := 18) (oi := ?o122) (v := undef) ?i122 (by kernel_rfl) (by kernel_rfl) (by kernel_rfl) ?q122 ?y122 (by assumption) ?r122; (case i122 => (simp only [List.getElem?_toArray, List.getElem?_cons_succ, List.getElem?_cons_zero]; rfl)); (case q122 => exact fun _ _ _ h => h); (case y122 => exact Or.inr ⟨by rfl, rfl⟩))
            try simp only [Act.put, List.setIfInBounds_toArray, List.set_cons_zero, List.set_cons_succ]
            first | (refine wpAnyH_take (i := 19) (oi := ?o123) (v := ?v123) ?i123 (by kernel_rfl) (by kernel_rfl) (by kernel_rfl) ?q123 ?y123 (by assumption) ?r123; (case i123 => (simp only [List.getElem?_toArray, List.getElem?_cons_succ, List.getElem?_cons_zero]; rfl)); (case q123 => exact fun _ _ _ h => h); (case y123 => (refine Or.inl ⟨by rfl, ?_⟩; intro w hSw; (try dsimp only at hSw); go_simp; (try (with_reducible rfl))))) | (refine wpAnyH_take (i := 19) (oi := ?o124) (v := undef) ?i124 (by kernel_rfl) (by kernel_rfl) (by kernel_rfl) ?q124 ?y124 (by assumption) ?r124; (case i124 => (simp only [List.getElem?_toArray, List.getElem?_cons_succ, List.getElem?_cons_zero]; rfl)); (case q124 => exact fun _ _ _ h => h); (case y124 => exact Or.inr ⟨by rfl, rfl⟩))
            try simp only [Act.put, List.setIfInBounds_toArray, List.set_cons_zero, List.set_cons_succ]
            first | (refine wpAnyH_take (i := 20) (oi := ?o125) (v := ?v125) ?i125 (by kernel_rfl) (by kernel_rfl) (by kernel_rfl) ?q125 ?y125 (by assumption) ?r125; (case i125 => (simp only [List.getElem?_toArray, List.getElem?_cons_succ, List.getElem?_cons_zero]; rfl)); (case q125 => exact fun _ _ _ h => h); (case y125 => (refine Or.inl ⟨by rfl, ?_⟩; intro w hSw; (try dsimp only at hSw); go_simp; (try (with_reducible rfl))))) | (refine wpAnyH_take (i := 20) (oi := ?o126) (v := undef) ?i126 (by kernel_rfl) (by kernel_rfl) (by kernel_rfl) ?q126 ?y126 (by assumption) ?r126; (case i126 => (simp only [List.getElem?_toArray, List.getElem?_cons_succ, List.getElem?_cons_zero]; rfl)); (case q126 => exact fun _ _ _ h => h); (case y126 => exact Or.inr ⟨by rfl, rfl⟩))
            try simp only [Act.put, List.setIfInBounds_toArray, List.set_cons_zero, List.set_cons_succ]
            first | (refine wpAnyH_take (i := 21) (oi := ?o127) (v := ?v127) ?i127 (by kernel_rfl) (by kernel_rfl) (by kernel_rfl) ?q127 ?y127 (by assumption) ?r127; (case i127 => (simp only [List.getElem?_toArray, List.getElem?_cons_succ, List.getElem?_cons_zero]; rfl)); (case q127 => exact fun _ _ _ h => h); (case y127 => (refine Or.inl ⟨by rfl, ?_⟩; intro w hSw; (try dsimp only at hSw); go_simp; (try (with_reducible rfl))))) | (refine wpAnyH_take (i := 21) (oi := ?o128) (v := undef) ?i128 (by kernel_rfl) (by kernel_rfl) (by kernel_rfl) ?q128 ?y128 (by assumption) ?r128; (case i128 => (simp only [List.getElem?_toArray, List.getElem?_cons_succ, List.getElem?_cons_zero]; rfl)); (case q128 => exact fun _ _ _ h => h); (case y128 => exact Or.inr ⟨by rfl, rfl⟩))
            try simp only [Act.put, List.setIfInBounds_toArray, List.set_cons_zero, List.set_cons_succ]
            first | (refine wpAnyH_take (i := 22) (oi := ?o129) (v := ?v129) ?i129 (by kernel_rfl) (by kernel_rfl) (by kernel_rfl) ?q129 ?y129 (by assumption) ?r129; (case i129 => (simp only [List.getElem?_toArray, List.getElem?_cons_succ, List.getElem?_cons_zero]; rfl)); (case q129 => exact fun _ _ _ h => h); (case y129 => (refine Or.inl ⟨by rfl, ?_⟩; intro w hSw; (try dsimp only at hSw); go_simp; (try (with_reducible rfl))))) | (refine wpAnyH_take (i := 22) (oi := ?o130) (v := undef) ?i130 (by kernel_rfl) (by kernel_rfl) (by kernel_rfl) ?q130 ?y130 (by assumption) ?r130; (case i130 => (simp only [List.getElem?_toArray, List.getElem?_cons_succ, List.getElem?_cons_zero]; rfl)); (case q130 => exact fun _ _ _ h => h); (case y130 => exact Or.inr ⟨by rfl, rfl⟩))
            try simp only [Act.put, List.setIfInBounds_toArray, List.set_cons_zero, List.set_cons_succ]
            first | (refine wpAnyH_take (i := 23) (oi := ?o131) (v := ?v131) ?i131 (by kernel_rfl) (by kernel_rfl) (by kernel_rfl) ?q131 ?y131 (by assumption) ?r131; (case i131 => (simp only [List.getElem?_toArray, List.getElem?_cons_succ, List.getElem?_cons_zero]; rfl)); (case q131 => exact fun _ _ _ h => h); (case y131 => (refine Or.inl ⟨by rfl, ?_⟩; intro w hSw; (try dsimp only at hSw); go_simp; (try (with_reducible rfl))))) | (refine wpAnyH_take (i := 23) (oi := ?o132) (v := undef) ?i132 (by kernel_rfl) (by kernel_rfl) (by kernel_rfl) ?q132 ?y132 (by assumption) ?r132; (case i132 => (simp only [List.getElem?_toArray, List.getElem?_cons_succ, List.getElem?_cons_zero]; rfl)); (case q132 => exact fun _ _ _ h => h); (case y132 => exact Or.inr ⟨by rfl, rfl⟩))
            try simp only [Act.put, List.setIfInBounds_toArray, List.set_cons_zero, List.set_cons_succ]
            first | (refine wpAnyH_take (i := 24) (oi := ?o133) (v := ?v133) ?i133 (by kernel_rfl) (by kernel_rfl) (by kernel_rfl) ?q133 ?y133 (by assumption) ?r133; (case i133 => (simp only [List.getElem?_toArray, List.getElem?_cons_succ, List.getElem?_cons_zero]; rfl)); (case q133 => exact fun _ _ _ h => h); (case y133 => (refine Or.inl ⟨by rfl, ?_⟩; intro w hSw; (try dsimp only at hSw); go_simp; (try (with_reducible rfl))))) | (refine wpAnyH_take (i := 24) (oi := ?o134) (v := undef) ?i134 (by kernel_rfl) (by kernel_rfl) (by kernel_rfl) ?q134 ?y134 (by assumption) ?r134; (case i134 => (simp only [List.getElem?_toArray, List.getElem?_cons_succ, List.getElem?_cons_zero]; rfl)); (case q134 => exact fun _ _ _ h => h); (case y134 => exact Or.inr ⟨by rfl, rfl⟩))
            try simp only [Act.put, List.setIfInBounds_toArray, List.set_cons_zero, List.set_cons_succ]
            first | (refine wpAnyH_take (i := 25) (oi := ?o135) (v := ?v135) ?i135 (by kernel_rfl) (by kernel_rfl) (by kernel_rfl) ?q135 ?y135 (by assumption) ?r135; (case i135 => (simp only [List.getElem?_toArray, List.getElem?_cons_succ, List.getElem?_cons_zero]; rfl)); (case q135 => exact fun _ _ _ h => h); (case y135 => (refine Or.inl ⟨by rfl, ?_⟩; intro w hSw; (try dsimp only at hSw); go_simp; (try (with_reducible rfl))))) | (refine wpAnyH_take (i := 25) (oi := ?o136) (v := undef) ?i136 (by kernel_rfl) (by kernel_rfl) (by kernel_rfl) ?q136 ?y136 (by assumption) ?r136; (case i136 => (simp only [List.getElem?_toArray, List.getElem?_cons_succ, List.getElem?_cons_zero]; rfl)); (case q136 => exact fun _ _ _ h => h); (case y136 => exact Or.inr ⟨by rfl, rfl⟩))
            try simp only [Act.put, List.setIfInBounds_toArray, List.set_cons_zero, List.set_cons_succ]
            first | (refine wpAnyH_take (i := 26) (oi := ?o137) (v := ?v137) ?i137 (by kernel_rfl) (by kernel_rfl) (by kernel_rfl) ?q137 ?y137 (by assumption) ?r137; (case i137 => (simp only [List.getElem?_toArray, List.getElem?_cons_succ, List.getElem?_cons_zero]; rfl)); (case q137 => exact fun _ _ _ h => h); (case y137 => (refine Or.inl ⟨by rfl, ?_⟩; intro w hSw; (try dsimp only at hSw); go_simp; (try (with_reducible rfl))))) | (refine wpAnyH_take (i := 26) (oi := ?o138) (v := undef) ?i138 (by kernel_rfl) (by kernel_rfl) (by kernel_rfl) ?q138 ?y138 (by assumption) ?r138; (case i138 => (simp only [List.getElem?_toArray, List.getElem?_cons_succ, List.getElem?_cons_zero]; rfl)); (case q138 => exact fun _ _ _ h => h); (case y138 => exact Or.inr ⟨by rfl, rfl⟩))
            try simp only [Act.put, List.setIfInBounds_toArray, List.set_cons_zero, List.set_cons_succ]
            first | (refine wpAnyH_take (i := 27) (oi := ?o139) (v := ?v139) ?i139 (by kernel_rfl) (by kernel_rfl) (by kernel_rfl) ?q139 ?y139 (by assumption) ?r139; (case i139 => (simp only [List.getElem?_toArray, List.getElem?_cons_succ, List.getElem?_cons_zero]; rfl)); (case q139 => exact fun _ _ _ h => h); (case y139 => (refine Or.inl ⟨by rfl, ?_⟩; intro w hSw; (try dsimp only at hSw); go_simp; (try (with_reducible rfl))))) | (refine wpAnyH_take (i := 27) (oi := ?o140) (v := undef) ?i140 (by kernel_rfl) (by kernel_rfl) (by kernel_rfl) ?q140 ?y140 (by assumption) ?r140; (case i140 => (simp only [List.getElem?_toArray, List.getElem?_cons_succ, List.getElem?_cons_zero]; rfl)); (case q140 => exact fun _ _ _ h => h); (case y140 => exact Or.inr ⟨by rfl, rfl⟩))
            try simp only [Act.put, List.setIfInBounds_toArray, List.set_cons_zero, List.set_cons_succ]
            first | (refine wpAnyH_take (i := 28) (oi := ?o141) (v := ?v141) ?i141 (by kernel_rfl) (by kernel_rfl) (by kernel_rfl) ?q141 ?y141 (by assumption) ?r141; (case i141 => (simp only [List.getElem?_toArray, List.getElem?_cons_succ, List.getElem?_cons_zero]; rfl)); (case q141 => exact fun _ _ _ h => h); (case y141 => (refine Or.inl ⟨by rfl, ?_⟩; intro w hSw; (try dsimp only at hSw); go_simp; (try (with_reducible rfl))))) | (refine wpAnyH_take (i := 28) (oi := ?o142) (v := undef) ?i142 (by kernel_rfl) (by kernel_rfl) (by kernel_rfl) ?q142 ?y142 (by assumption) ?r142; (case i142 => (simp only [List.getElem?_toArray, List.getElem?_cons_succ, List.getElem?_cons_zero]; rfl)); (case q142 => exact fun _ _ _ h => h); (case y142 => exact Or.inr ⟨by rfl, rfl⟩))
            try simp only [Act.put, List.setIfInBounds_toArray, List.set_cons_zero, List.set_cons_succ]
            first | (refine wpAnyH_take (i := 29) (oi := ?o143) (v := ?v143) ?i143 (by kernel_rfl) (by kernel_rfl) (by kernel_rfl) ?q143 ?y143 (by assumption) ?r143; (case i143 => (simp only [List.getElem?_toArray, List.getElem?_cons_succ, List.getElem?_cons_zero]; rfl)); (case q143 => exact fun _ _ _ h => h); (case y143 => (refine Or.inl ⟨by rfl, ?_⟩; intro w hSw; (try dsimp only at hSw); go_simp; (try (with_reducible rfl))))) | (refine wpAnyH_take (i := 29) (oi := ?o144) (v := undef) ?i144 (by kernel_rfl) (by kernel_rfl) (by kernel_rfl) ?q144 ?y144 (by assumption) ?r144; (case i144 => (simp only [List.getElem?_toArray, List.getElem?_cons_succ, List.getElem?_cons_zero]; rfl)); (case q144 => exact fun _ _ _ h => h); (case y144 => exact Or.inr ⟨by rfl, rfl⟩))
            try simp only [Act.put, List.setIfInBounds_toArray, List.set_cons_zero, List.set_cons_succ]
            first | (refine wpAnyH_take (i := 30) (oi := ?o145) (v := ?v145) ?i145 (by kernel_rfl) (by kernel_rfl) (by kernel_rfl) ?q145 ?y145 (by assumption) ?r145; (case i145 => (simp only [List.getElem?_toArray, List.getElem?_cons_succ, List.getElem?_cons_zero]; rfl)); (case q145 => exact fun _ _ _ h => h); (case y145 => (refine Or.inl ⟨by rfl, ?_⟩; intro w hSw; (try dsimp only at hSw); go_simp; (try (with_reducible rfl))))) | (refine wpAnyH_take (i := 30) (oi := ?o146) (v := undef) ?i146 (by kernel_rfl) (by kernel_rfl) (by kernel_rfl) ?q146 ?y146 (by assumption) ?r146; (case i146 => (simp only [List.getElem?_toArray, List.getElem?_cons_succ, List.getElem?_cons_zero]; rfl)); (case q146 => exact fun _ _ _ h => h); (case y146 => exact Or.inr ⟨by rfl, rfl⟩))
            try simp only [Act.put, List.setIfInBounds_toArray, List.set_cons_zero, List.set_cons_succ]
            first | (refine wpAnyH_take (i := 31) (oi := ?o147) (v := ?v147) ?i147 (by kernel_rfl) (by kernel_rfl) (by kernel_rfl) ?q147 ?y147 (by assumption) ?r147; (case i147 => (simp only [List.getElem?_toArray, List.getElem?_cons_succ, List.getElem?_cons_zero]; rfl)); (case q147 => exact fun _ _ _ h => h); (case y147 => (refine Or.inl ⟨by rfl, ?_⟩; intro w hSw; (try dsimp only at hSw); go_simp; (try (with_reducible rfl))))) | (refine wpAnyH_take (i := 31) (oi := ?o148) (v := undef) ?i148 (by kernel_rfl) (by kernel_rfl) (by kernel_rfl) ?q148 ?y148 (by assumption) ?r148; (case i148 => (simp only [List.getElem?_toArray, List.getElem?_cons_succ, List.getElem?_cons_zero]; rfl)); (case q148 => exact fun _ _ _ h => h); (case y148 => exact Or.inr ⟨by rfl, rfl⟩))
            try simp only [Act.put, List.setIfInBounds_toArray, List.set_cons_zero, List.set_cons_succ]
            first | (refine wpAnyH_take (i := 32) (oi := ?o149) (v := ?v149) ?i149 (by kernel_rfl) (by kernel_rfl) (by kernel_rfl) ?q149 ?y149 (by assumption) ?r149; (case i149 => (simp only [List.getElem?_toArray, List.getElem?_cons_succ, List.getElem?_cons_zero]; rfl)); (case q149 => exact fun _ _ _ h => h); (case y149 => (refine Or.inl ⟨by rfl, ?_⟩; intro w hSw; (try dsimp only at hSw); go_simp; (try (with_reducible rfl))))) | (refine wpAnyH_take (i := 32) (oi := ?o150) (v := undef) ?i150 (by kernel_rfl) (by kernel_rfl) (by kernel_rfl) ?q150 ?y150 (by assumption) ?r150; (case i150 => (simp only [List.getElem?_toArray, List.getElem?_cons_succ, List.getElem?_cons_zero]; rfl)); (case q150 => exact fun _ _ _ h => h); (case y150 => exact Or.inr ⟨by rfl, rfl⟩))
            try simp only [Act.put, List.setIfInBounds_toArray, List.set_cons_zero, List.set_cons_succ]
            first | (refine wpAnyH_take (i := 33) (oi := ?o151) (v := ?v151) ?i151 (by kernel_rfl) (by kernel_rfl) (by kernel_rfl) ?q151 ?y151 (by assumption) ?r151; (case i151 => (simp only [List.getElem?_toArray, List.getElem?_cons_succ, List.getElem?_cons_zero]; rfl)); (case q151 => exact fun _ _ _ h => h); (case y151 => (refine Or.inl ⟨by rfl, ?_⟩; intro w hSw; (try dsimp only at hSw); go_simp; (try (with_reducible rfl))))) | (refine wpAnyH_take (i := 33) (oi := ?o152) (v := undef) ?i152 (by kernel_rfl) (by kernel_rfl) (by kernel_rfl) ?q152 ?y152 (by assumption) ?r152; (case i152 => (simp only [List.getElem?_toArray, List.getElem?_cons_succ, List.getElem?_cons_zero]; rfl)); (case q152 => exact fun _ _ _ h => h); (case y152 => exact Or.inr ⟨by rfl, rfl⟩))
            try simp only [Act.put, List.setIfInBounds_toArray, List.set_cons_zero, List.set_cons_succ]
            first | (refine wpAnyH_take (i := 34) (oi := ?o153) (v := ?v153) ?i153 (by kernel_rfl) (by kernel_rfl) (by kernel_rfl) ?q153 ?y153 (by assumption) ?r153; (case i153 => (simp only [List.getElem?_toArray, List.getElem?_cons_succ, List.getElem?_cons_zero]; rfl)); (case q153 => exact fun _ _ _ h => h); (case y153 => (refine Or.inl ⟨by rfl, ?_⟩; intro w hSw; (try dsimp only at hSw); go_simp; (try (with_reducible rfl))))) | (refine wpAnyH_take (i := 34) (oi := ?o154) (v := undef) ?i154 (by kernel_rfl) (by kernel_rfl) (by kernel_rfl) ?q154 ?y154 (by assumption) ?r154; (case i154 => (simp only [List.getElem?_toArray, List.getElem?_cons_succ, List.getElem?_cons_zero]; rfl)); (case q154 => exact fun _ _ _ h => h); (case y154 => exact Or.inr ⟨by rfl, rfl⟩))
            try simp only [Act.put, List.setIfInBounds_toArray, List.set_cons_zero, List.set_cons_succ]
            first | (refine wpAnyH_take (i := 35) (oi := ?o155) (v := ?v155) ?i155 (by kernel_rfl) (by kernel_rfl) (by kernel_rfl) ?q155 ?y155 (by assumption) ?r155; (case i155 => (simp only [List.getElem?_toArray, List.getElem?_cons_succ, List.getElem?_cons_zero]; rfl)); (case q155 => exact fun _ _ _ h => h); (case y155 => (refine Or.inl ⟨by rfl, ?_⟩; intro w hSw; (try dsimp only at hSw); go_simp; (try (with_reducible rfl))))) | (refine wpAnyH_take (i := 35) (oi := ?o156) (v := undef) ?i156 (by kernel_rfl) (by kernel_rfl) (by kernel_rfl) ?q156 ?y156 (by assumption) ?r156; (case i156 => (simp only [List.getElem?_toArray, List.getElem?_cons_succ, List.getElem?_cons_zero]; rfl)); (case q156 => exact fun _ _ _ h => h); (case y156 => exact Or.inr ⟨by rfl, rfl⟩))
            try simp only [Act.put, List.setIfInBounds_toArray, List.set_cons_zero, List.set_cons_succ]
            first | (refine wpAnyH_take (i := 36) (oi := ?o157) (v := ?v157) ?i157 (by kernel_rfl) (by kernel_rfl) (by kernel_rfl) ?q157 ?y157 (by assumption) ?r157; (case i157 => (simp only [List.getElem?_toArray, List.getElem?_cons_succ, List.getElem?_cons_zero]; rfl)); (case q157 => exact fun _ _ _ h => h); (case y157 => (refine Or.inl ⟨by rfl, ?_⟩; intro w hSw; (try dsimp only at hSw); go_simp; (try (with_reducible rfl))))) | (refine wpAnyH_take (i := 36) (oi := ?o158) (v := undef) ?i158 (by kernel_rfl) (by kernel_rfl) (by kernel_rfl) ?q158 ?y158 (by assumption) ?r158; (case i158 => (simp only [List.getElem?_toArray, List.getElem?_cons_succ, List.getElem?_cons_zero]; rfl)); (case q158 => exact fun _ _ _ h => h); (case y158 => exact Or.inr ⟨by rfl, rfl⟩))
            try simp only [Act.put, List.setIfInBounds_toArray, List.set_cons_zero, List.set_cons_succ]
            first | (refine wpAnyH_take (i := 37) (oi := ?o159) (v := ?v159) ?i159 (by kernel_rfl) (by kernel_rfl) (by kernel_rfl) ?q159 ?y159 (by assumption) ?r159; (case i159 => (simp only [List.getElem?_toArray, List.getElem?_cons_succ, List.getElem?_cons_zero]; rfl)); (case q159 => exact fun _ _ _ h => h); (case y159 => (refine Or.inl ⟨by rfl, ?_⟩; intro w hSw; (try dsimp only at hSw); go_simp; (try (with_reducible rfl))))) | (refine wpAnyH_take (i := 37) (oi := ?o160) (v := undef) ?i160 (by kernel_rfl) (by kernel_rfl) (by kernel_rfl) ?q160 ?y160 (by assumption) ?r160; (case i160 => (simp only [List.getElem?_toArray, List.getElem?_cons_succ, List.getElem?_cons_zero]; rfl)); (case q160 => exact fun _ _ _ h => h); (case y160 => exact Or.inr ⟨by rfl, rfl⟩))
            try simp only [Act.put, List.setIfInBounds_toArray, List.set_cons_zero, List.set_cons_succ]
            first | (refine wpAnyH_take (i := 38) (oi := ?o161) (v := ?v161) ?i161 (by kernel_rfl) (by kernel_rfl) (by kernel_rfl) ?q161 ?y161 (by assumption) ?r161; (case i161 => (simp only [List.getElem?_toArray, List.getElem?_cons_succ, List.getElem?_cons_zero]; rfl)); (case q161 => exact fun _ _ _ h => h); (case y161 => (refine Or.inl ⟨by rfl, ?_⟩; intro w hSw; (try dsimp only at hSw); go_simp; (try (with_reducible rfl))))) | (refine wpAnyH_take (i := 38) (oi := ?o162) (v := undef) ?i162 (by kernel_rfl) (by kernel_rfl) (by kernel_rfl) ?q162 ?y162 (by assumption) ?r162; (case i162 => (simp only [List.getElem?_toArray, List.getElem?_cons_succ, List.getElem?_cons_zero]; rfl)); (case q162 => exact fun _ _ _ h => h); (case y162 => exact Or.inr ⟨by rfl, rfl⟩))
            try simp only [Act.put, List.setIfInBounds_toArray, List.set_cons_zero, List.set_cons_succ]
            first | (refine wpAnyH_take (i := 39) (oi := ?o163) (v := ?v163) ?i163 (by kernel_rfl) (by kernel_rfl) (by kernel_rfl) ?q163 ?y163 (by assumption) ?r163; (case i163 => (simp only [List.getElem?_toArray, List.getElem?_cons_succ, List.getElem?_cons_zero]; rfl)); (case q163 => exact fun _ _ _ h => h); (case y163 => (refine Or.inl ⟨by rfl, ?_⟩; intro w hSw; (try dsimp only at hSw); go_simp; (try (with_reducible rfl))))) | (refine wpAnyH_take (i := 39) (oi := ?o164) (v := undef) ?i164 (by kernel_rfl) (by kernel_rfl) (by kernel_rfl) ?q164 ?y164 (by assumption) ?r164; (case i164 => (simp only [List.getElem?_toArray, List.getElem?_cons_succ, List.getElem?_cons_zero]; rfl)); (case q164 => exact fun _ _ _ h => h); (case y164 => exact Or.inr ⟨by rfl, rfl⟩))
            try simp only [Act.put, List.setIfInBounds_toArray, List.set_cons_zero, List.set_cons_succ]
            first | (refine wpAnyH_take (i := 40) (oi := ?o165) (v := ?v165) ?i165 (by kernel_rfl) (by kernel_rfl) (by kernel_rfl) ?q165 ?y165 (by assumption) ?r165; (case i165 => (simp only [List.getElem?_toArray, List.getElem?_cons_succ, List.getElem?_cons_zero]; rfl)); (case q165 => exact fun _ _ _ h => h); (case y165 => (refine Or.inl ⟨by rfl, ?_⟩; intro w hSw; (try dsimp only at hSw); go_simp; (try (with_reducible rfl))))) | (refine wpAnyH_take (i := 40) (oi := ?o166) (v := undef) ?i166 (by kernel_rfl) (by kernel_rfl) (by kernel_rfl) ?q166 ?y166 (by assumption) ?r166; (case i166 => (simp only [List.getElem?_toArray, List.getElem?_cons_succ, List.getElem?_cons_zero]; rfl)); (case q166 => exact fun _ _ _ h => h); (case y166 => exact Or.inr ⟨by rfl, rfl⟩))
            try simp only [Act.put, List.setIfInBounds_toArray, List.set_cons_zero, List.set_cons_succ]
            first | (refine wpAnyH_take (i := 41) (oi := ?o167) (v := ?v167) ?i167 (by kernel_rfl) (by kernel_rfl) (by kernel_rfl) ?q167 ?y167 (by assumption) ?r167; (case i167 => (simp only [List.getElem?_toArray, List.getElem?_cons_succ, List.getElem?_cons_zero]; rfl)); (case q167 => exact fun _ _ _ h => h); (case y167 => (refine Or.inl ⟨by rfl, ?_⟩; intro w hSw; (try dsimp only at hSw); go_simp; (try (with_reducible rfl))))) | (refine wpAnyH_take (i := 41) (oi := ?o168) (v := undef) ?i168 (by kernel_rfl) (by kernel_rfl) (by kernel_rfl) ?q168 ?y168 (by assumption) ?r168; (case i168 => (simp only [List.getElem?_toArray, List.getElem?_cons_succ, List.getElem?_cons_zero]; rfl)); (case q168 => exact fun _ _ _ h => h); (case y168 => exact Or.inr ⟨by rfl, rfl⟩))
            try simp only [Act.put, List.setIfInBounds_toArray, List.set_cons_zero, List.set_cons_succ]
            first | (refine wpAnyH_take (i := 42) (oi := ?o169) (v := ?v169) ?i169 (by kernel_rfl) (by kernel_rfl) (by kernel_rfl) ?q169 ?y169 (by assumption) ?r169; (case i169 => (simp only [List.getElem?_toArray, List.getElem?_cons_succ, List.getElem?_cons_zero]; rfl)); (case q169 => exact fun _ _ _ h => h); (case y169 => (refine Or.inl ⟨by rfl, ?_⟩; intro w hSw; (try dsimp only at hSw); go_simp; (try (with_reducible rfl))))) | (refine wpAnyH_take (i := 42) (oi := ?o170) (v := undef) ?i170 (by kernel_rfl) (by kernel_rfl) (by kernel_rfl) ?q170 ?y170 (by assumption) ?r170; (case i170 => (simp only [List.getElem?_toArray, List.getElem?_cons_succ, List.getElem?_cons_zero]; rfl)); (case q170 => exact fun _ _ _ h => h); (case y170 => exact Or.inr ⟨by rfl, rfl⟩))
            try simp only [Act.put, List.setIfInBounds_toArray, List.set_cons_zero, List.set_cons_succ]
            first | (refine wpAnyH_take (i := 43) (oi := ?o171) (v := ?v171) ?i171 (by kernel_rfl) (by kernel_rfl) (by kernel_rfl) ?q171 ?y171 (by assumption) ?r171; (case i171 => (simp only [List.getElem?_toArray, List.getElem?_cons_succ, List.getElem?_cons_zero]; rfl)); (case q171 => exact fun _ _ _ h => h); (case y171 => (refine Or.inl ⟨by rfl, ?_⟩; intro w hSw; (try dsimp only at hSw); go_simp; (try (with_reducible rfl))))) | (refine wpAnyH_take (i := 43) (oi := ?o172) (v := undef) ?i172 (by kernel_rfl) (by kernel_rfl) (by kernel_rfl) ?q172 ?y172 (by assumption) ?r172; (case i172 => (simp only [List.getElem?_toArray, List.getElem?_cons_succ, List.getElem?_cons_zero]; rfl)); (case q172 => exact fun _ _ _ h => h); (case y172 => exact Or.inr ⟨by rfl, rfl⟩))
            try simp only [Act.put, List.setIfInBounds_toArray, List.set_cons_zero, List.set_cons_succ]
            refine wpAnyH_done (by kernel_rfl) ?_ _
            clear s1 s2 s3
            go_wp2
            exact ⟨⟨j + 2, by omega, by go_num, VB.out.trans (HB1.out.mono VB.out.size)⟩, by simp [intOf]; omega⟩
          · have hle : b0 = a0 ∧ b1 < a1 := by
              rcases hlex with h | h
              · exact absurd h hlt2
              · exact h
            obtain ⟨rfl, hlt3⟩ := hle
            have g3 : decide (a1 ≤ b1) = false := by simp; omega
            clear hr1 hc1 hc3 hV y0 yb vb hF hfind ha hbox hFu hb0 hlex hlt2 hlt3
            go_wp2_with fail
            rw [← HV.out]
            refine wp_region_held_drew (S := (fun w' => w'.cell? ⟨wr.heap.size, 0, none⟩ = some (.int .i64 b0) ∧ w'.cell? ⟨wr.heap.size, 1, none⟩ = some (.int .i64 a1) ∧ w'.cell? ⟨g, j * 2, none⟩ = some (.int .i64 b0) ∧ w'.cell? ⟨g, j * 2 + 1, none⟩ = some (.int .i64 b1))) (by kernel_rfl) ?_ (fun hHeld => ?_)
            · first | exact HBOX3.out _ HB1.out | exact HBOX3.out _ ((Below.refl _ V).drew)
            first | (refine wpAnyH_take (i := 0) (oi := ?o173) (v := ?v173) ?i173 (by kernel_rfl) (by kernel_rfl) (by kernel_rfl) ?q173 ?y173 (by assumption) ?r173; (case i173 => (simp only [List.getElem?_toArray, List.getElem?_cons_succ, List.getElem?_cons_zero]; rfl)); (case q173 => exact fun _ _ _ h => h); (case y173 => (refine Or.inl ⟨by rfl, ?_⟩; intro w hSw; (try dsimp only at hSw); go_simp; (try (with_reducible rfl))))) | (refine wpAnyH_take (i := 0) (oi := ?o174) (v := undef) ?i174 (by kernel_rfl) (by kernel_rfl) (by kernel_rfl) ?q174 ?y174 (by assumption) ?r174; (case i174 => (simp only [List.getElem?_toArray, List.getElem?_cons_succ, List.getElem?_cons_zero]; rfl)); (case q174 => exact fun _ _ _ h => h); (case y174 => exact Or.inr ⟨by rfl, rfl⟩))
            try simp only [Act.put, List.setIfInBounds_toArray, List.set_cons_zero, List.set_cons_succ]
            first | (refine wpAnyH_take (i := 1) (oi := ?o175) (v := ?v175) ?i175 (by kernel_rfl) (by kernel_rfl) (by kernel_rfl) ?q175 ?y175 (by assumption) ?r175; (case i175 => (simp only [List.getElem?_toArray, List.getElem?_cons_succ, List.getElem?_cons_zero]; rfl)); (case q175 => exact fun _ _ _ h => h); (case y175 => (refine Or.inl ⟨by rfl, ?_⟩; intro w hSw; (try dsimp only at hSw); go_simp; (try (with_reducible rfl))))) | (refine wpAnyH_take (i := 1) (oi := ?o176) (v := undef) ?i176 (by kernel_rfl) (by kernel_rfl) (by kernel_rfl) ?q176 ?y176 (by assumption) ?r176; (case i176 => (simp only [List.getElem?_toArray, List.getElem?_cons_succ, List.getElem?_cons_zero]; rfl)); (case q176 => exact fun _ _ _ h => h); (case y176 => exact Or.inr ⟨by rfl, rfl⟩))
            try simp only [Act.put, List.setIfInBounds_toArray, List.set_cons_zero, List.set_cons_succ]
            first | (refine wpAnyH_take (i := 2) (oi := ?o177) (v := ?v177) ?i177 (by kernel_rfl) (by kernel_rfl) (by kernel_rfl) ?q177 ?y177 (by assumption) ?r177; (case i177 => (simp only [List.getElem?_toArray, List.getElem?_cons_succ, List.getElem?_cons_zero]; rfl)); (case q177 => exact fun _ _ _ h => h); (case y177 => (refine Or.inl ⟨by rfl, ?_⟩; intro w hSw; (try dsimp only at hSw); go_simp; (try (with_reducible rfl))))) | (refine wpAnyH_take (i := 2) (oi := ?o178) (v := undef) ?i178 (by kernel_rfl) (by kernel_rfl) (by kernel_rfl) ?q178 ?y178 (by assumption) ?r178; (case i178 => (simp only [List.getElem?_toArray, List.getElem?_cons_succ, List.getElem?_cons_zero]; rfl)); (case q178 => exact fun _ _ _ h => h); (case y178 => exact Or.inr ⟨by rfl, rfl⟩))
            try simp only [Act.put, List.setIfInBounds_toArray, List.set_cons_zero, List.set_cons_succ]
            first | (refine wpAnyH_take (i := 3) (oi := ?o179) (v := ?v179) ?i179 (by kernel_rfl) (by kernel_rfl) (by kernel_rfl) ?q179 ?y179 (by assumption) ?r179; (case i179 => (simp only [List.getElem?_toArray, List.getElem?_cons_succ, List.getElem?_cons_zero]; rfl)); (case q179 => exact fun _ _ _ h => h); (case y179 => (refine Or.inl ⟨by rfl, ?_⟩; intro w hSw; (try dsimp only at hSw); go_simp; (try (with_reducible rfl))))) | (refine wpAnyH_take (i := 3) (oi := ?o180) (v := undef) ?i180 (by kernel_rfl) (by kernel_rfl) (by kernel_rfl) ?q180 ?y180 (by assumption) ?r180; (case i180 => (simp only [List.getElem?_toArray, List.getElem?_cons_succ, List.getElem?_cons_zero]; rfl)); (case q180 => exact fun _ _ _ h => h); (case y180 => exact Or.inr ⟨by rfl, rfl⟩))
            try simp only [Act.put, List.setIfInBounds_toArray, List.set_cons_zero, List.set_cons_succ]
            first | (refine wpAnyH_take (i := 4) (oi := ?o181) (v := ?v181) ?i181 (by kernel_rfl) (by kernel_rfl) (by kernel_rfl) ?q181 ?y181 (by assumption) ?r181; (case i181 => (simp only [List.getElem?_toArray, List.getElem?_cons_succ, List.getElem?_cons_zero]; rfl)); (case q181 => exact fun _ _ _ h => h); (case y181 => (refine Or.inl ⟨by rfl, ?_⟩; intro w hSw; (try dsimp only at hSw); go_simp; (try (with_reducible rfl))))) | (refine wpAnyH_take (i := 4) (oi := ?o182) (v := undef) ?i182 (by kernel_rfl) (by kernel_rfl) (by kernel_rfl) ?q182 ?y182 (by assumption) ?r182; (case i182 => (simp only [List.getElem?_toArray, List.getElem?_cons_succ, List.getElem?_cons_zero]; rfl)); (case q182 => exact fun _ _ _ h => h); (case y182 => exact Or.inr ⟨by rfl, rfl⟩))
            try simp only [Act.put, List.setIfInBounds_toArray, List.set_cons_zero, List.set_cons_succ]
            refine wpAnyH_ready (rs := [5]) (by kernel_rfl) (by simp) ?_
            refine AllReadyH.cons (by (simp only [List.getElem?_toArray, List.getElem?_cons_succ, List.getElem?_cons_zero]; rfl)) (fun K hK => ?_) AllReadyH.nil
            go_simp
            (go_at_call 48; (with_reducible refine HFIND.out.mono ?_); rintro e w1 ⟨rfl, hb⟩; have HB1 := Aside0.mk (undrew hb); clear hb)
            (try dsimp only)
            refine hK.out _ _ ?_ (fun hHeld => ?_)
            · first | exact HBOX3.out _ HB1.out | exact HBOX3.out _ ((Below.refl _ V).drew)
            clear hK K
            try simp only [Act.put, List.setIfInBounds_toArray, List.set_cons_zero, List.set_cons_succ]
            first | (refine wpAnyH_take (i := 6) (oi := ?o183) (v := ?v183) ?i183 (by kernel_rfl) (by kernel_rfl) (by kernel_rfl) ?q183 ?y183 (by assumption) ?r183; (case i183 => (simp only [List.getElem?_toArray, List.getElem?_cons_succ, List.getElem?_cons_zero]; rfl)); (case q183 => exact fun _ _ _ h => h); (case y183 => (refine Or.inl ⟨by rfl, ?_⟩; intro w hSw; (try dsimp only at hSw); go_simp; (try (with_reducible rfl))))) | (refine wpAnyH_take (i := 6) (oi := ?o184) (v := undef) ?i184 (by kernel_rfl) (by kernel_rfl) (by kernel_rfl) ?q184 ?y184 (by assumption) ?r184; (case i184 => (simp only [List.getElem?_toArray, List.getElem?_cons_succ, List.getElem?_cons_zero]; rfl)); (case q184 => exact fun _ _ _ h => h); (case y184 => exact Or.inr ⟨by rfl, rfl⟩))
            try simp only [Act.put, List.setIfInBounds_toArray, List.set_cons_zero, List.set_cons_succ]
            first | (refine wpAnyH_take (i := 7) (oi := ?o185) (v := ?v185) ?i185 (by kernel_rfl) (by kernel_rfl) (by kernel_rfl) ?q185 ?y185 (by assumption) ?r185; (case i185 => (simp only [List.getElem?_toArray, List.getElem?_cons_succ, List.getElem?_cons_zero]; rfl)); (case q185 => exact fun _ _ _ h => h); (case y185 => (refine Or.inl ⟨by rfl, ?_⟩; intro w hSw; (try dsimp only at hSw); go_simp; (try (with_reducible rfl))))) | (refine wpAnyH_take (i := 7) (oi := ?o186) (v := undef) ?i186 (by kernel_rfl) (by kernel_rfl) (by kernel_rfl) ?q186 ?y186 (by assumption) ?r186; (case i186 => (simp only [List.getElem?_toArray, List.getElem?_cons_succ, List.getElem?_cons_zero]; rfl)); (case q186 => exact fun _ _ _ h => h); (case y186 => exact Or.inr ⟨by rfl, rfl⟩))
            try simp only [Act.put, List.setIfInBounds_toArray, List.set_cons_zero, List.set_cons_succ]
            first | (refine wpAnyH_take (i := 8) (oi := ?o187) (v := ?v187) ?i187 (by kernel_rfl) (by kernel_rfl) (by kernel_rfl) ?q187 ?y187 (by assumption) ?r187; (case i187 => (simp only [List.getElem?_toArray, List.getElem?_cons_succ, List.getElem?_cons_zero]; rfl)); (case q187 => exact fun _ _ _ h => h); (case y187 => (refine Or.inl ⟨by rfl, ?_⟩; intro w hSw; (try dsimp only at hSw); go_simp; (try (with_reducible rfl))))) | (refine wpAnyH_take (i := 8) (oi := ?o188) (v := undef) ?i188 (by kernel_rfl) (by kernel_rfl) (by kernel_rfl) ?q188 ?y188 (by assumption) ?r188; (case i188 => (simp only [List.getElem?_toArray, List.getElem?_cons_succ, List.getElem?_cons_zero]; rfl)); (case q188 => exact fun _ _ _ h => h); (case y188 => exact Or.inr ⟨by rfl, rfl⟩))
            try simp only [Act.put, List.setIfInBounds_toArray, List.set_cons_zero, List.set_cons_succ]
            first | (refine wpAnyH_take (i := 9) (oi := ?o189) (v := ?v189) ?i189 (by kernel_rfl) (by kernel_rfl) (by kernel_rfl) ?q189 ?y189 (by assumption) ?r189; (case i189 => (simp only [List.getElem?_toArray, List.getElem?_cons_succ, List.getElem?_cons_zero]; rfl)); (case q189 => exact fun _ _ _ h => h); (case y189 => (refine Or.inl ⟨by rfl, ?_⟩; intro w hSw; (try dsimp only at hSw); go_simp; (try (with_reducible rfl))))) | (refine wpAnyH_take (i := 9) (oi := ?o190) (v := undef) ?i190 (by kernel_rfl) (by kernel_rfl) (by kernel_rfl) ?q190 ?y190 (by assumption) ?r190; (case i190 => (simp only [List.getElem?_toArray, List.getElem?_cons_succ, List.getElem?_cons_zero]; rfl)); (case q190 => exact fun _ _ _ h => h); (case y190 => exact Or.inr ⟨by rfl, rfl⟩))
            try simp only [Act.put, List.setIfInBounds_toArray, List.set_cons_zero, List.set_cons_succ]
            first | (refine wpAnyH_take (i := 10) (oi := ?o191) (v := ?v191) ?i191 (by kernel_rfl) (by kernel_rfl) (by kernel_rfl) ?q191 ?y191 (by assumption) ?r191; (case i191 => (simp only [List.getElem?_toArray, List.getElem?_cons_succ, List.getElem?_cons_zero]; rfl)); (case q191 => exact fun _ _ _ h => h); (case y191 => (refine Or.inl ⟨by rfl, ?_⟩; intro w hSw; (try dsimp only at hSw); go_simp; (try (with_reducible rfl))))) | (refine wpAnyH_take (i := 10) (oi := ?o192) (v := undef) ?i192 (by kernel_rfl) (by kernel_rfl) (by kernel_rfl) ?q192 ?y192 (by assumption) ?r192; (case i192 => (simp only [List.getElem?_toArray, List.getElem?_cons_succ, List.getElem?_cons_zero]; rfl)); (case q192 => exact fun _ _ _ h => h); (case y192 => exact Or.inr ⟨by rfl, rfl⟩))
            try simp only [Act.put, List.setIfInBounds_toArray, List.set_cons_zero, List.set_cons_succ]
            first | (refine wpAnyH_take (i := 11) (oi := ?o193) (v := ?v193) ?i193 (by kernel_rfl) (by kernel_rfl) (by kernel_rfl) ?q193 ?y193 (by assumption) ?r193; (case i193 => (simp only [List.getElem?_toArray, List.getElem?_cons_succ, List.getElem?_cons_zero]; rfl)); (case q193 => exact fun _ _ _ h => h); (case y193 => (refine Or.inl ⟨by rfl, ?_⟩; intro w hSw; (try dsimp only at hSw); go_simp; (try (with_reducible rfl))))) | (refine wpAnyH_take (i := 11) (oi := ?o194) (v := undef) ?i194 (by kernel_rfl) (by kernel_rfl) (by kernel_rfl) ?q194 ?y194 (by assumption) ?r194; (case i194 => (simp only [List.getElem?_toArray, List.getElem?_cons_succ, List.getElem?_cons_zero]; rfl)); (case q194 => exact fun _ _ _ h => h); (case y194 => exact Or.inr ⟨by rfl, rfl⟩))
            try simp only [Act.put, List.setIfInBounds_toArray, List.set_cons_zero, List.set_cons_succ]
            first | (refine wpAnyH_take (i := 12) (oi := ?o195) (v := ?v195) ?i195 (by kernel_rfl) (by kernel_rfl) (by kernel_rfl) ?q195 ?y195 (by assumption) ?r195; (case i195 => (simp only [List.getElem?_toArray, List.getElem?_cons_succ, List.getElem?_cons_zero]; rfl)); (case q195 => exact fun _ _ _ h => h); (case y195 => (refine Or.inl ⟨by rfl, ?_⟩; intro w hSw; (try dsimp only at hSw); go_simp; (try (with_reducible rfl))))) | (refine wpAnyH_take (i := 12) (oi := ?o196) (v := undef) ?i196 (by kernel_rfl) (by kernel_rfl) (by kernel_rfl) ?q196 ?y196 (by assumption) ?r196; (case i196 => (simp only [List.getElem?_toArray, List.getElem?_cons_succ, List.getElem?_cons_zero]; rfl)); (case q196 => exact fun _ _ _ h => h); (case y196 => exact Or.inr ⟨by rfl, rfl⟩))
            try simp only [Act.put, List.setIfInBounds_toArray, List.set_cons_zero, List.set_cons_succ]
            first | (refine wpAnyH_take (i := 13) (oi := ?o197) (v := ?v197) ?i197 (by kernel_rfl) (by kernel_rfl) (by kernel_rfl) ?q197 ?y197 (by assumption) ?r197; (case i197 => (simp only [List.getElem?_toArray, List.getElem?_cons_succ, List.getElem?_cons_zero]; rfl)); (case q197 => exact fun _ _ _ h => h); (case y197 => (refine Or.inl ⟨by rfl, ?_⟩; intro w hSw; (try dsimp only at hSw); go_simp; (try (with_reducible rfl))))) | (refine wpAnyH_take (i := 13) (oi := ?o198) (v := undef) ?i198 (by kernel_rfl) (by kernel_rfl) (by kernel_rfl) ?q198 ?y198 (by assumption) ?r198; (case i198 => (simp only [List.getElem?_toArray, List.getElem?_cons_succ, List.getElem?_cons_zero]; rfl)); (case q198 => exact fun _ _ _ h => h); (case y198 => exact Or.inr ⟨by rfl, rfl⟩))
            try simp only [Act.put, List.setIfInBounds_toArray, List.set_cons_zero, List.set_cons_succ]
            first | (refine wpAnyH_take (i := 14) (oi := ?o199) (v := ?v199) ?i199 (by kernel_rfl) (by kernel_rfl) (by kernel_rfl) ?q199 ?y199 (by assumption) ?r199; (case i199 => (simp only [List.getElem?_toArray, List.getElem?_cons_succ, List.getElem?_cons_zero]; rfl)); (case q199 => exact fun _ _ _ h => h); (case y199 => (refine Or.inl ⟨by rfl, ?_⟩; intro w hSw; (try dsimp only at hSw); go_simp; (try (with_reducible rfl))))) | (refine wpAnyH_take (i := 14) (oi := ?o200) (v := undef) ?i200 (by kernel_rfl) (by kernel_rfl) (by kernel_rfl) ?q200 ?y200 (by assumption) ?r200; (case i200 => (simp only [List.getElem?_toArray, List.getElem?_cons_succ, List.getElem?_cons_zero]; rfl)); (case q200 => exact fun _ _ _ h => h); (case y200 => exact Or.inr ⟨by rfl, rfl⟩))
            try simp only [Act.put, List.setIfInBounds_toArray, List.set_cons_zero, List.set_cons_succ]
            first | (refine wpAnyH_take (i := 15) (oi := ?o201) (v := ?v201) ?i201 (by kernel_rfl) (by kernel_rfl) (by kernel_rfl) ?q201 ?y201 (by assumption) ?r201; (case i201 => (simp only [List.getElem?_toArray, List.getElem?_cons_succ, List.getElem?_cons_zero]; rfl)); (case q201 => exact fun _ _ _ h => h); (case y201 => (refine Or.inl ⟨by rfl, ?_⟩; intro w hSw; (try dsimp only at hSw); go_simp; (try (with_reducible rfl))))) | (refine wpAnyH_take (i := 15) (oi := ?o202) (v := undef) ?i202 (by kernel_rfl) (by kernel_rfl) (by kernel_rfl) ?q202 ?y202 (by assumption) ?r202; (case i202 => (simp only [List.getElem?_toArray, List.getElem?_cons_succ, List.getElem?_cons_zero]; rfl)); (case q202 => exact fun _ _ _ h => h); (case y202 => exact Or.inr ⟨by rfl, rfl⟩))
            try simp only [Act.put, List.setIfInBounds_toArray, List.set_cons_zero, List.set_cons_succ]
            first | (refine wpAnyH_take (i := 16) (oi := ?o203) (v := ?v203) ?i203 (by kernel_rfl) (by kernel_rfl) (by kernel_rfl) ?q203 ?y203 (by assumption) ?r203; (case i203 => (simp only [List.getElem?_toArray, List.getElem?_cons_succ, List.getElem?_cons_zero]; rfl)); (case q203 => exact fun _ _ _ h => h); (case y203 => (refine Or.inl ⟨by rfl, ?_⟩; intro w hSw; (try dsimp only at hSw); go_simp; (try (with_reducible rfl))))) | (refine wpAnyH_take (i := 16) (oi := ?o204) (v := undef) ?i204 (by kernel_rfl) (by kernel_rfl) (by kernel_rfl) ?q204 ?y204 (by assumption) ?r204; (case i204 => (simp only [List.getElem?_toArray, List.getElem?_cons_succ, List.getElem?_cons_zero]; rfl)); (case q204 => exact fun _ _ _ h => h); (case y204 => exact Or.inr ⟨by rfl, rfl⟩))
            try simp only [Act.put, List.setIfInBounds_toArray, List.set_cons_zero, List.set_cons_succ]
            first | (refine wpAnyH_take (i := 17) (oi := ?o205) (v := ?v205) ?i205 (by kernel_rfl) (by kernel_rfl) (by kernel_rfl) ?q205 ?y205 (by assumption) ?r205; (case i205 => (simp only [List.getElem?_toArray, List.getElem?_cons_succ, List.getElem?_cons_zero]; rfl)); (case q205 => exact fun _ _ _ h => h); (case y205 => (refine Or.inl ⟨by rfl, ?_⟩; intro w hSw; (try dsimp only at hSw); go_simp; (try (with_reducible rfl))))) | (refine wpAnyH_take (i := 17) (oi := ?o206) (v := undef) ?i206 (by kernel_rfl) (by kernel_rfl) (by kernel_rfl) ?q206 ?y206 (by assumption) ?r206; (case i206 => (simp only [List.getElem?_toArray, List.getElem?_cons_succ, List.getElem?_cons_zero]; rfl)); (case q206 => exact fun _ _ _ h => h); (case y206 => exact Or.inr ⟨by rfl, rfl⟩))
            try simp only [Act.put, List.setIfInBounds_toArray, List.set_cons_zero, List.set_cons_succ]
            first | (refine wpAnyH_take (i := 18) (oi := ?o207) (v := ?v207) ?i207 (by kernel_rfl) (by kernel_rfl) (by kernel_rfl) ?q207 ?y207 (by assumption) ?r207; (case i207 => (simp only [List.getElem?_toArray, List.getElem?_cons_succ, List.getElem?_cons_zero]; rfl)); (case q207 => exact fun _ _ _ h => h); (case y207 => (refine Or.inl ⟨by rfl, ?_⟩; intro w hSw; (try dsimp only at hSw); go_simp; (try (with_reducible rfl))))) | (refine wpAnyH_take (i := 18) (oi := ?o208) (v := undef) ?i208 (by kernel_rfl) (by kernel_rfl) (by kernel_rfl) ?q208 ?y208 (by assumption) ?r208; (case i208 => (simp only [List.getElem?_toArray, List.getElem?_cons_succ, List.getElem?_cons_zero]; rfl)); (case q208 => exact fun _ _ _ h => h); (case y208 => exact Or.inr ⟨by rfl, rfl⟩))
            try simp only [Act.put, List.setIfInBounds_toArray, List.set_cons_zero, List.set_cons_succ]
            first | (refine wpAnyH_take (i := 19) (oi := ?o209) (v := ?v209) ?i209 (by kernel_rfl) (by kernel_rfl) (by kernel_rfl) ?q209 ?y209 (by assumption) ?r209; (case i209 => (simp only [List.getElem?_toArray, List.getElem?_cons_succ, List.getElem?_cons_zero]; rfl)); (case q209 => exact fun _ _ _ h => h); (case y209 => (refine Or.inl ⟨by rfl, ?_⟩; intro w hSw; (try dsimp only at hSw); go_simp; (try (with_reducible rfl))))) | (refine wpAnyH_take (i := 19) (oi := ?o210) (v := undef) ?i210 (by kernel_rfl) (by kernel_rfl) (by kernel_rfl) ?q210 ?y210 (by assumption) ?r210; (case i210 => (simp only [List.getElem?_toArray, List.getElem?_cons_succ, List.getElem?_cons_zero]; rfl)); (case q210 => exact fun _ _ _ h => h); (case y210 => exact Or.inr ⟨by rfl, rfl⟩))
            try simp only [Act.put, List.setIfInBounds_toArray, List.set_cons_zero, List.set_cons_succ]
            first | (refine wpAnyH_take (i := 20) (oi := ?o211) (v := ?v211) ?i211 (by kernel_rfl) (by kernel_rfl) (by kernel_rfl) ?q211 ?y211 (by assumption) ?r211; (case i211 => (simp only [List.getElem?_toArray, List.getElem?_cons_succ, List.getElem?_cons_zero]; rfl)); (case q211 => exact fun _ _ _ h => h); (case y211 => (refine Or.inl ⟨by rfl, ?_⟩; intro w hSw; (try dsimp only at hSw); go_simp; (try (with_reducible rfl))))) | (refine wpAnyH_take (i := 20) (oi := ?o212) (v := undef) ?i212 (by kernel_rfl) (by kernel_rfl) (by kernel_rfl) ?q212 ?y212 (by assumption) ?r212; (case i212 => (simp only [List.getElem?_toArray, List.getElem?_cons_succ, List.getElem?_cons_zero]; rfl)); (case q212 => exact fun _ _ _ h => h); (case y212 => exact Or.inr ⟨by rfl, rfl⟩))
            try simp only [Act.put, List.setIfInBounds_toArray, List.set_cons_zero, List.set_cons_succ]
            first | (refine wpAnyH_take (i := 21) (oi := ?o213) (v := ?v213) ?i213 (by kernel_rfl) (by kernel_rfl) (by kernel_rfl) ?q213 ?y213 (by assumption) ?r213; (case i213 => (simp only [List.getElem?_toArray, List.getElem?_cons_succ, List.getElem?_cons_zero]; rfl)); (case q213 => exact fun _ _ _ h => h); (case y213 => (refine Or.inl ⟨by rfl, ?_⟩; intro w hSw; (try dsimp only at hSw); go_simp; (try (with_reducible rfl))))) | (refine wpAnyH_take (i := 21) (oi := ?o214) (v := undef) ?i214 (by kernel_rfl) (by kernel_rfl) (by kernel_rfl) ?q214 ?y214 (by assumption) ?r214; (case i214 => (simp only [List.getElem?_toArray, List.getElem?_cons_succ, List.getElem?_cons_zero]; rfl)); (case q214 => exact fun _ _ _ h => h); (case y214 => exact Or.inr ⟨by rfl, rfl⟩))
            try simp only [Act.put, List.setIfInBounds_toArray, List.set_cons_zero, List.set_cons_succ]
            first | (refine wpAnyH_take (i := 22) (oi := ?o215) (v := ?v215) ?i215 (by kernel_rfl) (by kernel_rfl) (by kernel_rfl) ?q215 ?y215 (by assumption) ?r215; (case i215 => (simp only [List.getElem?_toArray, List.getElem?_cons_succ, List.getElem?_cons_zero]; rfl)); (case q215 => exact fun _ _ _ h => h); (case y215 => (refine Or.inl ⟨by rfl, ?_⟩; intro w hSw; (try dsimp only at hSw); go_simp; (try (with_reducible rfl))))) | (refine wpAnyH_take (i := 22) (oi := ?o216) (v := undef) ?i216 (by kernel_rfl) (by kernel_rfl) (by kernel_rfl) ?q216 ?y216 (by assumption) ?r216; (case i216 => (simp only [List.getElem?_toArray, List.getElem?_cons_succ, List.getElem?_cons_zero]; rfl)); (case q216 => exact fun _ _ _ h => h); (case y216 => exact Or.inr ⟨by rfl, rfl⟩))
            try simp only [Act.put, List.setIfInBounds_toArray, List.set_cons_zero, List.set_cons_succ]
            first | (refine wpAnyH_take (i := 23) (oi := ?o217) (v := ?v217) ?i217 (by kernel_rfl) (by kernel_rfl) (by kernel_rfl) ?q217 ?y217 (by assumption) ?r217; (case i217 => (simp only [List.getElem?_toArray, List.getElem?_cons_succ, List.getElem?_cons_zero]; rfl)); (case q217 => exact fun _ _ _ h => h); (case y217 => (refine Or.inl ⟨by rfl, ?_⟩; intro w hSw; (try dsimp only at hSw); go_simp; (try (with_reducible rfl))))) | (refine wpAnyH_take (i := 23) (oi := ?o218) (v := undef) ?i218 (by kernel_rfl) (by kernel_rfl) (by kernel_rfl) ?q218 ?y218 (by assumption) ?r218; (case i218 => (simp only [List.getElem?_toArray, List.getElem?_cons_succ, List.getElem?_cons_zero]; rfl)); (case q218 => exact fun _ _ _ h => h); (case y218 => exact Or.inr ⟨by rfl, rfl⟩))
            try simp only [Act.put, List.setIfInBounds_toArray, List.set_cons_zero, List.set_cons_succ]
            first | (refine wpAnyH_take (i := 24) (oi := ?o219) (v := ?v219) ?i219 (by kernel_rfl) (by kernel_rfl) (by kernel_rfl) ?q219 ?y219 (by assumption) ?r219; (case i219 => (simp only [List.getElem?_toArray, List.getElem?_cons_succ, List.getElem?_cons_zero]; rfl)); (case q219 => exact fun _ _ _ h => h); (case y219 => (refine Or.inl ⟨by rfl, ?_⟩; intro w hSw; (try dsimp only at hSw); go_simp; (try (with_reducible rfl))))) | (refine wpAnyH_take (i := 24) (oi := ?o220) (v := undef) ?i220 (by kernel_rfl) (by kernel_rfl) (by kernel_rfl) ?q220 ?y220 (by assumption) ?r220; (case i220 => (simp only [List.getElem?_toArray, List.getElem?_cons_succ, List.getElem?_cons_zero]; rfl)); (case q220 => exact fun _ _ _ h => h); (case y220 => exact Or.inr ⟨by rfl, rfl⟩))
            try simp only [Act.put, List.setIfInBounds_toArray, List.set_cons_zero, List.set_cons_succ]
            first | (refine wpAnyH_take (i := 25) (oi := ?o221) (v := ?v221) ?i221 (by kernel_rfl) (by kernel_rfl) (by kernel_rfl) ?q221 ?y221 (by assumption) ?r221; (case i221 => (simp only [List.getElem?_toArray, List.getElem?_cons_succ, List.getElem?_cons_zero]; rfl)); (case q221 => exact fun _ _ _ h => h); (case y221 => (refine Or.inl ⟨by rfl, ?_⟩; intro w hSw; (try dsimp only at hSw); go_simp; (try (with_reducible rfl))))) | (refine wpAnyH_take (i := 25) (oi := ?o222) (v := undef) ?i222 (by kernel_rfl) (by kernel_rfl) (by kernel_rfl) ?q222 ?y222 (by assumption) ?r222; (case i222 => (simp only [List.getElem?_toArray, List.getElem?_cons_succ, List.getElem?_cons_zero]; rfl)); (case q222 => exact fun _ _ _ h => h); (case y222 => exact Or.inr ⟨by rfl, rfl⟩))
            try simp only [Act.put, List.setIfInBounds_toArray, List.set_cons_zero, List.set_cons_succ]
            first | (refine wpAnyH_take (i := 26) (oi := ?o223) (v := ?v223) ?i223 (by kernel_rfl) (by kernel_rfl) (by kernel_rfl) ?q223 ?y223 (by assumption) ?r223; (case i223 => (simp only [List.getElem?_toArray, List.getElem?_cons_succ, List.getElem?_cons_zero]; rfl)); (case q223 => exact fun _ _ _ h => h); (case y223 => (refine Or.inl ⟨by rfl, ?_⟩; intro w hSw; (try dsimp only at hSw); go_simp; (try (with_reducible rfl))))) | (refine wpAnyH_take (i := 26) (oi := ?o224) (v := undef) ?i224 (by kernel_rfl) (by kernel_rfl) (by kernel_rfl) ?q224 ?y224 (by assumption) ?r224; (case i224 => (simp only [List.getElem?_toArray, List.getElem?_cons_succ, List.getElem?_cons_zero]; rfl)); (case q224 => exact fun _ _ _ h => h); (case y224 => exact Or.inr ⟨by rfl, rfl⟩))
            try simp only [Act.put, List.setIfInBounds_toArray, List.set_cons_zero, List.set_cons_succ]
            first | (refine wpAnyH_take (i := 27) (oi := ?o225) (v := ?v225) ?i225 (by kernel_rfl) (by kernel_rfl) (by kernel_rfl) ?q225 ?y225 (by assumption) ?r225; (case i225 => (simp only [List.getElem?_toArray, List.getElem?_cons_succ, List.getElem?_cons_zero]; rfl)); (case q225 => exact fun _ _ _ h => h); (case y225 => (refine Or.inl ⟨by rfl, ?_⟩; intro w hSw; (try dsimp only at hSw); go_simp; (try (with_reducible rfl))))) | (refine wpAnyH_take (i := 27) (oi := ?o226) (v := undef) ?i226 (by kernel_rfl) (by kernel_rfl) (by kernel_rfl) ?q226 ?y226 (by assumption) ?r226; (case i226 => (simp only [List.getElem?_toArray, List.getElem?_cons_succ, List.getElem?_cons_zero]; rfl)); (case q226 => exact fun _ _ _ h => h); (case y226 => exact Or.inr ⟨by rfl, rfl⟩))
            try simp only [Act.put, List.setIfInBounds_toArray, List.set_cons_zero, List.set_cons_succ]
            first | (refine wpAnyH_take (i := 28) (oi := ?o227) (v := ?v227) ?i227 (by kernel_rfl) (by kernel_rfl) (by kernel_rfl) ?q227 ?y227 (by assumption) ?r227; (case i227 => (simp only [List.getElem?_toArray, List.getElem?_cons_succ, List.getElem?_cons_zero]; rfl)); (case q227 => exact fun _ _ _ h => h); (case y227 => (refine Or.inl ⟨by rfl, ?_⟩; intro w hSw; (try dsimp only at hSw); go_simp; (try (with_reducible rfl))))) | (refine wpAnyH_take (i := 28) (oi := ?o228) (v := undef) ?i228 (by kernel_rfl) (by kernel_rfl) (by kernel_rfl) ?q228 ?y228 (by assumption) ?r228; (case i228 => (simp only [List.getElem?_toArray, List.getElem?_cons_succ, List.getElem?_cons_zero]; rfl)); (case q228 => exact fun _ _ _ h => h); (case y228 => exact Or.inr ⟨by rfl, rfl⟩))
            try simp only [Act.put, List.setIfInBounds_toArray, List.set_cons_zero, List.set_cons_succ]
            first | (refine wpAnyH_take (i := 29) (oi := ?o229) (v := ?v229) ?i229 (by kernel_rfl) (by kernel_rfl) (by kernel_rfl) ?q229 ?y229 (by assumption) ?r229; (case i229 => (simp only [List.getElem?_toArray, List.getElem?_cons_succ, List.getElem?_cons_zero]; rfl)); (case q229 => exact fun _ _ _ h => h); (case y229 => (refine Or.inl ⟨by rfl, ?_⟩; intro w hSw; (try dsimp only at hSw); go_simp; (try (with_reducible rfl))))) | (refine wpAnyH_take (i := 29) (oi := ?o230) (v := undef) ?i230 (by kernel_rfl) (by kernel_rfl) (by kernel_rfl) ?q230 ?y230 (by assumption) ?r230; (case i230 => (simp only [List.getElem?_toArray, List.getElem?_cons_succ, List.getElem?_cons_zero]; rfl)); (case q230 => exact fun _ _ _ h => h); (case y230 => exact Or.inr ⟨by rfl, rfl⟩))
            try simp only [Act.put, List.setIfInBounds_toArray, List.set_cons_zero, List.set_cons_succ]
            first | (refine wpAnyH_take (i := 30) (oi := ?o231) (v := ?v231) ?i231 (by kernel_rfl) (by kernel_rfl) (by kernel_rfl) ?q231 ?y231 (by assumption) ?r231; (case i231 => (simp only [List.getElem?_toArray, List.getElem?_cons_succ, List.getElem?_cons_zero]; rfl)); (case q231 => exact fun _ _ _ h => h); (case y231 => (refine Or.inl ⟨by rfl, ?_⟩; intro w hSw; (try dsimp only at hSw); go_simp; (try (with_reducible rfl))))) | (refine wpAnyH_take (i := 30) (oi := ?o232) (v := undef) ?i232 (by kernel_rfl) (by kernel_rfl) (by kernel_rfl) ?q232 ?y232 (by assumption) ?r232; (case i232 => (simp only [List.getElem?_toArray, List.getElem?_cons_succ, List.getElem?_cons_zero]; rfl)); (case q232 => exact fun _ _ _ h => h); (case y232 => exact Or.inr ⟨by rfl, rfl⟩))
            try simp only [Act.put, List.setIfInBounds_toArray, List.set_cons_zero, List.set_cons_succ]
            first | (refine wpAnyH_take (i := 31) (oi := ?o233) (v := ?v233) ?i233 (by kernel_rfl) (by kernel_rfl) (by kernel_rfl) ?q233 ?y233 (by assumption) ?r233; (case i233 => (simp only [List.getElem?_toArray, List.getElem?_cons_succ, List.getElem?_cons_zero]; rfl)); (case q233 => exact fun _ _ _ h => h); (case y233 => (refine Or.inl ⟨by rfl, ?_⟩; intro w hSw; (try dsimp only at hSw); go_simp; (try (with_reducible rfl))))) | (refine wpAnyH_take (i := 31) (oi := ?o234) (v := undef) ?i234 (by kernel_rfl) (by kernel_rfl) (by kernel_rfl) ?q234 ?y234 (by assumption) ?r234; (case i234 => (simp only [List.getElem?_toArray, List.getElem?_cons_succ, List.getElem?_cons_zero]; rfl)); (case q234 => exact fun _ _ _ h => h); (case y234 => exact Or.inr ⟨by rfl, rfl⟩))
            try simp only [Act.put, List.setIfInBounds_toArray, List.set_cons_zero, List.set_cons_succ]
            first | (refine wpAnyH_take (i := 32) (oi := ?o235) (v := ?v235) ?i235 (by kernel_rfl) (by kernel_rfl) (by kernel_rfl) ?q235 ?y235 (by assumption) ?r235; (case i235 => (simp only [List.getElem?_toArray, List.getElem?_cons_succ, List.getElem?_cons_zero]; rfl)); (case q235 => exact fun _ _ _ h => h); (case y235 => (refine Or.inl ⟨by rfl, ?_⟩; intro w hSw; (try dsimp only at hSw); go_simp; (try (with_reducible rfl))))) | (refine wpAnyH_take (i := 32) (oi := ?o236) (v := undef) ?i236 (by kernel_rfl) (by kernel_rfl) (by kernel_rfl) ?q236 ?y236 (by assumption) ?r236; (case i236 => (simp only [List.getElem?_toArray, List.getElem?_cons_succ, List.getElem?_cons_zero]; rfl)); (case q236 => exact fun _ _ _ h => h); (case y236 => exact Or.inr ⟨by rfl, rfl⟩))
            try simp only [Act.put, List.setIfInBounds_toArray, List.set_cons_zero, List.set_cons_succ]
            first | (refine wpAnyH_take (i := 33) (oi := ?o237) (v := ?v237) ?i237 (by kernel_rfl) (by kernel_rfl) (by kernel_rfl) ?q237 ?y237 (by assumption) ?r237; (case i237 => (simp only [List.getElem?_toArray, List.getElem?_cons_succ, List.getElem?_cons_zero]; rfl)); (case q237 => exact fun _ _ _ h => h); (case y237 => (refine Or.inl ⟨by rfl, ?_⟩; intro w hSw; (try dsimp only at hSw); go_simp; (try (with_reducible rfl))))) | (refine wpAnyH_take (i := 33) (oi := ?o238) (v := undef) ?i238 (by kernel_rfl) (by kernel_rfl) (by kernel_rfl) ?q238 ?y238 (by assumption) ?r238; (case i238 => (simp only [List.getElem?_toArray, List.getElem?_cons_succ, List.getElem?_cons_zero]; rfl)); (case q238 => exact fun _ _ _ h => h); (case y238 => exact Or.inr ⟨by rfl, rfl⟩))
            try simp only [Act.put, List.setIfInBounds_toArray, List.set_cons_zero, List.set_cons_succ]
            first | (refine wpAnyH_take (i := 34) (oi := ?o239) (v := ?v239) ?i239 (by kernel_rfl) (by kernel_rfl) (by kernel_rfl) ?q239 ?y239 (by assumption) ?r239; (case i239 => (simp only [List.getElem?_toArray, List.getElem?_cons_succ, List.getElem?_cons_zero]; rfl)); (case q239 => exact fun _ _ _ h => h); (case y239 => (refine Or.inl ⟨by rfl, ?_⟩; intro w hSw; (try dsimp only at hSw); go_simp; (try (with_reducible rfl))))) | (refine wpAnyH_take (i := 34) (oi := ?o240) (v := undef) ?i240 (by kernel_rfl) (by kernel_rfl) (by kernel_rfl) ?q240 ?y240 (by assumption) ?r240; (case i240 => (simp only [List.getElem?_toArray, List.getElem?_cons_succ, List.getElem?_cons_zero]; rfl)); (case q240 => exact fun _ _ _ h => h); (case y240 => exact Or.inr ⟨by rfl, rfl⟩))
            try simp only [Act.put, List.setIfInBounds_toArray, List.set_cons_zero, List.set_cons_succ]
            first | (refine wpAnyH_take (i := 35) (oi := ?o241) (v := ?v241) ?i241 (by kernel_rfl) (by kernel_rfl) (by kernel_rfl) ?q241 ?y241 (by assumption) ?r241; (case i241 => (simp only [List.getElem?_toArray, List.getElem?_cons_succ, List.getElem?_cons_zero]; rfl)); (case q241 => exact fun _ _ _ h => h); (case y241 => (refine Or.inl ⟨by rfl, ?_⟩; intro w hSw; (try dsimp only at hSw); go_simp; (try (with_reducible rfl))))) | (refine wpAnyH_take (i := 35) (oi := ?o242) (v := undef) ?i242 (by kernel_rfl) (by kernel_rfl) (by kernel_rfl) ?q242 ?y242 (by assumption) ?r242; (case i242 => (simp only [List.getElem?_toArray, List.getElem?_cons_succ, List.getElem?_cons_zero]; rfl)); (case q242 => exact fun _ _ _ h => h); (case y242 => exact Or.inr ⟨by rfl, rfl⟩))
            try simp only [Act.put, List.setIfInBounds_toArray, List.set_cons_zero, List.set_cons_succ]
            first | (refine wpAnyH_take (i := 36) (oi := ?o243) (v := ?v243) ?i243 (by kernel_rfl) (by kernel_rfl) (by kernel_rfl) ?q243 ?y243 (by assumption) ?r243; (case i243 => (simp only [List.getElem?_toArray, List.getElem?_cons_succ, List.getElem?_cons_zero]; rfl)); (case q243 => exact fun _ _ _ h => h); (case y243 => (refine Or.inl ⟨by rfl, ?_⟩; intro w hSw; (try dsimp only at hSw); go_simp; (try (with_reducible rfl))))) | (refine wpAnyH_take (i := 36) (oi := ?o244) (v := undef) ?i244 (by kernel_rfl) (by kernel_rfl) (by kernel_rfl) ?q244 ?y244 (by assumption) ?r244; (case i244 => (simp only [List.getElem?_toArray, List.getElem?_cons_succ, List.getElem?_cons_zero]; rfl)); (case q244 => exact fun _ _ _ h => h); (case y244 => exact Or.inr ⟨by rfl, rfl⟩))
            try simp only [Act.put, List.setIfInBounds_toArray, List.set_cons_zero, List.set_cons_succ]
            first | (refine wpAnyH_take (i := 37) (oi := ?o245) (v := ?v245) ?i245 (by kernel_rfl) (by kernel_rfl) (by kernel_rfl) ?q245 ?y245 (by assumption) ?r245; (case i245 => (simp only [List.getElem?_toArray, List.getElem?_cons_succ, List.getElem?_cons_zero]; rfl)); (case q245 => exact fun _ _ _ h => h); (case y245 => (refine Or.inl ⟨by rfl, ?_⟩; intro w hSw; (try dsimp only at hSw); go_simp; (try (with_reducible rfl))))) | (refine wpAnyH_take (i := 37) (oi := ?o246) (v := undef) ?i246 (by kernel_rfl) (by kernel_rfl) (by kernel_rfl) ?q246 ?y246 (by assumption) ?r246; (case i246 => (simp only [List.getElem?_toArray, List.getElem?_cons_succ, List.getElem?_cons_zero]; rfl)); (case q246 => exact fun _ _ _ h => h); (case y246 => exact Or.inr ⟨by rfl, rfl⟩))
            try simp only [Act.put, List.setIfInBounds_toArray, List.set_cons_zero, List.set_cons_succ]
            first | (refine wpAnyH_take (i := 38) (oi := ?o247) (v := ?v247) ?i247 (by kernel_rfl) (by kernel_rfl) (by kernel_rfl) ?q247 ?y247 (by assumption) ?r247; (case i247 => (simp only [List.getElem?_toArray, List.getElem?_cons_succ, List.getElem?_cons_zero]; rfl)); (case q247 => exact fun _ _ _ h => h); (case y247 => (refine Or.inl ⟨by rfl, ?_⟩; intro w hSw; (try dsimp only at hSw); go_simp; (try (with_reducible rfl))))) | (refine wpAnyH_take (i := 38) (oi := ?o248) (v := undef) ?i248 (by kernel_rfl) (by kernel_rfl) (by kernel_rfl) ?q248 ?y248 (by assumption) ?r248; (case i248 => (simp only [List.getElem?_toArray, List.getElem?_cons_succ, List.getElem?_cons_zero]; rfl)); (case q248 => exact fun _ _ _ h => h); (case y248 => exact Or.inr ⟨by rfl, rfl⟩))
            try simp only [Act.put, List.setIfInBounds_toArray, List.set_cons_zero, List.set_cons_succ]
            first | (refine wpAnyH_take (i := 39) (oi := ?o249) (v := ?v249) ?i249 (by kernel_rfl) (by kernel_rfl) (by kernel_rfl) ?q249 ?y249 (by assumption) ?r249; (case i249 => (simp only [List.getElem?_toArray, List.getElem?_cons_succ, List.getElem?_cons_zero]; rfl)); (case q249 => exact fun _ _ _ h => h); (case y249 => (refine Or.inl ⟨by rfl, ?_⟩; intro w hSw; (try dsimp only at hSw); go_simp; (try (with_reducible rfl))))) | (refine wpAnyH_take (i := 39) (oi := ?o250) (v := undef) ?i250 (by kernel_rfl) (by kernel_rfl) (by kernel_rfl) ?q250 ?y250 (by assumption) ?r250; (case i250 => (simp only [List.getElem?_toArray, List.getElem?_cons_succ, List.getElem?_cons_zero]; rfl)); (case q250 => exact fun _ _ _ h => h); (case y250 => exact Or.inr ⟨by rfl, rfl⟩))
            try simp only [Act.put, List.setIfInBounds_toArray, List.set_cons_zero, List.set_cons_succ]
            first | (refine wpAnyH_take (i := 40) (oi := ?o251) (v := ?v251) ?i251 (by kernel_rfl) (by kernel_rfl) (by kernel_rfl) ?q251 ?y251 (by assumption) ?r251; (case i251 => (simp only [List.getElem?_toArray, List.getElem?_cons_succ, List.getElem?_cons_zero]; rfl)); (case q251 => exact fun _ _ _ h => h); (case y251 => (refine Or.inl ⟨by rfl, ?_⟩; intro w hSw; (try dsimp only at hSw); go_simp; (try (with_reducible rfl))))) | (refine wpAnyH_take (i := 40) (oi := ?o252) (v := undef) ?i252 (by kernel_rfl) (by kernel_rfl) (by kernel_rfl) ?q252 ?y252 (by assumption) ?r252; (case i252 => (simp only [List.getElem?_toArray, List.getElem?_cons_succ, List.getElem?_cons_zero]; rfl)); (case q252 => exact fun _ _ _ h => h); (case y252 => exact Or.inr ⟨by rfl, rfl⟩))
            try simp only [Act.put, List.setIfInBounds_toArray, List.set_cons_zero, List.set_cons_succ]
            first | (refine wpAnyH_take (i := 41) (oi := ?o253) (v := ?v253) ?i253 (by kernel_rfl) (by kernel_rfl) (by kernel_rfl) ?q253 ?y253 (by assumption) ?r253; (case i253 => (simp only [List.getElem?_toArray, List.getElem?_cons_succ, List.getElem?_cons_zero]; rfl)); (case q253 => exact fun _ _ _ h => h); (case y253 => (refine Or.inl ⟨by rfl, ?_⟩; intro w hSw; (try dsimp only at hSw); go_simp; (try (with_reducible rfl))))) | (refine wpAnyH_take (i := 41) (oi := ?o254) (v := undef) ?i254 (by kernel_rfl) (by kernel_rfl) (by kernel_rfl) ?q254 ?y254 (by assumption) ?r254; (case i254 => (simp only [List.getElem?_toArray, List.getElem?_cons_succ, List.getElem?_cons_zero]; rfl)); (case q254 => exact fun _ _ _ h => h); (case y254 => exact Or.inr ⟨by rfl, rfl⟩))
            try simp only [Act.put, List.setIfInBounds_toArray, List.set_cons_zero, List.set_cons_succ]
            first | (refine wpAnyH_take (i := 42) (oi := ?o255) (v := ?v255) ?i255 (by kernel_rfl) (by kernel_rfl) (by kernel_rfl) ?q255 ?y255 (by assumption) ?r255; (case i255 => (simp only [List.getElem?_toArray, List.getElem?_cons_succ, List.getElem?_cons_zero]; rfl)); (case q255 => exact fun _ _ _ h => h); (case y255 => (refine Or.inl ⟨by rfl, ?_⟩; intro w hSw; (try dsimp only at hSw); go_simp; (try (with_reducible rfl))))) | (refine wpAnyH_take (i := 42) (oi := ?o256) (v := undef) ?i256 (by kernel_rfl) (by kernel_rfl) (by kernel_rfl) ?q256 ?y256 (by assumption) ?r256; (case i256 => (simp only [List.getElem?_toArray, List.getElem?_cons_succ, List.getElem?_cons_zero]; rfl)); (case q256 => exact fun _ _ _ h => h); (case y256 => exact Or.inr ⟨by rfl, rfl⟩))
            try simp only [Act.put, List.setIfInBounds_toArray, List.set_cons_zero, List.set_cons_succ]
            first | (refine wpAnyH_take (i := 43) (oi := ?o257) (v := ?v257) ?i257 (by kernel_rfl) (by kernel_rfl) (by kernel_rfl) ?q257 ?y257 (by assumption) ?r257; (case i257 => (simp only [List.getElem?_toArray, List.getElem?_cons_succ, List.getElem?_cons_zero]; rfl)); (case q257 => exact fun _ _ _ h => h); (case y257 => (refine Or.inl ⟨by rfl, ?_⟩; intro w hSw; (try dsimp only at hSw); go_simp; (try (with_reducible rfl))))) | (refine wpAnyH_take (i := 43) (oi := ?o258) (v := undef) ?i258 (by kernel_rfl) (by kernel_rfl) (by kernel_rfl) ?q258 ?y258 (by assumption) ?r258; (case i258 => (simp only [List.getElem?_toArray, List.getElem?_cons_succ, List.getElem?_cons_zero]; rfl)); (case q258 => exact fun _ _ _ h => h); (case y258 => exact Or.inr ⟨by rfl, rfl⟩))
            try simp only [Act.put, List.setIfInBounds_toArray, List.set_cons_zero, List.set_cons_succ]
            refine wpAnyH_done (by kernel_rfl) ?_ _
            clear s1 s2 s3
            go_wp2
            exact ⟨⟨j + 2, by omega, by go_num, VB.out.trans (HB1.out.mono VB.out.size)⟩, by simp [intOf]; omega⟩
      · obtain rfl : k = m := by omega
        subst hv
        go_wp2
        have hsm0 : smP s ps (rcTo s.2.2 P ps).1 0 = decide (ps.length = (rcTo s.2.2 P ps).1.length) := by simp [smP]
        obtain ⟨qs, hqs⟩ : ∃ qs, qs = (rcTo s.2.2 P ps).1 := ⟨_, rfl⟩
        have hY := exX_below HY8.out HB.out
        have hSC := HMI.out.simC P HPP.out
        have hw1 : withinD (crashD D P) D = true := within_crash HMI.out.2.1 hSC
        have hs1 := same_self HMI.out.2.1
        have hs2 := same_crash HMI.out.2.1 hSC
        have hw2 := withinD_eq HMI.out.2.1 hSC
        have hql : qs.length ≤ 60 := by rw [hqs]; exact Nat.le_trans crash_len HMI.out.2.2.1
        rw [← hqs] at hY hSC hs2 hw2 hsm0
        obtain ⟨A7, c7, hky, hpy⟩ := ref_len hY
        obtain ⟨n7, hn7⟩ : ∃ n7, n7 = qs.length := ⟨_, rfl⟩
        rw [← hn7] at hky hpy hql
        have kx := HKX.out _ HB.out
        have ky := hky _ (Below.refl _ _)
        obtain ⟨b0, hb0⟩ : ∃ b0, b0 = smP s ps qs 0 := ⟨_, rfl⟩
        have hbq : ((k : Int) == (n7 : Int)) = b0 := by
          rw [hb0, hsm0, ← HM.out, ← hn7, Bool.eq_iff_iff, beq_iff_eq, decide_eq_true_eq]
          omega
        have HSC := Aside0.mk hSC
        have HW1 := Lib.hid hw1
        have HS1 := Lib.hid hs1
        have HS2 := Lib.hid hs2
        have HW2 := Lib.hid hw2
        have HQS := Lib.hid hqs
        have HN7 := Lib.hid hn7
        have HB0 := Lib.hid hb0
        have HYY := Aside0.mk hY
        have HPY := Lib.hid hpy
        have HRD := Lib.hid (fun (X : World) (hX : Below wr.heap.size wr X) (a b : Int) => exX_read (exX_below (exX_below HMI8.out.ref HB.out) hX) HMI.out.okS (by have := HMI.out.2.2.1; omega) a b)
        have HDH := Lib.hid (show ShapeOk s from HMI.out.okS)
        clear hsm0 hqs hY hSC hw1 hs1 hs2 hw2 hky hpy hn7 hb0
        obtain ⟨w9, rfl⟩ : ∃ w9 : World, w9 = wr := ⟨_, rfl⟩
        go_wp2_with fail
        go_region_held3 (fun w' => w'.cell? ⟨x, 3, none⟩ = some (.slice A9 k c9) ∧ w'.cell? ⟨y, 3, none⟩ = some (.slice A7 n7 c7)) (go_keep) (fail)
        clear hbq kx
        go_wp2
        go_loopw [15, 123] (fun v15 v123 wr => ∃ i : Nat, i ≤ n7 ∧ v123 = .int .i64 (i : Int) ∧ v15 = .bool (smP s ps qs i) ∧ Below w9.heap.size w9 wr) (fun _ v123 _ => n7 - (intOf v123).toNat)
        case atStart => exact ⟨0, Nat.zero_le _, rfl, by rw [HB0.out], (Below.refl _ _).drew⟩
        case round =>
          obtain ⟨i, hi, rfl, rfl, hbi⟩ := hrel
          have HI := Aside0.mk hbi
          clear hbi ky
          by_cases hlt : i < n7
          · obtain ⟨z, hz⟩ : ∃ z, qs[i]? = some z := ⟨_, List.getElem?_eq_getElem (by have := HN7.out; omega)⟩
            obtain ⟨N, okY, g, rfl, hrow⟩ := HPY.out (by omega)
            obtain ⟨A1, c1, hc⟩ := (hrow.below HI.out).cell hz
            have d0 := hc.c0; have d1 := hc.c1; have d2 := hc.c2; have d3 := hc.c3
            obtain ⟨A5, c5, e5, _, hC⟩ := hc.row.reads
            injection e5 with e5 e6 e7
            subst e5 e7
            have hzl := HSC.out.len z (List.mem_of_getElem? hz)
            have hst := smP_step (s := s) (ps := ps) hz
            have i0 : (0 : Int) ≤ (i : Int) := by omega
            have i2 : (i : Int) < (n7 : Int) := by omega
            obtain ⟨⟨pa, pb⟩, pl, px⟩ := z
            simp only at d0 d1 d2 d3 hzl hC hst
            obtain ⟨V, hV⟩ : ∃ V, V = wr.alloc (.cells #[.int .i64 pa, .int .i64 pb, .slice A1 pl.length c1, .bool px] TP) := ⟨_, rfl⟩
            have y0 : V.heap[wr.heap.size]? = some (.cells #[.int .i64 pa, .int .i64 pb, .slice A1 pl.length c1, .bool px] TP (0, 0)) := by rw [hV]; exact blk_new wr _
            have yb : Below wr.heap.size wr V := by rw [hV]; exact below_alloc (Below.refl _ _) _
            have hbox : ∀ X : World, Below V.heap.size V X → X.cell? ⟨wr.heap.size, 0, none⟩ = some (.int .i64 pa) ∧ X.cell? ⟨wr.heap.size, 1, none⟩ = some (.int .i64 pb) ∧ X.cell? ⟨wr.heap.size, 2, none⟩ = some (.slice A1 pl.length c1) := fun X hX => by
              have := (hX.block wr.heap.size (blt y0)).trans y0
              exact ⟨bcell this 0, bcell this 1, bcell this 2⟩
            have vb : Below w9.heap.size w9 V := HI.out.trans (yb.mono HI.out.size)
            have hread := HRD.out V.drew vb.drew pa pb
            obtain ⟨R, hR⟩ : ∃ R, R = readP s.2.2.toNat pa pb ps := ⟨_, rfl⟩
            have hrl : R.length = s.2.2.toNat := by rw [hR]; exact readP_len HMI.out.2.1.len
            rw [← hR] at hread hst
            obtain ⟨r, hr⟩ : ∃ r, r = decide (pl = R) := ⟨_, rfl⟩
            rw [← hr] at hst
            obtain ⟨y1, y2, y3⟩ := hbox V.drew ((Below.refl _ V).drew)
            have hm2 := HDH.out.c1
            have HL1 := Lib.hid (show pl.length < 1000000 by omega)
            have HL2 := Lib.hid (show R.length < 1000000 by omega)
            have HV := Lib.hid hV
            have VB := Aside0.mk vb
            have HBOX4 := Lib.hid hbox
            have HREAD := Lib.hid hread
            have HC := Aside0.mk (Kd.C_below hC yb)
            have HR := Lib.hid hr
            obtain ⟨sm, hsm⟩ : ∃ sm, sm = smP s ps qs i := ⟨_, rfl⟩
            rw [← hsm] at hst
            rw [← hsm]
            have HST := Lib.hid hst
            clear hz hrow hc hzl hst hV y0 yb hbox vb hread hR hrl hr hC hm2 hsm
            cases sm with
            | false =>
              go_wp2_with fail
              rw [← HV.out]
              go_quiet (fail)
              go_wp2
              exact ⟨⟨i + 1, by omega, by go_num, by rw [HST.out]; rfl, pw_below_drewN VB.out _⟩, by simp [intOf]; omega⟩
            | true =>
              go_wp2_with fail
              rw [← HV.out]
              go_region_held3 (fun w' => w'.cell? ⟨wr.heap.size, 0, none⟩ = some (.int .i64 pa) ∧ w'.cell? ⟨wr.heap.size, 1, none⟩ = some (.int .i64 pb) ∧ w'.cell? ⟨wr.heap.size, 2, none⟩ = some (.slice A1 pl.length c1)) (first | go_keep | exact HBOX4.out _ HB2.out | exact HBOX4.out _ HB1.out)
                (first
                  | (go_at_call 49; (with_reducible refine HREAD.out.mono ?_); rintro e w2 ⟨A2, c2, rfl, hC2, hb⟩; have HB1 := Aside0.mk (undrew hb); have HC2 := Aside0.mk hC2; clear hb hC2)
                  | (go_at_call 19; (with_reducible refine (Bytes_any (Kd.C_below HC.out HB1.out) HC2.out HL1.out HL2.out).mono ?_); rw [← HR.out]; rintro e w3 ⟨rfl, hb⟩; have HB2 := Aside0.mk (HB1.out.trans (hb.mono HB1.out.size)); clear hb)
                  | fail)
              go_wp2
              exact ⟨⟨i + 1, by omega, by go_num, by rw [HST.out]; rfl, VB.out.trans (HB2.out.mono VB.out.size)⟩, by simp [intOf]; omega⟩
          · obtain rfl : i = n7 := by omega
            have hall : smP s ps qs i = sameP s ps qs := by rw [HN7.out]; exact smP_all s ps qs
            obtain ⟨sm, hsm⟩ : ∃ sm, sm = smP s ps qs i := ⟨_, rfl⟩
            rw [← hsm] at hall
            rw [← hsm]
            have hbw : Below w8.heap.size w8 wr := HB.out.trans (HI.out.mono HB.out.size)
            have hlk1 := fun (X : World) (hX : Below wr.heap.size wr X) => Like_both ((HMI8.out.below hbw).both.below hX) HMI.out.2.1 (by have := HMI.out.2.2.1; omega)
            have hlk2 := fun (X : World) (hX : Below wr.heap.size wr X) => Like_both (N0 := W.heap.size) (p := cc) (x := y) (D := crashD D P) (s := s) (ps := qs) (w := X) (by
              obtain ⟨ok1, h1⟩ := exD_below (exD_below HC8.out hbw) hX
              obtain ⟨ok2, h2⟩ := exX_below (exX_below HYY.out HI.out) hX
              exact ⟨ok1, ok2, h1, h2⟩) HSC.out (by have := HN7.out; omega)
            have hwi1 := fun (X : World) (hX : Below wr.heap.size wr X) => show Calls Try.prog 50 #[.pointer (some ⟨cc, 0, none⟩), .pointer (some ⟨p, 0, none⟩)] X (fun e w' => e = .returned (.bool true) ∧ Below X.heap.size X w') from by
              obtain ⟨ok1, h1⟩ := exD_below (exD_below HC8.out hbw) hX
              obtain ⟨ok2, h2⟩ := ((HMI8.out.below hbw).below hX).dev
              rw [← HW1.out]
              exact Within_any h1 h2 (HSC.out.sh.trans HMI.out.2.1.sh.symm)
            have hsa1 := fun (X : World) (hX : Below wr.heap.size wr X) => show Calls Try.prog 51 #[.pointer (some ⟨p, 0, none⟩), .pointer (some ⟨p, 0, none⟩)] X (fun e w' => e = .returned (.bool true) ∧ Below X.heap.size X w') from by
              obtain ⟨ok2, h2⟩ := ((HMI8.out.below hbw).below hX).dev
              rw [← HS1.out]
              exact Same_any h2 h2 rfl (HMI.out.2.1.byt HMI.out.2.2.2) (HMI.out.2.1.byt HMI.out.2.2.2)
            have hsa2 := fun (X : World) (hX : Below wr.heap.size wr X) => show Calls Try.prog 51 #[.pointer (some ⟨cc, 0, none⟩), .pointer (some ⟨p, 0, none⟩)] X (fun e w' => e = .returned (.bool sm) ∧ Below X.heap.size X w') from by
              obtain ⟨ok1, h1⟩ := exD_below (exD_below HC8.out hbw) hX
              obtain ⟨ok2, h2⟩ := ((HMI8.out.below hbw).below hX).dev
              rw [hall, ← HS2.out]
              exact Same_any h1 h2 (HSC.out.sh.trans HMI.out.2.1.sh.symm) (HSC.out.byt (by rw [HQS.out]; exact HMI.out.2.2.2.crash _ _)) (HMI.out.2.1.byt HMI.out.2.2.2)
            obtain ⟨wb, hwb⟩ : ∃ wb, wb = withinP s ps qs := ⟨_, rfl⟩
            have hwi2 := fun (X : World) (hX : Below wr.heap.size wr X) => show Calls Try.prog 50 #[.pointer (some ⟨p, 0, none⟩), .pointer (some ⟨cc, 0, none⟩)] X (fun e w' => e = .returned (.bool wb) ∧ Below X.heap.size X w') from by
              obtain ⟨ok1, h1⟩ := exD_below (exD_below HC8.out hbw) hX
              obtain ⟨ok2, h2⟩ := ((HMI8.out.below hbw).below hX).dev
              rw [hwb, ← HW2.out]
              exact Within_any h2 h1 (HMI.out.2.1.sh.trans HSC.out.sh.symm)
            have hwi3 := fun (X : World) (hX : Below wr.heap.size wr X) => show Calls Try.prog 52 #[.pointer (some ⟨x, 0, none⟩), .pointer (some ⟨y, 0, none⟩)] X (fun e w' => e = .returned (.bool wb) ∧ Below X.heap.size X w') from by
              obtain ⟨ok1, h1⟩ := ((HMI8.out.below hbw).below hX).ref
              obtain ⟨ok2, h2⟩ := exX_below (exX_below HYY.out HI.out) hX
              rw [hwb]
              exact within_any h1 h2 HDH.out (by have := HMI.out.2.2.1; omega) (by have := HN7.out; omega) HMI.out.2.1.len HSC.out.len
            have HLK1 := Lib.hid hlk1
            have HLK2 := Lib.hid hlk2
            have HWI1 := Lib.hid hwi1
            have HSA1 := Lib.hid hsa1
            have HSA2 := Lib.hid hsa2
            have HWI2 := Lib.hid hwi2
            have HWI3 := Lib.hid hwi3
            have HFIN := Lib.hid (fun (X : World) (hX : Below wr.heap.size wr X) => QB.out.trans ((HB8.out.trans ((hbw.trans (hX.mono hbw.size)).mono HB8.out.size)).mono QB.out.size))
            clear hlk1 hlk2 hwi1 hsa1 hsa2 hwi2 hwi3 hbw hall hsm hwb
            cases sm with
            | true =>
              go_wp2_with (first
                | (go_at_call 30; (with_reducible refine (HLK1.out _ (Below.refl _ _)).mono ?_); rintro e u1 ⟨rfl, hb⟩; have U1 := Aside0.mk hb; clear hb)
                | (go_at_call 30; (with_reducible refine (HLK2.out _ U1.out).mono ?_); rintro e u2 ⟨rfl, hb⟩; have U2 := Aside0.mk (U1.out.trans (hb.mono U1.out.size)); clear hb)
                | (go_at_call 50; (with_reducible refine (HWI1.out _ U2.out).mono ?_); rintro e u3 ⟨rfl, hb⟩; have U3 := Aside0.mk (U2.out.trans (hb.mono U2.out.size)); clear hb)
                | (go_at_call 51; (with_reducible refine (HSA1.out _ U3.out).mono ?_); rintro e u4 ⟨rfl, hb⟩; have U4 := Aside0.mk (U3.out.trans (hb.mono U3.out.size)); clear hb)
                | (go_at_call 51; (with_reducible refine (HSA2.out _ U4.out).mono ?_); rintro e u5 ⟨rfl, hb⟩; have U5 := Aside0.mk (U4.out.trans (hb.mono U4.out.size)); clear hb))
              go_ret
              exact ⟨rfl, HFIN.out _ U5.out⟩
            | false =>
              cases wb with
              | false =>
                go_wp2_with (first
                  | (go_at_call 30; (with_reducible refine (HLK1.out _ (Below.refl _ _)).mono ?_); rintro e u1 ⟨rfl, hb⟩; have U1 := Aside0.mk hb; clear hb)
                  | (go_at_call 30; (with_reducible refine (HLK2.out _ U1.out).mono ?_); rintro e u2 ⟨rfl, hb⟩; have U2 := Aside0.mk (U1.out.trans (hb.mono U1.out.size)); clear hb)
                  | (go_at_call 50; (with_reducible refine (HWI1.out _ U2.out).mono ?_); rintro e u3 ⟨rfl, hb⟩; have U3 := Aside0.mk (U2.out.trans (hb.mono U2.out.size)); clear hb)
                  | (go_at_call 51; (with_reducible refine (HSA1.out _ U3.out).mono ?_); rintro e u4 ⟨rfl, hb⟩; have U4 := Aside0.mk (U3.out.trans (hb.mono U3.out.size)); clear hb)
                  | (go_at_call 51; (with_reducible refine (HSA2.out _ U4.out).mono ?_); rintro e u5 ⟨rfl, hb⟩; have U5 := Aside0.mk (U4.out.trans (hb.mono U4.out.size)); clear hb)
                  | (go_at_call 50; (with_reducible refine (HWI2.out _ U5.out).mono ?_); rintro e u6 ⟨rfl, hb⟩; have U6 := Aside0.mk (U5.out.trans (hb.mono U5.out.size)); clear hb))
                go_ret
                exact ⟨rfl, HFIN.out _ U6.out⟩
              | true =>
                go_wp2_with (first
                  | (go_at_call 30; (with_reducible refine (HLK1.out _ (Below.refl _ _)).mono ?_); rintro e u1 ⟨rfl, hb⟩; have U1 := Aside0.mk hb; clear hb)
                  | (go_at_call 30; (with_reducible refine (HLK2.out _ U1.out).mono ?_); rintro e u2 ⟨rfl, hb⟩; have U2 := Aside0.mk (U1.out.trans (hb.mono U1.out.size)); clear hb)
                  | (go_at_call 50; (with_reducible refine (HWI1.out _ U2.out).mono ?_); rintro e u3 ⟨rfl, hb⟩; have U3 := Aside0.mk (U2.out.trans (hb.mono U2.out.size)); clear hb)
                  | (go_at_call 51; (with_reducible refine (HSA1.out _ U3.out).mono ?_); rintro e u4 ⟨rfl, hb⟩; have U4 := Aside0.mk (U3.out.trans (hb.mono U3.out.size)); clear hb)
                  | (go_at_call 51; (with_reducible refine (HSA2.out _ U4.out).mono ?_); rintro e u5 ⟨rfl, hb⟩; have U5 := Aside0.mk (U4.out.trans (hb.mono U4.out.size)); clear hb)
                  | (go_at_call 50; (with_reducible refine (HWI2.out _ U5.out).mono ?_); rintro e u6 ⟨rfl, hb⟩; have U6 := Aside0.mk (U5.out.trans (hb.mono U5.out.size)); clear hb)
                  | (go_at_call 52; (with_reducible refine (HWI3.out _ U6.out).mono ?_); rintro e u7 ⟨rfl, hb⟩; have U7 := Aside0.mk (U6.out.trans (hb.mono U6.out.size)); clear hb))
                go_ret
                exact ⟨rfl, HFIN.out _ U7.out⟩
  · cases hf : fewB ds with
    | false =>
      have HF := Lib.hid hf
      clear hf hall HMADE h0
      go_enter Try.func10, Try.ntmps10
      go_wp2_with fail
      rw [← HW.out]
      go_wp2_with (first
        | (go_at_call 45; (with_reducible refine (Awake12_any _).mono ?_); rintro e w1 ⟨rfl, hb⟩; have HB1 := Aside0.mk hb; clear hb)
        | (go_at_call 25; (with_reducible refine (HFEW.out _ HB1.out).mono ?_); rw [HF.out]; rintro e w2 ⟨rfl, hb⟩; have HB2 := Aside0.mk hb; clear hb))
      go_ret
      exact ⟨rfl, QB.out.trans (HB2.out.mono QB.out.size)⟩
    | true =>
      have HF := Lib.hid hf
      have hs : shapeB s = false := by
        cases h : shapeB s with
        | false => rfl
        | true => exact absurd ⟨hf, h⟩ hall
      have HS := Lib.hid hs
      clear hf hs hall HMADE h0
      go_enter Try.func10, Try.ntmps10
      go_wp2_with fail
      rw [← HW.out]
      go_wp2_with (first
        | (go_at_call 45; (with_reducible refine (Awake12_any _).mono ?_); rintro e w1 ⟨rfl, hb⟩; have HB1 := Aside0.mk hb; clear hb)
        | (go_at_call 25; (with_reducible refine (HFEW.out _ HB1.out).mono ?_); rw [HF.out]; rintro e w2 ⟨rfl, hb⟩; obtain ⟨k1, k2, k3⟩ := HBOX.out _ hb; have HB2 := Aside0.mk hb; clear hb)
        | (go_at_call 26; (with_reducible refine (RShape_any _ _).mono ?_); rw [HS.out]; rintro e w4 ⟨rfl, hb⟩; have HB4 := Aside0.mk (HB2.out.trans (hb.mono HB2.out.size)); clear hb))
      go_ret
      exact ⟨rfl, QB.out.trans (HB4.out.mono QB.out.size)⟩
theorem crash_after_walk (a b c : Int) (A : Option Addr) (d : Nat) (ds : List DeedT) (k t u : Int) (W : World) (_ : (Lit.int .i64 a).wf = true) (_ : (Lit.int .i64 b).wf = true) (_ : (Lit.int .i64 c).wf = true)
    (hr : DRow W A ds) (h0 : ds.length ≤ 9223372036854775807) (hp : ∀ d ∈ ds, PlanOk d.P ∧ Byt d.l) (hk : (Lit.int .u64 k).wf = true) (_ : (Lit.int .i64 t).wf = true) (_ : (Lit.int .i64 u).wf = true) :
    Calls Try.prog 10 #[.agg #[.int .i64 a, .int .i64 b, .int .i64 c], .slice A ds.length d, .agg #[.int .u64 k, .int .i64 t, .int .i64 u]] W fun e w' => e = .returned (.bool true) ∧ Below W.heap.size W w' := CrashAfter_any (a, b, c) ⟨k, t, u⟩ (plan_of hk) hr h0 hp
end Go.Proofs.Ytkmanjfmffdcbaa.Fl

