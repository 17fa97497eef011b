/- The document's device, copied: walked. No condition. -/
import Derived.Test.YtkmanjfmffdcbaaFlRef5
namespace Go.Proofs.Ytkmanjfmffdcbaa.Fl
open Go.RowKit Go.Proofs.YtkmanjfmffdcbaaW.PrintWords Go.Proofs.YtkmanjfmffdcbaaW.PrintMore Go.Maps
set_option linter.unusedSimpArgs false
set_option linter.unusedVariables false
theorem flatP_one {w : World} {N0 : Nat} {ok : Nat → Prop} : ∀ {qs : List PgC} {ps : List Pg}, PgRel N0 ok w qs ps → ∀ u ∈ flatP qs, u.oneCell' = true
  | [], _, _, u, h => by cases h
  | q :: qs, [], hr, _, _ => by cases hr
  | q :: qs, p :: ps, hr, u, h => by
    obtain ⟨⟨_, _, h3⟩, h4⟩ := hr
    simp only [flatP, List.mem_cons] at h
    rcases h with rfl | rfl | rfl | rfl | h
    · rfl
    · rfl
    · obtain ⟨_, _, e, _⟩ := h3.reads
      rw [e]; rfl
    · rfl
    · exact flatP_one h4 u h
theorem own_R {w w' : World} {N0 : Nat} {ok : Nat → Prop} {qs : List PgC} {ps : List Pg} {v' : Value} {n : Nat} (h0 : N0 ≤ w.heap.size) (hrel : PgRel N0 ok w qs ps) (ho : w'.ownsRow w.heap.size TP 4 v' n (flatP qs)) (hn : n = ps.length) (hb : Below w.heap.size w w') : kPage.R TP w' N0 (CopyOk ok w) v' ps := by
  have hob : ∀ k, v'.ownBlock = some k → w.heap.size ≤ k := fun k hk => own_base ho k hk
  refine ⟨fun k hk => .inl (hob k hk), flatP qs, ?_, P_reps (hrel.imp (fun _ _ hr => ?_))⟩
  · obtain ⟨h1, h2⟩ := ho
    subst hn
    refine ⟨h1, h2.elim .inl (fun ⟨g, cap, cur, e, hg, h⟩ => .inr ⟨g, cap, cur, e, Nat.le_trans h0 hg, h⟩)⟩
  · refine (hr.bound.step (fun k _ hlt => hb.block k hlt)).mono (fun k hk => ?_)
    obtain ⟨h1, h2, h3, q, hq, cs, hc⟩ := hk
    obtain rfl : q = TB := by simpa using hq
    exact ⟨.inr ⟨h1, cs, _, hc⟩, fun e => by have := hob k e.symm; omega⟩
section
variable {N0 x : Nat} {s : Int × Int × Int} {ps : List Pg} {ok : Nat → Prop} {w : World}
theorem ref_copied {v' : Value} {w1 : World} (h0 : N0 ≤ w.heap.size) (hR : kPage.R TP w1 N0 (CopyOk ok w) v' ps) (hb : Below w.heap.size w w1) : RefIs N0 w1.heap.size s ps (CopyOk ok w) (w1.alloc (.cells #[.int .i64 s.1, .int .i64 s.2.1, .int .i64 s.2.2, v'] TX (0, 0))) :=
  ⟨Nat.le_trans h0 hb.size, .inl hb.size, v', blk_new w1 _, Kd.R_below hR (below_alloc (Below.refl _ _) _)⟩
set_option maxHeartbeats 2000000 in
set_option maxRecDepth 100000 in
theorem RCopy_any (hX : RefIs N0 x s ps ok w) (hl : ps.length < 1000000) : Calls Try.prog 33 #[.pointer (some ⟨x, 0, none⟩)] w fun e w' => ∃ x', e = .returned (.pointer (some ⟨x', 0, none⟩)) ∧ w.heap.size ≤ x' ∧ RefIs N0 x' s ps (CopyOk ok w) w' ∧ Below w.heap.size w w' := by
  obtain ⟨A, c, hx, hrow, hR⟩ := ref_open hX
  have hN : N0 ≤ w.heap.size := Nat.le_of_lt (Nat.lt_of_le_of_lt hX.base (blt hx))
  obtain ⟨n, hn⟩ : ∃ n, n = ps.length := ⟨_, rfl⟩
  rw [← hn] at hx hrow hl
  have k0 : w.cell? ⟨x, 0, none⟩ = some (.int .i64 s.1) := bcell hx 0
  have k1 : w.cell? ⟨x, 1, none⟩ = some (.int .i64 s.2.1) := bcell hx 1
  have k2 : w.cell? ⟨x, 2, none⟩ = some (.int .i64 s.2.2) := bcell hx 2
  have k3 : w.cell? ⟨x, 3, none⟩ = some (.slice A n c) := bcell hx 3
  have HR := Aside0.mk hR
  have HX := Lib.hid hx
  have HN0 := Lib.hid hN
  have HN := Lib.hid hn
  have HL := Lib.hid hl
  obtain ⟨i0, hi, hz0, hz1, hz2⟩ := info_parts info_page
  by_cases hv : Value.slice A n c ≠ .slice none 0 0
  · obtain ⟨g, cap, e, hg1, hg2, hr⟩ := PRow.of_R hR (by rw [← hn]; exact hv)
    rw [← hn] at e
    injection e with e1 e2 e3
    subst e1 e3
    obtain ⟨cur, qs, hh, hs, ht, hrel⟩ := hr.ex
    have HREL := Lib.hid hrel
    have HFL : Hid ((flatP qs).length = n * 4) := Lib.hid (by rw [flatP_length, hrel.length, HN.out])
    have HC : Hid (∀ j u, (flatP qs)[j]? = some u → w.cell? ((⟨g, 0, none⟩ : Addr).add j) = some u) := Lib.hid (fun j u hj => by
      rw [Addr.add_lit, Nat.zero_add]
      have hl2 := (List.getElem?_eq_some_iff.1 hj).1
      rw [flatP_length, hrel.length] at hl2
      rw [← ht, List.getElem?_take, if_pos hl2] at hj
      rw [bcell hh]
      simpa using hj)
    have hfx := flatP_one hrel
    have HO : Hid (w.ownsRow w.heap.size TP 4 (.slice none 0 0) 0 []) := Lib.hid ⟨rfl, .inl ⟨rfl, rfl⟩⟩
    have HFX := Lib.hid hfx
    clear hX hrow hR hN hn hx hr hs ht hh hrel hfx hl hv
    go_enter Try.func33, Try.ntmps33
    go_wp2_with fail
    go_region_held3 (fun w' => w'.cell? ⟨x, 0, none⟩ = some (.int .i64 s.1) ∧ w'.cell? ⟨x, 1, none⟩ = some (.int .i64 s.2.1) ∧ w'.cell? ⟨x, 2, none⟩ = some (.int .i64 s.2.2) ∧ w'.cell? ⟨x, 3, none⟩ = some (.slice (some ⟨g, 0, none⟩) n c)) (first | go_keep | exact ⟨z0, z1, z2, z3⟩)
      ((rw [if_pos (by rfl)]; refine wp_append_own (w := w.drew) (.const (.slice none 0 0)) (.tmp 10) 66 rfl w.heap.size TP i0 _ 4 48 Try.underlying66 hi hz0 hz1 hz2 rfl (by decide) _ 0 [] rfl HO.out ⟨g, 0, none⟩ n c (flatP qs) rfl HFL.out HC.out HFX.out (by have := HL.out; simp only [maxLen]; omega) (by have := HL.out; omega) (Nat.le_refl _) ?_; intro v1 w1 ho1 hg1 _; have HO1 := Lib.hid ho1; have hb1 : Below w.heap.size w w1 := (Below.refl _ w).drew.grown hg1 (Nat.le_refl _) (fun _ h => by cases h); have HB1 := Aside0.mk hb1; have hR1 := own_R HN0.out HREL.out (by have := ho1; rw [Nat.zero_add, List.nil_append] at this; exact this) HN.out hb1; obtain ⟨A6, c6, rfl⟩ := Kd.R_slice hR1; have HR1 := Aside0.mk hR1; have z0 : w1.cell? ⟨x, 0, none⟩ = some (.int .i64 s.1) := (hb1.cell (p := ⟨x, 0, none⟩) (blt HX.out)).trans k0; have z1 : w1.cell? ⟨x, 1, none⟩ = some (.int .i64 s.2.1) := (hb1.cell (p := ⟨x, 1, none⟩) (blt HX.out)).trans k1; have z2 : w1.cell? ⟨x, 2, none⟩ = some (.int .i64 s.2.2) := (hb1.cell (p := ⟨x, 2, none⟩) (blt HX.out)).trans k2; have z3 : w1.cell? ⟨x, 3, none⟩ = some (.slice (some ⟨g, 0, none⟩) n c) := (hb1.cell (p := ⟨x, 3, none⟩) (blt HX.out)).trans k3; clear ho1 hg1 hb1 hR1))
    go_wp2
    go_ret
    exact ⟨_, rfl, HB1.out.size, ref_copied HN0.out HR1.out HB1.out, HB1.out.alloc HB1.out.size _⟩
  · have hv := Classical.not_not.1 hv
    injection hv with e1 e2 e3
    subst e1 e2 e3
    have hps : ps = [] := List.eq_nil_of_length_eq_zero (by omega)
    have HPS := Lib.hid hps
    clear hX hrow hR hN hn hx hl hps
    go_enter Try.func33, Try.ntmps33
    go_wp2_with fail
    go_region_held3 (fun w' => w'.cell? ⟨x, 0, none⟩ = some (.int .i64 s.1) ∧ w'.cell? ⟨x, 1, none⟩ = some (.int .i64 s.2.1) ∧ w'.cell? ⟨x, 2, none⟩ = some (.int .i64 s.2.2) ∧ w'.cell? ⟨x, 3, none⟩ = some (.slice none 0 0)) (first | go_keep) (fail)
    go_wp2
    go_ret
    refine ⟨_, rfl, Nat.le_refl _, (ref_copied HN0.out (v' := .slice none 0 0) (by rw [HPS.out]; exact Kd.R_nil _ _ _ _ _) (Below.refl _ _)).step (fun _ _ _ => rfl), (below_alloc (Below.refl _ _) _).drew⟩
end
end Go.Proofs.Ytkmanjfmffdcbaa.Fl
