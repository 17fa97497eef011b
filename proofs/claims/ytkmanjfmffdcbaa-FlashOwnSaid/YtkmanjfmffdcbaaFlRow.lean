/- How a slice of deeds is opened. -/
import Derived.Test.YtkmanjfmffdcbaaFlDoes
import Derived.Test.YtkmanjfmffdcbaaOpens
import Derived.Deep.Slices
namespace Go.Proofs.Ytkmanjfmffdcbaa.Fl
open Go.ChangeShapes Go.WideShapes Go.ChangeAt Go.RowKit Go.Joins Go.Deep Go.Proofs.YtkmanjfmffdcbaaW.PrintWords Go.Proofs.Ytkmanjfmffdcbaa.Opens
section
variable {H : Type} {enc : TypeId × Value → H} {P : Program} {w : World} {base : Nat} {spare : Nat → Bool} {held : Bool}
theorem plan_of {k t c : Int} (h : (Lit.int .u64 k).wf = true) : PlanOk ⟨k, t, c⟩ := by
  unfold Lit.wf at h
  rw [Bool.and_eq_true, decide_eq_true_eq, decide_eq_true_eq] at h
  have e1 : IntKind.min .u64 = 0 := by decide
  have e2 : IntKind.max .u64 = 18446744073709551615 := by decide
  rw [e1, e2] at h
  exact ⟨h.1, by show k < _; omega⟩
theorem plan_cells {t : TypeId} {g0 g1 g2 : Field} {n : Nat} {u0 u1 u2 : Value} {y : DataW H × List MemPlace} (he : P.underlying t = some (.struct #[g0, g1, g2])) (hone : oneCellFields P #[g0, g1, g2] = true)
    (t0 : P.underlying g0.type = some (.int .u64)) (t1 : P.underlying g1.type = some (.int .i64)) (t2 : P.underlying g2.type = some (.int .i64))
    (h : DataW.trod enc P w base spare held n t [u0, u1, u2] = some y) : ∃ Q : PlanT, u0 = .int .u64 Q.keep ∧ u1 = .int .i64 Q.torn ∧ u2 = .int .i64 Q.cut ∧ PlanOk Q := by
  obtain ⟨xs, m, _, _, _, hlen, hg⟩ := DataW.trod_struct he h
  obtain ⟨o0, k0⟩ := hone_of hone 0 g0 rfl
  obtain ⟨o1, k1⟩ := hone_of hone 1 g1 rfl
  obtain ⟨o2, k2⟩ := hone_of hone 2 g2 rfl
  match xs, hlen with
  | [y0, y1, y2], _ =>
    have t0' : DataW.trod enc P w base spare held m g0.type [u0] = some y0 := by simpa [o0, k0] using hg 0 g0 rfl
    have t1' : DataW.trod enc P w base spare held m g1.type [u1] = some y1 := by simpa [o1, k1] using hg 1 g1 rfl
    have t2' : DataW.trod enc P w base spare held m g2.type [u2] = some y2 := by simpa [o2, k2] using hg 2 g2 rfl
    obtain ⟨a0, z0, _, w0⟩ := DataW.trod_int t0 t0'
    obtain ⟨a1, z1, _, _⟩ := DataW.trod_int t1 t1'
    obtain ⟨a2, z2, _, _⟩ := DataW.trod_int t2 t2'
    exact ⟨⟨a0, a1, a2⟩, List.head_eq_of_cons_eq z0, List.head_eq_of_cons_eq z1, List.head_eq_of_cons_eq z2, plan_of w0⟩
theorem deed_cells {e te : TypeId} {f0 f1 f2 f3 f4 g0 g1 g2 : Field} {n : Nat} {cs : List Value} {y : DataW H × List MemPlace} (he : P.underlying e = some (.struct #[f0, f1, f2, f3, f4]))
    (o0 : f0.offset = 0) (o1 : f1.offset = 1) (o2 : f2.offset = 2) (o3 : f3.offset = 3) (o4 : f4.offset = 4)
    (k0 : P.cellsOf f0.type = 1) (k1 : P.cellsOf f1.type = 1) (k2 : P.cellsOf f2.type = 1) (k3 : P.cellsOf f3.type = 1) (k4 : P.cellsOf f4.type = 3)
    (u0 : P.underlying f0.type = some (.int .i64)) (u1 : P.underlying f1.type = some (.int .i64)) (u2 : P.underlying f2.type = some (.int .i64)) (u3 : P.underlying f3.type = some (.slice te)) (ue : P.underlying te = some (.int .u8)) (ke : P.cellsOf te = 1)
    (u4 : P.underlying f4.type = some (.struct #[g0, g1, g2])) (hone : oneCellFields P #[g0, g1, g2] = true)
    (t0 : P.underlying g0.type = some (.int .u64)) (t1 : P.underlying g1.type = some (.int .i64)) (t2 : P.underlying g2.type = some (.int .i64))
    (hl : cs.length = 7) (h : DataW.trod enc P w base spare held n e cs = some y) :
    ∃ (d : DeedT) (A : Option Addr) (c : Nat), cs = [.int .i64 d.op, .int .i64 d.a, .int .i64 d.b, .slice A d.l.length c, .int .u64 d.P.keep, .int .i64 d.P.torn, .int .i64 d.P.cut] ∧ kB.C w A d.l.length d.l ∧ PlanOk d.P := by
  obtain ⟨xs, m, _, _, _, hlen, hg⟩ := DataW.trod_struct he h
  match cs, hl, xs, hlen with
  | [c0, c1, c2, c3, c4, c5, c6], _, [y0, y1, y2, y3, y4], _ =>
    have s0 : DataW.trod enc P w base spare held m f0.type [c0] = some y0 := by simpa [o0, k0] using hg 0 f0 rfl
    have s1 : DataW.trod enc P w base spare held m f1.type [c1] = some y1 := by simpa [o1, k1] using hg 1 f1 rfl
    have s2 : DataW.trod enc P w base spare held m f2.type [c2] = some y2 := by simpa [o2, k2] using hg 2 f2 rfl
    have s3 : DataW.trod enc P w base spare held m f3.type [c3] = some y3 := by simpa [o3, k3] using hg 3 f3 rfl
    have s4 : DataW.trod enc P w base spare held m f4.type [c4, c5, c6] = some y4 := by simpa [o4, k4] using hg 4 f4 rfl
    obtain ⟨a0, z0, _, _⟩ := DataW.trod_int u0 s0
    obtain ⟨a1, z1, _, _⟩ := DataW.trod_int u1 s1
    obtain ⟨a2, z2, _, _⟩ := DataW.trod_int u2 s2
    obtain ⟨A, c, l, z3, hr, _⟩ := cell_ints u3 ue ke s3
    obtain ⟨Q, e4, e5, e6, hQ⟩ := plan_cells u4 hone t0 t1 t2 s4
    refine ⟨⟨a0, a1, a2, l, Q⟩, A, c, ?_, hr, hQ⟩
    rw [List.head_eq_of_cons_eq z0, List.head_eq_of_cons_eq z1, List.head_eq_of_cons_eq z2, List.head_eq_of_cons_eq z3, e4, e5, e6]
theorem row_deeds {t e te : TypeId} {f0 f1 f2 f3 f4 g0 g1 g2 : Field} {A : Option Addr} {len c : Nat} {d : DataW H} {p : List MemPlace} (ht : P.underlying t = some (.slice e)) (he : P.underlying e = some (.struct #[f0, f1, f2, f3, f4])) (hC : P.cellsOf e = 7)
    (o0 : f0.offset = 0) (o1 : f1.offset = 1) (o2 : f2.offset = 2) (o3 : f3.offset = 3) (o4 : f4.offset = 4)
    (k0 : P.cellsOf f0.type = 1) (k1 : P.cellsOf f1.type = 1) (k2 : P.cellsOf f2.type = 1) (k3 : P.cellsOf f3.type = 1) (k4 : P.cellsOf f4.type = 3)
    (u0 : P.underlying f0.type = some (.int .i64)) (u1 : P.underlying f1.type = some (.int .i64)) (u2 : P.underlying f2.type = some (.int .i64)) (u3 : P.underlying f3.type = some (.slice te)) (ue : P.underlying te = some (.int .u8)) (ke : P.cellsOf te = 1)
    (u4 : P.underlying f4.type = some (.struct #[g0, g1, g2])) (hone : oneCellFields P #[g0, g1, g2] = true)
    (t0 : P.underlying g0.type = some (.int .u64)) (t1 : P.underlying g1.type = some (.int .i64)) (t2 : P.underlying g2.type = some (.int .i64))
    (h : DataW.Trod enc P w base spare held t (.slice A len c) d p) : ∃ ds : List DeedT, len = ds.length ∧ DRow w A ds ∧ ds.length ≤ 9223372036854775807 ∧ ∀ d ∈ ds, PlanOk d.P := by
  obtain ⟨fuel, hf⟩ := h
  rcases open_slice ht hf with ⟨hcs, _⟩ | ⟨a, len', cap, m, n, D, Pl, hcs, hb, hl, hm, hmm, _, hel⟩
  · simp [Value.cells] at hcs
    obtain ⟨rfl, rfl, rfl⟩ := hcs
    exact ⟨[], rfl, fun i d hi => by simp at hi, by simp, by simp⟩
  · simp [Value.cells] at hcs
    obtain ⟨rfl, rfl, rfl⟩ := hcs
    have hlm : len ≤ m := by rw [hmm]; split <;> omega
    have each : ∀ i, ∃ x : DeedT, i < len → PlanOk x.P ∧ ∃ A1 c1, kB.C w A1 x.l.length x.l ∧ w.cells? base (a.add (i * 7)) 7 = some [.int .i64 x.op, .int .i64 x.a, .int .i64 x.b, .slice A1 x.l.length c1, .int .u64 x.P.keep, .int .i64 x.P.torn, .int .i64 x.P.cut] := by
      intro i
      by_cases hi : i < len
      · obtain ⟨cs', h1, h2⟩ := hel i (by omega)
        rw [hC] at h1
        obtain ⟨x, A1, c1, rfl, h3, h4⟩ := deed_cells he o0 o1 o2 o3 o4 k0 k1 k2 k3 k4 u0 u1 u2 u3 ue ke u4 hone t0 t1 t2 (World.cells?_some h1).2.1 h2
        exact ⟨x, fun _ => ⟨h4, A1, c1, h3, h1⟩⟩
      · exact ⟨⟨0, 0, 0, [], 0, 0, 0⟩, fun h => absurd h hi⟩
    refine ⟨(List.range len).map (fun i => Classical.choose (each i)), by simp, fun i d hi => ?_, by simp; unfold maxLen at hm; omega, fun d hd => ?_⟩
    · have hil : i < len := by
        have := (List.getElem?_eq_some_iff.1 hi).1
        simpa using this
      have hx : d = Classical.choose (each i) := by simpa [hil] using hi.symm
      obtain ⟨_, A1, c1, h1, h2⟩ := Classical.choose_spec (each i) hil
      rw [← hx] at h1 h2
      have h3 := (World.cells?_some h2).2.2
      have g0 := h3 0 (by omega)
      refine ⟨a, A1, c1, rfl, ?_, h3 1 (by omega), h3 2 (by omega), h3 3 (by omega), h3 4 (by omega), h3 5 (by omega), h3 6 (by omega), h1⟩
      simpa [Addr.add] using g0
    · rw [List.mem_map] at hd
      obtain ⟨i, hi, rfl⟩ := hd
      exact (Classical.choose_spec (each i) (by simpa using hi)).1
end
theorem flash_does_walk (a b c : Int) (A : Option Addr) (d : Nat) (ds : List DeedT) (W : World) (_ : (Lit.int .i64 a).wf = true) (_ : (Lit.int .i64 b).wf = true) (_ : (Lit.int .i64 c).wf = true) (hr : DRow W A ds) (h0 : ds.length ≤ 9223372036854775807) (hp : ∀ d ∈ ds, PlanOk d.P) :
    Calls Try.prog 7 #[.agg #[.int .i64 a, .int .i64 b, .int .i64 c], .slice A ds.length d] W fun e w' => e = .returned (.bool true) ∧ Below W.heap.size W w' := FlashDoes_any (a, b, c) hr h0 hp
end Go.Proofs.Ytkmanjfmffdcbaa.Fl
