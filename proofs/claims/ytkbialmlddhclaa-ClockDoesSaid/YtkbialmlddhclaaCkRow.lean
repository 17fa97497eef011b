/- How a slice of the clock's deeds is opened; ClockDoes in the form of its row. -/
import Derived.Test.YtkbialmlddhclaaCkDo1
import Derived.Test.YtkbialmlddhclaaOpens
import Derived.Deep.Slices
namespace Go.Proofs.Ytkbialmlddhclaa.Ck
open Go.ChangeShapes Go.WideShapes Go.ChangeAt Go.RowKit Go.Joins Go.Deep Go.Proofs.YtkbialmlddhclaaW.PrintWords Go.Proofs.Ytkbialmlddhclaa.Opens
section
variable {H : Type} {enc : TypeId × Value → H} {P : Program} {w : World} {base : Nat} {spare : Nat → Bool} {held : Bool}
theorem deed_cells2 {e : TypeId} {f0 f1 : Field} {n : Nat} {cs : List Value} {y : DataW H × List MemPlace} (he : P.underlying e = some (.struct #[f0, f1])) (hone : oneCellFields P #[f0, f1] = true)
    (u0 : P.underlying f0.type = some (.int .i64)) (u1 : P.underlying f1.type = some (.int .i64)) (hl : cs.length = 2) (h : DataW.trod enc P w base spare held n e cs = some y) : ∃ d : Int × Int, cs = [.int .i64 d.1, .int .i64 d.2] := by
  obtain ⟨xs, m, _, _, _, hlen, hg⟩ := DataW.trod_struct he h
  obtain ⟨o0, k0⟩ := hone_of hone 0 f0 rfl
  obtain ⟨o1, k1⟩ := hone_of hone 1 f1 rfl
  match cs, hl, xs, hlen with
  | [c0, c1], _, [y0, y1], _ =>
    have t0' : DataW.trod enc P w base spare held m f0.type [c0] = some y0 := by simpa [o0, k0] using hg 0 f0 rfl
    have t1' : DataW.trod enc P w base spare held m f1.type [c1] = some y1 := by simpa [o1, k1] using hg 1 f1 rfl
    obtain ⟨a0, z0, _, _⟩ := DataW.trod_int u0 t0'
    obtain ⟨a1, z1, _, _⟩ := DataW.trod_int u1 t1'
    refine ⟨(a0, a1), ?_⟩
    rw [List.head_eq_of_cons_eq z0, List.head_eq_of_cons_eq z1]
theorem row_deeds2 {t e : TypeId} {f0 f1 : Field} {A : Option Addr} {len c : Nat} {d : DataW H} {p : List MemPlace} (ht : P.underlying t = some (.slice e)) (he : P.underlying e = some (.struct #[f0, f1])) (hC : P.cellsOf e = 2) (hone : oneCellFields P #[f0, f1] = true)
    (u0 : P.underlying f0.type = some (.int .i64)) (u1 : P.underlying f1.type = some (.int .i64))
    (h : DataW.Trod enc P w base spare held t (.slice A len c) d p) : ∃ ds : List (Int × Int), len = ds.length ∧ DeRow w A ds ∧ ds.length ≤ 9223372036854775807 := by
  obtain ⟨fuel, hf⟩ := h
  rcases open_slice ht hf with ⟨hcs, _⟩ | ⟨a, len', cap, m, n, D, Pl, hcs, hb, hl, hm, hmm, _, hel⟩
  · simp [Value.cells] at hcs
    obtain ⟨rfl, rfl, rfl⟩ := hcs
    exact ⟨[], rfl, fun i d hi => by simp at hi, by simp⟩
  · simp [Value.cells] at hcs
    obtain ⟨rfl, rfl, rfl⟩ := hcs
    have hlm : len ≤ m := by rw [hmm]; split <;> omega
    have each : ∀ i, ∃ x : Int × Int, i < len → w.cells? base (a.add (i * 2)) 2 = some [.int .i64 x.1, .int .i64 x.2] := by
      intro i
      by_cases hi : i < len
      · obtain ⟨cs', h1, h2⟩ := hel i (by omega)
        rw [hC] at h1
        obtain ⟨x, rfl⟩ := deed_cells2 he hone u0 u1 (World.cells?_some h1).2.1 h2
        exact ⟨x, fun _ => h1⟩
      · exact ⟨(0, 0), fun h => absurd h hi⟩
    refine ⟨(List.range len).map (fun i => Classical.choose (each i)), by simp, fun i d hi => ?_, by simp; unfold maxLen at hm; omega⟩
    have hil : i < len := by
      have := (List.getElem?_eq_some_iff.1 hi).1
      simpa using this
    have hx : d = Classical.choose (each i) := by simpa [hil] using hi.symm
    have h2 := Classical.choose_spec (each i) hil
    rw [← hx] at h2
    have h3 := (World.cells?_some h2).2.2
    have g0 := h3 0 (by omega)
    refine ⟨a, rfl, ?_, h3 1 (by omega)⟩
    simpa [Addr.add] using g0
end
theorem clock_does_walk (A : Option Addr) (c : Nat) (ds : List (Int × Int)) (o : Int) (W : World) (hr : DeRow W A ds) (h0 : ds.length ≤ 9223372036854775807) (_ : (Lit.int .i64 o).wf = true) :
    Calls Try.prog 9 #[.slice A ds.length c, .int .i64 o] W fun e W' => e = .returned (.bool true) ∧ Below W.heap.size W W' := by
  by_cases h : ds.length ≤ 80
  · exact Does_any hr h o
  · exact Does_big (by omega) h0
end Go.Proofs.Ytkbialmlddhclaa.Ck
