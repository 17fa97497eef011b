/- How a slice of binds is opened. -/
import Derived.Test.YtkbialmlddhclaaOpens
import Derived.Deep.Slices
import Derived.Test.YtkbialmlddhclaaQOldx0
namespace Go.Proofs.Ytkbialmlddhclaa.Opens
open Go.ChangeShapes Go.WideShapes Go.ChangeAt Go.RowKit Go.Joins Go.Deep Go.Proofs.YtkbialmlddhclaaW.PrintWords Go.Proofs.Ytkbialmlddhclaa.QOld
section
variable {H : Type} {enc : TypeId × Value → H} {P : Program} {w : World} {base : Nat} {spare : Nat → Bool} {held : Bool}
theorem bind_cells {e : TypeId} {f0 f1 f2 f3 f4 : Field} {n : Nat} {cs : List Value} {y : DataW H × List MemPlace} (he : P.underlying e = some (.struct #[f0, f1, f2, f3, f4])) (hone : oneCellFields P #[f0, f1, f2, f3, f4] = true)
    (u0 : P.underlying f0.type = some (.int .i64)) (u1 : P.underlying f1.type = some (.int .i64)) (u2 : P.underlying f2.type = some .string) (u3 : P.underlying f3.type = some (.int .i64)) (u4 : P.underlying f4.type = some (.int .i64))
    (hl : cs.length = 5) (h : DataW.trod enc P w base spare held n e cs = some y) : ∃ x : S40, cs = [.int .i64 x.f0, .int .i64 x.f1, .string x.f2, .int .i64 x.f3, .int .i64 x.f4] := by
  obtain ⟨xs, m, _, _, _, hlen, hg⟩ := DataW.trod_struct he h
  obtain ⟨o0, k0⟩ := hone_of hone 0 f0 rfl
  obtain ⟨o1, k1⟩ := hone_of hone 1 f1 rfl
  obtain ⟨o2, k2⟩ := hone_of hone 2 f2 rfl
  obtain ⟨o3, k3⟩ := hone_of hone 3 f3 rfl
  obtain ⟨o4, k4⟩ := hone_of hone 4 f4 rfl
  match cs, hl, xs, hlen with
  | [c0, c1, c2, c3, c4], _, [y0, y1, y2, y3, y4], _ =>
    have t0 : DataW.trod enc P w base spare held m f0.type [c0] = some y0 := by simpa [o0, k0] using hg 0 f0 rfl
    have t1 : DataW.trod enc P w base spare held m f1.type [c1] = some y1 := by simpa [o1, k1] using hg 1 f1 rfl
    have t2 : DataW.trod enc P w base spare held m f2.type [c2] = some y2 := by simpa [o2, k2] using hg 2 f2 rfl
    have t3 : DataW.trod enc P w base spare held m f3.type [c3] = some y3 := by simpa [o3, k3] using hg 3 f3 rfl
    have t4 : DataW.trod enc P w base spare held m f4.type [c4] = some y4 := by simpa [o4, k4] using hg 4 f4 rfl
    obtain ⟨a0, z0, _, _⟩ := DataW.trod_int u0 t0
    obtain ⟨a1, z1, _, _⟩ := DataW.trod_int u1 t1
    obtain ⟨a2, z2, _, _⟩ := DataW.trod_string u2 t2
    obtain ⟨a3, z3, _, _⟩ := DataW.trod_int u3 t3
    obtain ⟨a4, z4, _, _⟩ := DataW.trod_int u4 t4
    refine ⟨⟨a0, a1, a2, a3, a4⟩, ?_⟩
    rw [List.head_eq_of_cons_eq z0, List.head_eq_of_cons_eq z1, List.head_eq_of_cons_eq z2, List.head_eq_of_cons_eq z3, List.head_eq_of_cons_eq z4]
theorem row_binds {t e : TypeId} {f0 f1 f2 f3 f4 : Field} {A : Option Addr} {len c : Nat} {d : DataW H} {p : List MemPlace} (ht : P.underlying t = some (.slice e)) (he : P.underlying e = some (.struct #[f0, f1, f2, f3, f4])) (hone : oneCellFields P #[f0, f1, f2, f3, f4] = true) (hC : P.cellsOf e = 5)
    (u0 : P.underlying f0.type = some (.int .i64)) (u1 : P.underlying f1.type = some (.int .i64)) (u2 : P.underlying f2.type = some .string) (u3 : P.underlying f3.type = some (.int .i64)) (u4 : P.underlying f4.type = some (.int .i64))
    (h : DataW.Trod enc P w base spare held t (.slice A len c) d p) : ∃ l : List S40, len = l.length ∧ Kd.C k40 w A l.length l ∧ l.length ≤ c := by
  obtain ⟨fuel, hf⟩ := h
  rcases open_slice ht hf with ⟨hcs, _⟩ | ⟨a, len', cap, m, n, D, Pl, hcs, hb, hl, hm, hmm, _, hel⟩
  · simp [Value.cells] at hcs
    obtain ⟨rfl, rfl, rfl⟩ := hcs
    exact ⟨[], rfl, ⟨rfl, by simp, fun h => absurd h (by simp)⟩, by simp⟩
  · simp [Value.cells] at hcs
    obtain ⟨rfl, rfl, rfl⟩ := hcs
    have hlm : len ≤ m := by rw [hmm]; split <;> omega
    have each : ∀ i, ∃ x : S40, i < len → w.cells? base (a.add (i * 5)) 5 = some [.int .i64 x.f0, .int .i64 x.f1, .string x.f2, .int .i64 x.f3, .int .i64 x.f4] := by
      intro i
      by_cases hi : i < len
      · obtain ⟨cs', h1, h2⟩ := hel i (by omega)
        rw [hC] at h1
        obtain ⟨x, rfl⟩ := bind_cells he hone u0 u1 u2 u3 u4 (World.cells?_some h1).2.1 h2
        exact ⟨x, fun _ => h1⟩
      · exact ⟨z40, fun h => absurd h hi⟩
    obtain ⟨X, hX⟩ : ∃ X : Nat → S40, ∀ i, i < len → w.cells? base (a.add (i * 5)) 5 = some [.int .i64 (X i).f0, .int .i64 (X i).f1, .string (X i).f2, .int .i64 (X i).f3, .int .i64 (X i).f4] := ⟨fun i => Classical.choose (each i), fun i => Classical.choose_spec (each i)⟩
    refine ⟨(List.range len).map X, by simp, ⟨rfl, by simp; unfold maxLen at hm; omega, fun _ => ⟨a, rfl, fun j p hj => ?_⟩⟩, by simp; exact hl⟩
    have hjl : j < len := by
      have := (List.getElem?_eq_some_iff.1 hj).1
      simpa using this
    have hp : p = X j := by simpa [hjl] using hj.symm
    subst hp
    refine ⟨_, rfl, k40_mk w (X j), fun i u hu => ?_⟩
    have h3 := (World.cells?_some (hX j hjl)).2.2 i
    have hi : i < 5 := by
      have := (List.getElem?_eq_some_iff.1 hu).1
      simpa using this
    have h4 := h3 hi
    rw [hu] at h4
    have e5 : a.add (j * k40.sz + i) = (a.add (j * 5)).add i := by
      show a.add (j * 5 + i) = _
      by_cases hj0 : j * 5 = 0 <;> by_cases hi0 : i = 0 <;> simp [Addr.add, hj0, hi0, Nat.add_assoc]
    rw [e5]
    exact h4
end
end Go.Proofs.Ytkbialmlddhclaa.Opens
