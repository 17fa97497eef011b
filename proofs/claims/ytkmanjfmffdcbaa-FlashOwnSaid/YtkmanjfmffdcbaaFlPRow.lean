/- The document's device: its row of pages, read and written cell by cell. No condition. -/
import Derived.Test.YtkmanjfmffdcbaaFlNew
namespace Go.Proofs.Ytkmanjfmffdcbaa.Fl
open Go.RowKit Go.Proofs.YtkmanjfmffdcbaaW.PrintWords Go.Proofs.YtkmanjfmffdcbaaW.PrintMore Go.Maps
set_option linter.unusedSimpArgs false
set_option linter.unusedVariables false
abbrev PgC := Adr × Value × Bool
def flatP : List PgC → List Value
  | [] => []
  | q :: l => .int .i64 q.1.1 :: .int .i64 q.1.2 :: q.2.1 :: .bool q.2.2 :: flatP l
theorem flatP_length : ∀ l, (flatP l).length = l.length * 4
  | [] => rfl
  | a :: l => by simp only [flatP, List.length_cons, flatP_length l]; omega
theorem flatP_at : ∀ (l : List PgC) (i : Nat) (a : PgC), l[i]? = some a → (flatP l)[i * 4]? = some (.int .i64 a.1.1) ∧ (flatP l)[i * 4 + 1]? = some (.int .i64 a.1.2) ∧ (flatP l)[i * 4 + 2]? = some a.2.1 ∧ (flatP l)[i * 4 + 3]? = some (.bool a.2.2)
  | [], i, a, h => by simp at h
  | b :: l, 0, a, h => by
    simp at h
    subst h
    exact ⟨rfl, rfl, rfl, rfl⟩
  | b :: l, i + 1, a, h => by
    rw [List.getElem?_cons_succ] at h
    have := flatP_at l i a h
    rw [show (i + 1) * 4 = i * 4 + 1 + 1 + 1 + 1 by omega, show i * 4 + 1 + 1 + 1 + 1 + 1 = (i * 4 + 1) + 1 + 1 + 1 + 1 by omega, show i * 4 + 1 + 1 + 1 + 1 + 2 = (i * 4 + 2) + 1 + 1 + 1 + 1 by omega, show i * 4 + 1 + 1 + 1 + 1 + 3 = (i * 4 + 3) + 1 + 1 + 1 + 1 by omega]
    simp only [flatP, List.getElem?_cons_succ]
    exact this
theorem flatP_set : ∀ (l : List PgC) (i : Nat) (a : PgC) (x : Bool), l[i]? = some a → (flatP l).set (i * 4 + 3) (.bool x) = flatP (l.set i (a.1, a.2.1, x))
  | [], i, a, x, h => by simp at h
  | b :: l, 0, a, x, h => by
    simp at h
    subst h
    rfl
  | b :: l, i + 1, a, x, h => by
    rw [List.getElem?_cons_succ] at h
    rw [show (i + 1) * 4 + 3 = (i * 4 + 3) + 1 + 1 + 1 + 1 by omega]
    simp only [flatP, List.set_cons_succ, flatP_set l i a x h]
def PgRel (N0 : Nat) (ok : Nat → Prop) (w : World) : List PgC → List Pg → Prop
  | [], [] => True
  | q :: qs, p :: ps => (q.1 = p.1 ∧ q.2.2 = p.2.2 ∧ Row w N0 ok q.2.1 p.2.1) ∧ PgRel N0 ok w qs ps
  | _, _ => False
section
variable {N0 : Nat} {ok ok' : Nat → Prop} {w w' : World}
theorem PgRel.length : ∀ {qs : List PgC} {ps : List Pg}, PgRel N0 ok w qs ps → qs.length = ps.length
  | [], [], _ => rfl
  | _ :: _, _ :: _, ⟨_, h⟩ => by simp [PgRel.length h]
  | [], _ :: _, h => h.elim
  | _ :: _, [], h => h.elim
theorem PgRel.imp {N0 : Nat} {ok ok' : Nat → Prop} {w w' : World} (hR : ∀ v xs, Row w N0 ok v xs → Row w' N0 ok' v xs) : ∀ {qs : List PgC} {ps : List Pg}, PgRel N0 ok w qs ps → PgRel N0 ok' w' qs ps
  | [], [], _ => trivial
  | _ :: _, _ :: _, ⟨⟨h1, h2, h3⟩, h4⟩ => ⟨⟨h1, h2, hR _ _ h3⟩, PgRel.imp hR h4⟩
  | [], _ :: _, h => h.elim
  | _ :: _, [], h => h.elim
theorem PgRel.at : ∀ {qs : List PgC} {ps : List Pg}, PgRel N0 ok w qs ps → ∀ {i : Nat} {p : Pg}, ps[i]? = some p → ∃ v, qs[i]? = some (p.1, v, p.2.2) ∧ Row w N0 ok v p.2.1
  | [], [], _, i, p, h => by simp at h
  | q :: qs, p0 :: ps, ⟨⟨h1, h2, h3⟩, h4⟩, 0, p, h => by
    simp at h
    subst h
    obtain ⟨a, v, b⟩ := q
    simp only at h1 h2
    subst h1 h2
    exact ⟨v, rfl, h3⟩
  | q :: qs, p0 :: ps, ⟨_, h4⟩, i + 1, p, h => by
    rw [List.getElem?_cons_succ] at h ⊢
    exact PgRel.at h4 h
  | [], _ :: _, h, _, _, _ => h.elim
  | _ :: _, [], h, _, _, _ => h.elim
theorem PgRel.set : ∀ {qs : List PgC} {ps : List Pg}, PgRel N0 ok w qs ps → ∀ {i : Nat} {p : Pg} {v : Value} {x : Bool}, ps[i]? = some p → qs[i]? = some (p.1, v, p.2.2) → PgRel N0 ok w (qs.set i (p.1, v, x)) (ps.set i (p.1, p.2.1, x))
  | [], [], _, i, p, v, x, h, _ => by simp at h
  | q :: qs, p0 :: ps, ⟨⟨h1, h2, h3⟩, h4⟩, 0, p, v, x, h, hq => by
    simp at h hq
    subst h
    rw [hq] at h3
    exact ⟨⟨rfl, rfl, h3⟩, h4⟩
  | q :: qs, p0 :: ps, ⟨h1, h4⟩, i + 1, p, v, x, h, hq => by
    rw [List.getElem?_cons_succ] at h hq
    exact ⟨h1, PgRel.set h4 h hq⟩
  | [], _ :: _, h, _, _, _, _, _, _ => h.elim
  | _ :: _, [], h, _, _, _, _, _, _ => h.elim
theorem reps_P : ∀ {ps : List Pg} {inner : List Value}, Reps (kPage.M w N0 ok) 4 ps inner → ∃ qs, inner = flatP qs ∧ PgRel N0 ok w qs ps
  | [], inner, h => by
    have hl : inner.length = 0 := by have := h.1; simpa using this
    exact ⟨[], List.eq_nil_of_length_eq_zero hl, trivial⟩
  | p :: ps, inner, h => by
    have hl : inner.length = (ps.length + 1) * 4 := by simpa using h.1
    obtain ⟨c0, c1, hc, h0, h1⟩ := h.2 0 p rfl
    obtain ⟨d0, d1, hd, e0, e1⟩ := h0
    obtain ⟨f0, f1, hf, g0, g1⟩ := h1
    obtain ⟨v, hv, hrow⟩ := g0
    have e0' : d0 = [.int .i64 p.1.1] := e0
    have e1' : d1 = [.int .i64 p.1.2] := e1
    have g1' : f1 = [.bool p.2.2] := g1
    subst e0' e1' g1' hv hd hf
    have ih : Reps (kPage.M w N0 ok) 4 ps (inner.drop 4) := ⟨by rw [List.length_drop]; omega, fun j q hj => by
      have := h.2 (j + 1) q (by rw [List.getElem?_cons_succ]; exact hj)
      rw [List.drop_drop, show 4 + j * 4 = (j + 1) * 4 by omega]
      exact this⟩
    obtain ⟨qs, hq, hrel⟩ := reps_P ih
    refine ⟨(p.1, v, p.2.2) :: qs, ?_, ⟨⟨rfl, rfl, hrow⟩, hrel⟩⟩
    simp only [Nat.zero_mul, List.drop_zero] at hc
    rw [← List.take_append_drop 4 inner, hc, hq]
    rfl
theorem P_reps : ∀ {ps : List Pg} {qs : List PgC}, PgRel N0 ok w qs ps → Reps (kPage.M w N0 ok) 4 ps (flatP qs)
  | [], [], _ => Reps.none _ _
  | p :: ps, q :: qs, ⟨⟨h1, h2, h3⟩, h4⟩ => by
    have ih := P_reps h4
    refine ⟨by rw [flatP_length]; simp [h4.length], fun j x hj => ?_⟩
    cases j with
    | zero =>
      simp at hj
      subst hj
      obtain ⟨a, v, b⟩ := q
      simp only at h1 h2 h3
      subst h1 h2
      exact ⟨[.int .i64 p.1.1, .int .i64 p.1.2], [v, .bool p.2.2], rfl, ⟨[.int .i64 p.1.1], [.int .i64 p.1.2], rfl, rfl, rfl⟩, ⟨[v], [.bool p.2.2], rfl, ⟨v, rfl, h3⟩, rfl⟩⟩
    | succ j =>
      rw [List.getElem?_cons_succ] at hj
      have := ih.2 j x hj
      rw [show (j + 1) * 4 = j * 4 + 1 + 1 + 1 + 1 by omega]
      simp only [flatP, List.drop_succ_cons]
      exact this
  | [], _ :: _, h => h.elim
  | _ :: _, [], h => h.elim
/-- A row of pages, its block told. -/
structure PRow (w : World) (N0 : Nat) (ok : Nat → Prop) (g cap : Nat) (ps : List Pg) : Prop where mk' ::
  ex : ∃ (cur : Array Value) (qs : List PgC), w.heap[g]? = some (.cells cur TP (0, 0)) ∧ cur.size = cap * 4 ∧ cur.toList.take (ps.length * 4) = flatP qs ∧ PgRel N0 ok w qs ps
  le : ps.length ≤ cap
  mx : cap ≤ 9223372036854775807
variable {v : Value} {ps : List Pg} {g cap : Nat}
theorem PRow.of_R (h : kPage.R TP w N0 ok v ps) (hv : v ≠ .slice none 0 0) : ∃ g cap, v = .slice (some ⟨g, 0, none⟩) ps.length cap ∧ N0 ≤ g ∧ ok g ∧ PRow w N0 ok g cap ps := by
  obtain ⟨h0, inner, ho, hr⟩ := h
  obtain ⟨qs, rfl, hrel⟩ := reps_P hr
  rcases ho.2 with ⟨e, _⟩ | ⟨g, cap, cur, rfl, hg, hh, hle, hm, hs, ht⟩
  · exact absurd e hv
  · exact ⟨g, cap, rfl, hg, h0 g (by simp [Value.ownBlock]), ⟨cur, qs, hh, hs, ht, hrel.imp (fun _ _ hr => hr.mono (fun _ hk => hk.1))⟩, hle, hm⟩
theorem PRow.to_R (h : PRow w N0 ok g cap ps) (hg : N0 ≤ g) (ho : ok g) : kPage.R TP w N0 ok (.slice (some ⟨g, 0, none⟩) ps.length cap) ps := by
  obtain ⟨cur, qs, hh, hs, ht, hrel⟩ := h.ex
  refine ⟨fun k hk => ?_, flatP qs, ⟨by rw [flatP_length, hrel.length]; rfl, .inr ⟨g, cap, cur, rfl, hg, hh, h.le, h.mx, hs, ht⟩⟩, P_reps (hrel.imp (fun _ _ hr => hr.bound.mono (fun k hk => ⟨hk.1, fun e => ?_⟩)))⟩
  · have : g = k := by simpa [Value.ownBlock] using hk
    exact this ▸ ho
  · obtain ⟨_, _, _, q, hq, cs, hc⟩ := hk
    have : k = g := by simpa [Value.ownBlock] using e
    subst this
    obtain rfl : q = TB := by simpa using hq
    exact typ_ne hh hc (by decide) rfl
theorem PRow.lt (h : PRow w N0 ok g cap ps) : g < w.heap.size := by
  obtain ⟨cur, _, hh, _⟩ := h.ex
  exact blt hh
theorem PRow.step (h : PRow w N0 ok g cap ps) (hg : w'.heap[g]? = w.heap[g]?) (hm : ∀ k, ok k → k < w.heap.size → w'.heap[k]? = w.heap[k]?) : PRow w' N0 ok g cap ps := by
  obtain ⟨cur, qs, hh, hs, ht, hrel⟩ := h.ex
  exact ⟨⟨cur, qs, hg.trans hh, hs, ht, hrel.imp (fun _ _ hr => hr.step hm)⟩, h.le, h.mx⟩
theorem PRow.below (h : PRow w N0 ok g cap ps) (hb : Below w.heap.size w w') : PRow w' N0 ok g cap ps := h.step (hb.block g h.lt) (fun k _ hlt => hb.block k hlt)
/-- The cells of a page. -/
structure PCell (w : World) (N0 : Nat) (ok : Nat → Prop) (g i : Nat) (p : Pg) (A : Option Addr) (c : Nat) : Prop where
  c0 : w.cell? ⟨g, i * 4, none⟩ = some (.int .i64 p.1.1)
  c1 : w.cell? ⟨g, i * 4 + 1, none⟩ = some (.int .i64 p.1.2)
  c2 : w.cell? ⟨g, i * 4 + 2, none⟩ = some (.slice A p.2.1.length c)
  c3 : w.cell? ⟨g, i * 4 + 3, none⟩ = some (.bool p.2.2)
  f : ∀ j, w.frozen? ⟨g, j, none⟩ = false
  row : Row w N0 ok (.slice A p.2.1.length c) p.2.1
theorem PRow.cell (h : PRow w N0 ok g cap ps) {i : Nat} {p : Pg} (hi : ps[i]? = some p) : ∃ A c, PCell w N0 ok g i p A c := by
  obtain ⟨cur, qs, hh, hs, ht, hrel⟩ := h.ex
  have hl := (List.getElem?_eq_some_iff.1 hi).1
  obtain ⟨v, hq, hrow⟩ := hrel.at hi
  obtain ⟨A, c, rfl, _⟩ := hrow.reads
  have hf := flatP_at qs i _ hq
  rw [← ht, List.getElem?_take, List.getElem?_take, List.getElem?_take, List.getElem?_take, if_pos (by omega), if_pos (by omega), if_pos (by omega), if_pos (by omega)] at hf
  refine ⟨A, c, ?_, ?_, ?_, ?_, fun j => bfrozen hh _, hrow⟩
  · rw [bcell hh]; simpa using hf.1
  · rw [bcell hh]; simpa using hf.2.1
  · rw [bcell hh]; simpa using hf.2.2.1
  · rw [bcell hh]; simpa using hf.2.2.2
theorem PRow.setDirty (h : PRow w N0 ok g cap ps) {i : Nat} {p : Pg} (hi : ps[i]? = some p) (x : Bool) : PRow (w.setCell ⟨g, i * 4 + 3, none⟩ (.bool x)) N0 ok g cap (ps.set i (p.1, p.2.1, x)) := by
  obtain ⟨cur, qs, hh, hs, ht, hrel⟩ := h.ex
  have hl := (List.getElem?_eq_some_iff.1 hi).1
  obtain ⟨v, hq, hrow⟩ := hrel.at hi
  refine ⟨⟨_, qs.set i (p.1, v, x), bset hh _ _, by simp [hs], ?_, ?_⟩, by simpa using h.le, h.mx⟩
  · rw [List.length_set, ← flatP_set qs i _ x hq, ← ht]
    simp only [Array.toList_setIfInBounds]
    rw [List.take_set]
  · exact (hrel.set hi hq).imp (fun _ _ hr => hr.typed (fun k cs hk _ => Below.heap_setCell _ _ _ _ (not_typ hh (by decide) hk)))
theorem kPage_mk {base : Nat} (a b : Int) {v : Value} {l : List Int} (x : Bool) (h : Row w base ok v l) : kPage.M w base ok ((a, b), l, x) [.int .i64 a, .int .i64 b, v, .bool x] :=
  ⟨[.int .i64 a, .int .i64 b], [v, .bool x], rfl, ⟨[.int .i64 a], [.int .i64 b], rfl, rfl, rfl⟩, ⟨[v], [.bool x], rfl, ⟨v, rfl, h⟩, rfl⟩⟩
end
end Go.Proofs.Ytkmanjfmffdcbaa.Fl
