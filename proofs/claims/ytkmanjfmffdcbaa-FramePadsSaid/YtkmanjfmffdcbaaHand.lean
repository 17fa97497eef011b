/- Small facts for walks by hand, beside the printed ones. -/
import Derived.Test.YtkmanjfmffdcbaaProg
import Derived.Lib.SlBytesConst
import Derived.WalkKit
import Derived.DataElems
import Derived.WalkSpells
import Derived.WalkLawsBesides
import Derived.Test.YtkmanjfmffdcbaaWMore
import Derived.Test.YtkmanjfmffdcbaaWShare
namespace Go.Proofs.Ytkmanjfmffdcbaa.Hand
open Go.RowKit Go.Proofs.YtkmanjfmffdcbaaW.PrintWords

/-- A row that has just been laid, with whatever mark, reads as it was laid. -/
theorem lit_reads {α : Type} (enc : α → Value) (h1 : ∀ x, (enc x).oneCell' = true) (w : World) (xs : List α) (d : α) (e : TypeId) (fr : Nat × Nat) (hl : xs.length ≤ 9223372036854775807) :
    (Kd.scalar enc h1).C (w.alloc (.cells (xs.map enc).toArray e fr)) (some ⟨w.heap.size, 0, none⟩) xs.length xs := by
  refine Kd.C_of_reads (d := d) (h1 := h1) ⟨rfl, hl, fun _ => ⟨_, rfl, fun j hj => ?_⟩⟩
  have ha : (⟨w.heap.size, 0, none⟩ : Addr).add j = ⟨w.heap.size, j, none⟩ := by unfold Addr.add; simp; omega
  rw [ha, World.cell?_alloc_mark]
  simp [hj, List.getD_eq_getElem?_getD]

theorem lit_ints (k : IntKind) (w : World) (xs : List Int) (e : TypeId) (fr : Nat × Nat) (hl : xs.length ≤ 9223372036854775807) :
    (Kd.int k).C (w.alloc (.cells (xs.map (Value.int k)).toArray e fr)) (some ⟨w.heap.size, 0, none⟩) xs.length xs := lit_reads _ _ w xs 0 e fr hl
/-- The cell of an element. -/
theorem C_cell {k : IntKind} {w : World} {A : Option Addr} {n : Nat} {l : List Int} (h : (Kd.int k).C w A n l) (i : Nat) (hi : i < n) :
    ∃ ad, A = some ad ∧ w.cell? (ad.add i) = some (.int k (rd l (i : Int))) := by
  have h' := (Kd.reads_of_C (d := (0 : Int)) h).at_ (i : Int) (by omega) (by omega)
  simpa [rdOf, rd] using h'
theorem C_take {α : Type} {d : Kd α} {w : World} {A : Option Addr} {n : Nat} {l : List α} (h : d.C w A n l) (i : Nat) (hi : i ≤ n) : d.C w A i (l.take i) := by
  obtain ⟨h1, h2, h3⟩ := h
  refine ⟨by rw [List.length_take]; omega, by omega, fun hp => ?_⟩
  obtain ⟨ad, e, hc⟩ := h3 (by omega)
  refine ⟨ad, e, fun j p hj => hc j p ?_⟩
  rw [List.getElem?_take] at hj
  split at hj
  · exact hj
  · cases hj
theorem C_drop {α : Type} {d : Kd α} {w : World} {A : Option Addr} {n : Nat} {l : List α} (h : d.C w A n l) (i : Nat) (hi : i ≤ n) (B : Option Addr) (hB : i < n → B = A.map (·.add (i * d.sz))) : d.C w B (n - i) (l.drop i) := by
  obtain ⟨h1, h2, h3⟩ := h
  refine ⟨by rw [List.length_drop]; omega, by omega, fun hp => ?_⟩
  obtain ⟨ad, e, hc⟩ := h3 (by omega)
  refine ⟨ad.add (i * d.sz), by rw [hB (by omega), e]; rfl, fun j p hj => ?_⟩
  rw [List.getElem?_drop] at hj
  obtain ⟨c, q1, q2, q3⟩ := hc (i + j) p hj
  refine ⟨c, q1, q2, fun x u hx => ?_⟩
  have := q3 x u hx
  rw [Nat.add_mul] at this
  have e2 : (ad.add (i * d.sz)).add (j * d.sz + x) = ad.add (i * d.sz + j * d.sz + x) := by
    rw [Addr.add_add, Nat.add_assoc]
  rw [e2]
  exact this
/-- 'xs[i:]' as the walk spells it. -/
theorem C_drop1 {k : IntKind} {w : World} {A : Option Addr} {n cap : Nat} {l : List Int} (h : (Kd.int k).C w A n l) (i : Nat) (hi : i ≤ n) (hc : n ≤ cap) :
    (Kd.int k).C w (if cap = i then A else Option.map (fun x => x.add i) A) (n - i) (l.drop i) :=
  C_drop h i hi _ (fun hlt => by rw [if_neg (by omega), show i * (Kd.int k).sz = i from Nat.mul_one i])
theorem C_drop1s {k : IntKind} {w : World} {ad : Addr} {n cap : Nat} {l : List Int} (h : (Kd.int k).C w (some ad) n l) (i : Nat) (hi : i ≤ n) (hc : n ≤ cap) :
    (Kd.int k).C w (if cap = i then some ad else some (ad.add i)) (n - i) (l.drop i) := C_drop1 h i hi hc
theorem C_head {k : IntKind} {w : World} {A : Option Addr} {n : Nat} {l : List Int} (h : (Kd.int k).C w A n l) (hn : 0 < n) : ∃ ad, A = some ad ∧ w.cell? ad = some (.int k (rd l 0)) := by
  obtain ⟨ad, e, hc⟩ := C_cell h 0 hn
  exact ⟨ad, e, by simpa [Addr.add] using hc⟩
theorem block_cell {w : World} {g : Nat} {cs : Array Value} {t : TypeId} {fr : Nat × Nat} (h : w.heap[g]? = some (.cells cs t fr)) (i : Nat) : w.cell? ⟨g, i, none⟩ = cs[i]? := by
  unfold World.cell?
  simp [h]
theorem block_frozen {w : World} {g : Nat} {cs : Array Value} {t : TypeId} (h : w.heap[g]? = some (.cells cs t (0, 0))) (i : Nat) : w.frozen? ⟨g, i, none⟩ = false := by
  unfold World.frozen?
  simp [h]
theorem alloc_at (w : World) (o : Obj) : (w.alloc o).heap[w.heap.size]? = some o := by
  show (w.heap.push o)[w.heap.size]? = some o
  simp
theorem alloc_lt (w : World) (o : Obj) (i : Nat) (h : i < w.heap.size) : (w.alloc o).heap[i]? = w.heap[i]? := by
  show (w.heap.push o)[i]? = w.heap[i]?
  rw [Array.getElem?_push]
  exact if_neg (by omega)
/-- An operation that leaves the world alone, its value told. -/
theorem event_same {P : Program} {ops : Array Oper} {Q : Exit → Act → World → Prop} {o : Oper} {rest : List Oper} {a : Act} {W : World} {v : Value} (hgd : o.guard = none) (hrun : (execOp a.eval o).run P W = .ok (.value v) W) (h : wpList P ops Q rest (a.put o.dst v) W) : wpList P ops Q (o :: rest) a W :=
  Kd.event_run hgd hrun h
theorem bcell {W w1 : World} (hb : Below W.heap.size W w1) : (∀ b o, b < W.heap.size → w1.cell? ⟨b, o, none⟩ = W.cell? ⟨b, o, none⟩) ∧ (∀ b o, b < W.heap.size → w1.frozen? ⟨b, o, none⟩ = W.frozen? ⟨b, o, none⟩) :=
  ⟨fun b o h => hb.cell (p := ⟨b, o, none⟩) h, fun b o h => hb.frozen (p := ⟨b, o, none⟩) h⟩
theorem C_len {k : IntKind} {w : World} {A : Option Addr} {n : Nat} {l : List Int} (h : (Kd.int k).C w A n l) : l.length = n := h.1
end Go.Proofs.Ytkmanjfmffdcbaa.Hand
