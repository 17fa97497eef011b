/- A memory of which some blocks have changed; the ring's words. No condition. -/
import Derived.Test.YtkbialmlddhclaaProg
import Derived.WalkKit
import Derived.WalkSpells
import Derived.DataElems
import Derived.Test.YtkbialmlddhclaaWMore
import Derived.Test.YtkbialmlddhclaaWShare
import Derived.Test.YtkbialmlddhclaaWKept
import Derived.Deep.QuietTactic
import Derived.BigQuiet
import Derived.Lib.Hide
import Derived.Deep.AppendSrc
namespace Go.Proofs.Ytkbialmlddhclaa.Ck
open Go.RowKit Go.Proofs.YtkbialmlddhclaaW.PrintWords Go.Proofs.YtkbialmlddhclaaW.PrintMore
set_option linter.unusedSimpArgs false
set_option linter.unusedVariables false
abbrev TI : TypeId := 3
abbrev TR : TypeId := 47
abbrev TS : TypeId := 77
abbrev kI : Kd Int := Kd.int .i64
/-- Old blocks but those of S are as they were; the streams are as they were. -/
structure Upd (S : Nat → Prop) (w w' : World) : Prop where
  os : w'.os = w.os
  tape : w'.tape = w.tape
  output : w'.output = w.output
  size : w.heap.size ≤ w'.heap.size
  block : ∀ k, k < w.heap.size → ¬ S k → w'.heap[k]? = w.heap[k]?
section
variable {S S' S2 : Nat → Prop} {w w1 w2 : World}
theorem Upd.refl (S : Nat → Prop) (w : World) : Upd S w w := ⟨rfl, rfl, rfl, Nat.le_refl _, fun _ _ _ => rfl⟩
theorem Upd.mono (h : Upd S w w1) (hs : ∀ k, S k → k < w.heap.size → S' k) : Upd S' w w1 := ⟨h.os, h.tape, h.output, h.size, fun k hk hn => h.block k hk (fun hS => hn (hs k hS hk))⟩
theorem Upd.trans (h : Upd S w w1) (k : Upd S2 w1 w2) (hs : ∀ k, S2 k → k < w.heap.size → S k) : Upd S w w2 :=
  ⟨k.os.trans h.os, k.tape.trans h.tape, k.output.trans h.output, Nat.le_trans h.size k.size, fun i hi hn => (k.block i (Nat.lt_of_lt_of_le hi h.size) (fun h2 => hn (hs i h2 hi))).trans (h.block i hi hn)⟩
theorem Upd.of_below {B : Nat} (h : Below B w w1) (S : Nat → Prop) (hS : ∀ k, ¬ S k → k < w.heap.size → k < B) : Upd S w w1 := ⟨h.os, h.tape, h.output, h.size, fun k hk hn => h.block k (hS k hn hk)⟩
theorem Upd.ofBelow (h : Below w.heap.size w w1) (S : Nat → Prop) : Upd S w w1 := ⟨h.os, h.tape, h.output, h.size, fun k hk _ => h.block k hk⟩
theorem Upd.below {B : Nat} (h : Upd S w w1) (hB : B ≤ w.heap.size) (hS : ∀ k, S k → B ≤ k) : Below B w w1 := ⟨h.os, h.tape, h.output, h.size, fun k hk => h.block k (by omega) (fun hk' => by have := hS k hk'; omega)⟩
theorem Upd.grown {row : Option Nat} (h : w.grownBy w1 row) (hr : ∀ k, row = some k → S k) : Upd S w w1 := ⟨h.os, h.tape, h.output, h.size, fun k hk hn => h.block k hk (fun e => hn (hr k e.symm))⟩
theorem Upd.setCell (w : World) {p : Addr} (hp : S p.block) (u : Value) : Upd S w (w.setCell p u) := ⟨rfl, rfl, rfl, by simp [World.setCell], fun k _ hn => Below.heap_setCell w p u k (fun e => hn (e ▸ hp))⟩
theorem Upd.alloc (S : Nat → Prop) (w : World) (o : Obj) : Upd S w (w.alloc o) := Upd.ofBelow (below_alloc (Below.refl _ _) o) S
theorem Upd.drewN (S : Nat → Prop) (w : World) (n : Nat) : Upd S w (w.drewN n) := Upd.ofBelow (pw_below_drewN (Below.refl _ _) n) S
theorem Upd.noneBelow (h : Upd (fun _ => False) w w1) : Below w.heap.size w w1 := ⟨h.os, h.tape, h.output, h.size, fun k hk => h.block k hk id⟩
theorem Upd.blk (h : Upd S w w1) {g : Nat} {o : Obj} (hb : w.heap[g]? = some o) (hn : ¬ S g) : w1.heap[g]? = some o := (h.block g (Array.getElem?_eq_some_iff.1 hb).1 hn).trans hb
end
theorem blt {w : World} {g : Nat} {o : Obj} (hb : w.heap[g]? = some o) : g < w.heap.size := (Array.getElem?_eq_some_iff.1 hb).1
theorem bcell {w : World} {g : Nat} {cs : Array Value} {t : TypeId} {fr : Nat × Nat} (h : w.heap[g]? = some (.cells cs t fr)) (i : Nat) : w.cell? ⟨g, i, none⟩ = cs[i]? := by
  unfold World.cell?
  simp [h]
theorem bfrozen {w : World} {g : Nat} {cs : Array Value} {t : TypeId} (h : w.heap[g]? = some (.cells cs t (0, 0))) (i : Nat) : w.frozen? ⟨g, i, none⟩ = false := by
  unfold World.frozen?
  simp [h]
theorem bset {w : World} {g : Nat} {cs : Array Value} {t : TypeId} (h : w.heap[g]? = some (.cells cs t (0, 0))) (i : Nat) (u : Value) : (w.setCell ⟨g, i, none⟩ u).heap[g]? = some (.cells (cs.setIfInBounds i u) t (0, 0)) := by
  simp [World.setCell, Array.getElem?_modify, h]
theorem typ_ne {w : World} {g g' : Nat} {cs cs' : Array Value} {t t' : TypeId} {fr fr' : Nat × Nat} (h : w.heap[g]? = some (.cells cs t fr)) (h' : w.heap[g']? = some (.cells cs' t' fr')) (ht : t ≠ t') : g ≠ g' := by
  rintro rfl
  rw [h] at h'
  injection h' with h'
  injection h' with _ h2
  exact ht h2
theorem map_ne {w : World} {g g' : Nat} {cs : Array Value} {t : TypeId} {fr : Nat × Nat} {es : Array MapEntry} {c : Nat} (h : w.heap[g]? = some (.cells cs t fr)) (h' : w.heap[g']? = some (.map es c)) : g ≠ g' := by
  rintro rfl
  rw [h] at h'
  injection h' with h'
  cases h'
/-- A ring: its row, its marks. -/
structure RG where
  row : List Int
  ms : List Bool
def ringC (v : Value) (ms : List Bool) : List Value := v :: ms.map (fun x => Value.bool x)
def ringV (v : Value) (ms : List Bool) : Value := .agg (ringC v ms).toArray
/-- v is the row's slice: it can be read in w, and behind whatever leaves w's blocks. -/
def RowV (w : World) (v : Value) (l : List Int) : Prop := ∃ A c, v = .slice A l.length c ∧ l.length ≤ c ∧ kI.C w A l.length l ∧ ∀ ad, A = some ad → 0 < l.length → ∃ cs fr, w.heap[ad.block]? = some (.cells cs TI fr)
theorem RowV.below {w w' : World} {v : Value} {l : List Int} (h : RowV w v l) (hb : Below w.heap.size w w') : RowV w' v l := by
  obtain ⟨A, c, h1, h2, h3, h4⟩ := h
  refine ⟨A, c, h1, h2, Kd.C_below h3 hb, fun ad hA h0 => ?_⟩
  obtain ⟨cs, fr, hc⟩ := h4 ad hA h0
  exact ⟨cs, fr, (hb.block _ (blt hc)).trans hc⟩
theorem RowV.nil (w : World) : RowV w (.slice none 0 0) [] := ⟨none, 0, rfl, Nat.le_refl _, Kd.C_nil kI w, fun _ h => by cases h⟩
theorem RowV.ofR {w : World} {base : Nat} {ok : Nat → Prop} {v : Value} {l : List Int} (h : kI.R TI w base ok v l) : RowV w v l := by
  obtain ⟨A, c, hv, hc, hC⟩ := Kd.R_reads h
  refine ⟨A, c, hv, hc, hC, fun ad hA h0 => ?_⟩
  obtain ⟨inner, ho⟩ := Kd.R_own h
  rcases ho.2 with ⟨h1, h2⟩ | ⟨g, cap, cur, rfl, hb, hg, _⟩
  · omega
  · injection hv with e1 e2 e3
    rw [hA] at e1
    injection e1 with e1
    rw [← e1]
    exact ⟨cur, (0, 0), hg⟩
/-- A row stays where every block of ints stays. -/
theorem RowV.typed {w w' : World} {v : Value} {l : List Int} (h : RowV w v l) (hk : ∀ (k : Nat) (cs : Array Value) (fr : Nat × Nat), w.heap[k]? = some (Obj.cells cs TI fr) → w'.heap[k]? = w.heap[k]?) : RowV w' v l := by
  obtain ⟨A, c, h1, h2, h3, h4⟩ := h
  refine ⟨A, c, h1, h2, ⟨h3.1, h3.2.1, fun hn => ?_⟩, fun ad hA h0 => ?_⟩
  · obtain ⟨ad, hA, hcell⟩ := h3.2.2 hn
    obtain ⟨cs, fr, hc⟩ := h4 ad hA hn
    refine ⟨ad, hA, fun j p hj => ?_⟩
    obtain ⟨c0, k0, k1, k2⟩ := hcell j p hj
    refine ⟨c0, k0, k1, fun i u hu => ?_⟩
    have hbl : ∀ a : Addr, a.block = ad.block → w'.cell? a = w.cell? a := fun a ha => by
      simp only [World.cell?, ha, hk _ cs fr hc]
    rw [hbl _ (by unfold Addr.add; split <;> rfl)]
    exact k2 i u hu
  · obtain ⟨cs, fr, hc⟩ := h4 ad hA h0
    exact ⟨cs, fr, (hk _ cs fr hc).trans hc⟩
/-- V is a ring. -/
def RingIs (w : World) (V : Value) (r : RG) : Prop := ∃ v, V = ringV v r.ms ∧ RowV w v r.row ∧ r.ms.length = 16
theorem RingIs.below {w w' : World} {V : Value} {r : RG} (h : RingIs w V r) (hb : Below w.heap.size w w') : RingIs w' V r := by
  obtain ⟨v, h1, h2, h3⟩ := h
  exact ⟨v, h1, h2.below hb, h3⟩
theorem kI_cell {w : World} {A : Option Addr} {l : List Int} (h : kI.C w A l.length l) {i : Nat} {x : Int} (hi : l[i]? = some x) : ∃ ad, A = some ad ∧ w.cell? (ad.add i) = some (.int .i64 x) := by
  have hl := (List.getElem?_eq_some_iff.1 hi).1
  obtain ⟨ad, e, hc⟩ := (Kd.reads_of_C (d := (0 : Int)) h).2.2 (by omega)
  refine ⟨ad, e, ?_⟩
  have := hc i hl
  rw [this, List.getD_eq_getElem?_getD, hi]
  rfl
end Go.Proofs.Ytkbialmlddhclaa.Ck
