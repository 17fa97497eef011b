/- The parts of this proof, one after the other (wip/tools/packfl.py). -/
import Derived.Test.YtmbiebdcnadhkaaProg
import Derived.WalkKit
import Derived.WalkSpells
import Derived.DataElems
import Derived.Maps.Keyed
import Derived.DeepKeys4
import Derived.Test.YtmbiebdcnadhkaaPkScanAnyV
import Derived.Deep.QuietTactic
import Derived.BigQuiet
import Derived.Lib.Hide
import Derived.Lib.MakeNoZero
import Derived.Laws.CopyOwn
import Derived.Laws.Externs
import Derived.Deep.RegionLaw
import Derived.Shelf.SlSortCmp.WholeK
import Derived.Deep.RegionHeld3
import Derived.StillTailTactics
import Derived.Lib.SliceRun
import Derived.Deep.DeepCutAuto
/- What a device's memory is, of the program's and of the document's: the assertions on blocks, and how they stay. No condition. -/
namespace Go.Proofs.Ytmbiebdcnadhkaa.Fl
open Go.RowKit Go.Proofs.YtmbiebdcnadhkaaW.PrintWords Go.Maps
abbrev Adr := Int × Int
/-- An address as a value. -/
def kv (a : Adr) : Value := .agg #[.int .i64 a.1, .int .i64 a.2]
def kAddr : Kd Adr := Kd.pair (Kd.int .i64) (Kd.int .i64)
abbrev kB : Kd Int := Kd.int .u8
abbrev TB : TypeId := 5
/-- Bytes in a block of bytes (among ok, from base on), read only: no word on what stands behind them. -/
def Row (w : World) (base : Nat) (ok : Nat → Prop) (v : Value) (l : List Int) : Prop :=
  ∃ A c, v = .slice A l.length c ∧ l.length ≤ c ∧ l.length ≤ 9223372036854775807 ∧ ((A = none ∧ l = []) ∨ ∃ g off cs, A = some ⟨g, off, none⟩ ∧ base ≤ g ∧ ok g ∧ w.heap[g]? = some (.cells cs TB (0, 0)) ∧ ∀ j x, l[j]? = some x → cs[off + j]? = some (.int .u8 x))
section
variable {w w' : World} {base base' : Nat} {ok ok' : Nat → Prop} {v : Value} {l : List Int}
theorem Row.nil (w : World) (base : Nat) (ok : Nat → Prop) : Row w base ok (.slice none 0 0) [] := ⟨none, 0, rfl, Nat.le_refl _, by simp, .inl ⟨rfl, rfl⟩⟩
theorem Row.move (h : Row w base ok v l) (hm : ∀ k, ok k → w'.heap[k]? = w.heap[k]?) : Row w' base ok v l := by
  obtain ⟨A, c, h1, h2, h3, h4⟩ := h
  refine ⟨A, c, h1, h2, h3, h4.imp id ?_⟩
  rintro ⟨g, off, cs, e, hb, ho, hh, hc⟩
  exact ⟨g, off, cs, e, hb, ho, (hm g ho).trans hh, hc⟩
theorem Row.mono (h : Row w base ok v l) (hk : ∀ k, ok k → ok' k) : Row w base ok' v l := by
  obtain ⟨A, c, h1, h2, h3, h4⟩ := h
  refine ⟨A, c, h1, h2, h3, h4.imp id ?_⟩
  rintro ⟨g, off, cs, e, hb, ho, hh, hc⟩
  exact ⟨g, off, cs, e, hb, hk g ho, hh, hc⟩
theorem Row.lower (h : Row w base ok v l) (hb : base' ≤ base) : Row w base' ok v l := by
  obtain ⟨A, c, h1, h2, h3, h4⟩ := h
  refine ⟨A, c, h1, h2, h3, h4.imp id ?_⟩
  rintro ⟨g, off, cs, e, hg, ho, hh, hc⟩
  exact ⟨g, off, cs, e, by omega, ho, hh, hc⟩
theorem Row.bound (h : Row w base ok v l) : Row w base (fun k => ok k ∧ base ≤ k ∧ k < w.heap.size ∧ ∃ q, q ∈ [TB] ∧ ∃ cells, w.heap[k]? = some (.cells cells q (0, 0))) v l := by
  obtain ⟨A, c, h1, h2, h3, h4⟩ := h
  refine ⟨A, c, h1, h2, h3, h4.imp id ?_⟩
  rintro ⟨g, off, cs, e, hg, ho, hh, hc⟩
  exact ⟨g, off, cs, e, hg, ⟨ho, hg, (Array.getElem?_eq_some_iff.1 hh).1, TB, by simp, cs, hh⟩, hh, hc⟩
theorem Row.step (h : Row w base ok v l) (hm : ∀ k, ok k → k < w.heap.size → w'.heap[k]? = w.heap[k]?) : Row w' base ok v l :=
  Row.mono (Row.move (Row.bound h) (fun k hk => hm k hk.1 hk.2.2.1)) (fun _ hk => hk.1)
theorem Row.reads (h : Row w base ok v l) : ∃ A c, v = .slice A l.length c ∧ l.length ≤ c ∧ kB.C w A l.length l := by
  obtain ⟨A, c, h1, h2, h3, h4⟩ := h
  refine ⟨A, c, h1, h2, Kd.C_of_reads (d := 0) ⟨rfl, h3, fun hn => ?_⟩⟩
  rcases h4 with ⟨_, rfl⟩ | ⟨g, off, cs, e, hg, ho, hh, hc⟩
  · simp at hn
  · refine ⟨_, e, fun j hj => ?_⟩
    have ha : (⟨g, off, none⟩ : Addr).add j = ⟨g, off + j, none⟩ := Addr.add_lit _ _ _
    rw [ha]
    have := hc j _ (List.getElem?_eq_getElem hj)
    simp [World.cell?, hh, this, List.getD_eq_getElem?_getD, hj]
theorem Row.ofR (h : kB.R TB w base ok v l) : Row w base ok v l := by
  obtain ⟨h0, inner, ho, hr⟩ := h
  have hl := ho.1
  rcases ho.2 with ⟨rfl, h2⟩ | ⟨g, cap, cur, rfl, hg, hh, hle, hm, hs, ht⟩
  · have : l = [] := by
      exact List.eq_nil_of_length_eq_zero h2
    subst this
    exact Row.nil _ _ _
  · refine ⟨some ⟨g, 0, none⟩, cap, rfl, hle, Nat.le_trans hle hm, .inr ⟨g, 0, cur, rfl, hg, h0 g (by simp [Value.ownBlock]), hh, fun j x hj => ?_⟩⟩
    have h3 := hr.2 j x hj
    have h4 : (inner.drop (j * 1)).take 1 = [.int .u8 x] := h3
    have h5 : inner[j]? = some (.int .u8 x) := by
      have := congrArg (fun l => l[0]?) h4
      simpa using this
    rw [← ht, List.getElem?_take] at h5
    split at h5
    · rw [Nat.zero_add]
      simpa using h5
    · cases h5
end
/-- A value that is bytes, read only. -/
def kData : Kd (List Int) where
  sz := 1
  E := [TB]
  K := fun w xs cs => ∃ A c, cs = [.slice A xs.length c] ∧ xs.length ≤ c ∧ kB.C w A xs.length xs
  M := fun w base ok xs cs => ∃ v, cs = [v] ∧ Row w base ok v xs
  K_len := by
    rintro w x cs ⟨A, c, rfl, _⟩
    rfl
  K_one := by
    rintro w x cs ⟨A, c, rfl, _⟩ u hu
    rw [List.mem_singleton.1 hu]
    rfl
  K_below := by
    rintro w w1 x cs hb ⟨A, c, rfl, hl, hr⟩
    exact ⟨A, c, rfl, hl, Kd.C_below hr hb⟩
  K_of_M := by
    rintro w base ok x cs ⟨v, rfl, h⟩
    obtain ⟨A, c, rfl, hl, hr⟩ := h.reads
    exact ⟨A, c, rfl, hl, hr⟩
  M_mono := by
    rintro w base ok ok' x cs hok ⟨v, rfl, h⟩
    exact ⟨v, rfl, h.mono hok⟩
  M_bound := by
    rintro w base ok x cs ⟨v, rfl, h⟩
    exact ⟨v, rfl, h.bound⟩
  M_move := by
    rintro w w1 base ok x cs hm ⟨v, rfl, h⟩
    exact ⟨v, rfl, h.move hm⟩
  M_lower := by
    rintro w base base' ok x cs hb ⟨v, rfl, h⟩
    exact ⟨v, rfl, h.lower hb⟩
abbrev Pg := Adr × List Int × Bool
def kPage : Kd Pg := Kd.pair kAddr (Kd.pair kData Kd.bool)
structure InR (a : Adr) : Prop where
  a0 : 0 ≤ a.1
  a1 : a.1 < 4096
  b0 : 0 ≤ a.2
  b1 : a.2 < 4096
/-- A shape that a device may have. -/
structure ShapeOk (s : Int × Int × Int) : Prop where
  a0 : 1 ≤ s.1
  a1 : s.1 ≤ 16
  b0 : 1 ≤ s.2.1
  b1 : s.2.1 ≤ 64
  c0 : 16 ≤ s.2.2
  c1 : s.2.2 ≤ 256
/-- Old blocks but those of S are as they were; the streams are as they were. -/
structure Upd (S : Nat → Prop) (w w' : World) : Prop where
  os : w'.os = w.os
  tape : w'.tape = w.tape
  output : w'.output = w.output
  size : w.heap.size ≤ w'.heap.size
  block : ∀ k, k < w.heap.size → ¬ S k → w'.heap[k]? = w.heap[k]?
section
variable {S S' S2 : Nat → Prop} {w w1 w2 : World}
theorem Upd.refl (S : Nat → Prop) (w : World) : Upd S w w := ⟨rfl, rfl, rfl, Nat.le_refl _, fun _ _ _ => rfl⟩
theorem Upd.mono (h : Upd S w w1) (hs : ∀ k, S k → k < w.heap.size → S' k) : Upd S' w w1 := ⟨h.os, h.tape, h.output, h.size, fun k hk hn => h.block k hk (fun hS => hn (hs k hS hk))⟩
theorem Upd.trans (h : Upd S w w1) (k : Upd S2 w1 w2) (hs : ∀ k, S2 k → k < w.heap.size → S k) : Upd S w w2 :=
  ⟨k.os.trans h.os, k.tape.trans h.tape, k.output.trans h.output, Nat.le_trans h.size k.size, fun i hi hn => (k.block i (Nat.lt_of_lt_of_le hi h.size) (fun h2 => hn (hs i h2 hi))).trans (h.block i hi hn)⟩
theorem Upd.ofBelow (h : Below w.heap.size w w1) (S : Nat → Prop) : Upd S w w1 := ⟨h.os, h.tape, h.output, h.size, fun k hk _ => h.block k hk⟩
theorem Upd.below {B : Nat} (h : Upd S w w1) (hB : B ≤ w.heap.size) (hS : ∀ k, S k → B ≤ k) : Below B w w1 := ⟨h.os, h.tape, h.output, h.size, fun k hk => h.block k (by omega) (fun hk' => by have := hS k hk'; omega)⟩
theorem Upd.grown {row : Option Nat} (h : w.grownBy w1 row) (hr : ∀ k, row = some k → S k) : Upd S w w1 := ⟨h.os, h.tape, h.output, h.size, fun k hk hn => h.block k hk (fun e => hn (hr k e.symm))⟩
theorem Upd.setCell (w : World) {p : Addr} (hp : S p.block) (u : Value) : Upd S w (w.setCell p u) := ⟨rfl, rfl, rfl, by simp [World.setCell], fun k _ hn => Below.heap_setCell w p u k (fun e => hn (e ▸ hp))⟩
theorem Upd.alloc (S : Nat → Prop) (w : World) (o : Obj) : Upd S w (w.alloc o) := Upd.ofBelow (below_alloc (Below.refl _ _) o) S
theorem Upd.blk (h : Upd S w w1) {g : Nat} {o : Obj} (hb : w.heap[g]? = some o) (hn : ¬ S g) : w1.heap[g]? = some o := (h.block g (Array.getElem?_eq_some_iff.1 hb).1 hn).trans hb
end
theorem blt {w : World} {g : Nat} {o : Obj} (hb : w.heap[g]? = some o) : g < w.heap.size := (Array.getElem?_eq_some_iff.1 hb).1
theorem bcell {w : World} {g : Nat} {cs : Array Value} {t : TypeId} {fr : Nat × Nat} (h : w.heap[g]? = some (.cells cs t fr)) (i : Nat) : w.cell? ⟨g, i, none⟩ = cs[i]? := by
  unfold World.cell?
  simp [h]
theorem bfrozen {w : World} {g : Nat} {cs : Array Value} {t : TypeId} (h : w.heap[g]? = some (.cells cs t (0, 0))) (i : Nat) : w.frozen? ⟨g, i, none⟩ = false := by
  unfold World.frozen?
  simp [h]
theorem bset {w : World} {g : Nat} {cs : Array Value} {t : TypeId} (h : w.heap[g]? = some (.cells cs t (0, 0))) (i : Nat) (u : Value) : (w.setCell ⟨g, i, none⟩ u).heap[g]? = some (.cells (cs.setIfInBounds i u) t (0, 0)) := by
  simp [World.setCell, Array.getElem?_modify, h]
theorem typ_ne {w : World} {g g' : Nat} {cs cs' : Array Value} {t t' : TypeId} {fr fr' : Nat × Nat} (h : w.heap[g]? = some (.cells cs t fr)) (h' : w.heap[g']? = some (.cells cs' t' fr')) (ht : t ≠ t') : g ≠ g' := by
  rintro rfl
  rw [h] at h'
  injection h' with h'
  injection h' with _ h2
  exact ht h2
theorem map_ne {w : World} {g g' : Nat} {cs : Array Value} {t : TypeId} {fr : Nat × Nat} {es : Array MapEntry} {c : Nat} (h : w.heap[g]? = some (.cells cs t fr)) (h' : w.heap[g']? = some (.map es c)) : g ≠ g' := by
  rintro rfl
  rw [h] at h'
  injection h' with h'
  cases h'
/-! ### The program's device -/
structure PD where
  s : Int × Int × Int
  mp : List (Adr × List Int)
  dirty : List Adr
abbrev TA : TypeId := 45
abbrev TP : TypeId := 140
abbrev TD : TypeId := 102
abbrev TX : TypeId := 114
abbrev TM : TypeId := 100
def Ents (N0 : Nat) (ok : Nat → Prop) (w : World) : List MapEntry → List (Adr × List Int) → Prop
  | [], [] => True
  | e :: es, q :: qs => (e.key = kv q.1 ∧ InR q.1 ∧ Row w N0 ok e.val q.2) ∧ Ents N0 ok w es qs
  | _, _ => False
/-- Pointer p is a device with D, its blocks among ok, all from N0 on; m: its map's block, v: its dirty row. -/
structure DevAt (N0 : Nat) (p : Nat) (D : PD) (ok : Nat → Prop) (w : World) (m : Nat) (v : Value) (es : Array MapEntry) (ck : Nat) : Prop where
  base : N0 ≤ p
  okp : ok p
  blk : w.heap[p]? = some (.cells #[.int .i64 D.s.1, .int .i64 D.s.2.1, .int .i64 D.s.2.2, .map (some m), v] TD (0, 0))
  okm : ok m
  basem : N0 ≤ m
  map : w.heap[m]? = some (.map es ck)
  ents : Ents N0 ok w es.toList D.mp
  dirty : kAddr.R TA w N0 ok v D.dirty
  shape : ShapeOk D.s
  inr : ∀ a ∈ D.dirty, InR a
  nodup : D.mp.Pairwise (fun x y => x.1 ≠ y.1)
  lens : ∀ q ∈ D.mp, q.2.length = D.s.2.2.toNat
def DevIs (N0 : Nat) (p : Nat) (D : PD) (ok : Nat → Prop) (w : World) : Prop := ∃ m v es ck, DevAt N0 p D ok w m v es ck
/-- Pointer x is the document's device. -/
structure RefIs (N0 : Nat) (x : Nat) (s : Int × Int × Int) (ps : List Pg) (ok : Nat → Prop) (w : World) : Prop where
  base : N0 ≤ x
  okx : ok x
  blk : ∃ v, w.heap[x]? = some (.cells #[.int .i64 s.1, .int .i64 s.2.1, .int .i64 s.2.2, v] TX (0, 0)) ∧ kPage.R TP w N0 ok v ps
section
variable {N0 p x : Nat} {D : PD} {s : Int × Int × Int} {ps : List Pg} {ok ok' : Nat → Prop} {w w' : World}
theorem Ents.imp {N0 : Nat} {ok ok' : Nat → Prop} {w w' : World} (hR : ∀ v xs, Row w N0 ok v xs → Row w' N0 ok' v xs) : ∀ {es : List MapEntry} {qs : List (Adr × List Int)}, Ents N0 ok w es qs → Ents N0 ok' w' es qs
  | [], [], _ => trivial
  | _ :: _, _ :: _, ⟨⟨h1, h2, h3⟩, h4⟩ => ⟨⟨h1, h2, hR _ _ h3⟩, Ents.imp hR h4⟩
  | [], _ :: _, h => h.elim
  | _ :: _, [], h => h.elim
theorem DevIs.step (h : DevIs N0 p D ok w) (hm : ∀ k, ok k → k < w.heap.size → w'.heap[k]? = w.heap[k]?) : DevIs N0 p D ok w' := by
  obtain ⟨m, v, es, ck, h⟩ := h
  exact ⟨m, v, es, ck, h.base, h.okp, (hm p h.okp (blt h.blk)).trans h.blk, h.okm, h.basem, (hm m h.okm (blt h.map)).trans h.map, h.ents.imp (fun _ _ hr => hr.step hm), Kd.R_step h.dirty hm, h.shape, h.inr, h.nodup, h.lens⟩
theorem DevIs.mono (h : DevIs N0 p D ok w) (hk : ∀ k, ok k → ok' k) : DevIs N0 p D ok' w := by
  obtain ⟨m, v, es, ck, h⟩ := h
  exact ⟨m, v, es, ck, h.base, hk _ h.okp, h.blk, hk _ h.okm, h.basem, h.map, h.ents.imp (fun _ _ hr => hr.mono hk), Kd.R_mono h.dirty hk, h.shape, h.inr, h.nodup, h.lens⟩
theorem DevIs.bound (h : DevIs N0 p D ok w) : DevIs N0 p D (fun k => ok k ∧ N0 ≤ k ∧ k < w.heap.size) w := by
  obtain ⟨m, v, es, ck, h⟩ := h
  exact ⟨m, v, es, ck, h.base, ⟨h.okp, h.base, blt h.blk⟩, h.blk, ⟨h.okm, h.basem, blt h.map⟩, h.basem, h.map,
    h.ents.imp (fun _ _ hr => hr.bound.mono (fun _ hk => ⟨hk.1, hk.2.1, hk.2.2.1⟩)), Kd.R_mono (Kd.R_bound h.dirty) (fun _ hk => ⟨hk.1, hk.2.1, hk.2.2.1⟩), h.shape, h.inr, h.nodup, h.lens⟩
theorem DevIs.below (h : DevIs N0 p D ok w) (hb : Below w.heap.size w w') : DevIs N0 p D ok w' := h.step (fun k _ hlt => hb.block k hlt)
theorem RefIs.step (h : RefIs N0 x s ps ok w) (hm : ∀ k, ok k → k < w.heap.size → w'.heap[k]? = w.heap[k]?) : RefIs N0 x s ps ok w' := by
  obtain ⟨h1, h2, v, h3, h4⟩ := h
  exact ⟨h1, h2, v, (hm x h2 (blt h3)).trans h3, Kd.R_step h4 hm⟩
end
/-- What is typed so stays where the blocks of that type stay. -/
theorem Row.typed {w w' : World} {base : Nat} {ok : Nat → Prop} {v : Value} {l : List Int} (h : Row w base ok v l) (hm : ∀ k cs, w.heap[k]? = some (.cells cs TB (0, 0)) → ok k → w'.heap[k]? = w.heap[k]?) : Row w' base ok v l :=
  Row.mono (Row.move (Row.bound h) (fun k hk => by
    obtain ⟨h1, _, _, q, hq, cs, hc⟩ := hk
    obtain rfl : q = TB := by simpa using hq
    exact hm k cs hc h1)) (fun _ hk => hk.1)
theorem R_typed {α : Type} {d : Kd α} {e base : Nat} {w w' : World} {ok : Nat → Prop} {v : Value} {xs : List α} (h : d.R e w base ok v xs) (hm : ∀ k cs q, q ∈ e :: d.E → w.heap[k]? = some (.cells cs q (0, 0)) → ok k → w'.heap[k]? = w.heap[k]?) : d.R e w' base ok v xs :=
  Kd.R_mono (Kd.R_move (Kd.R_bound h) (fun k hk => by
    obtain ⟨h1, _, _, q, hq, cs, hc⟩ := hk
    exact hm k cs q hq hc h1)) (fun _ hk => hk.1)
theorem A_typed {base : Nat} {w w' : World} {ok : Nat → Prop} {v : Value} {xs : List Adr} (h : kAddr.R TA w base ok v xs) (hm : ∀ k cs, w.heap[k]? = some (.cells cs TA (0, 0)) → ok k → w'.heap[k]? = w.heap[k]?) : kAddr.R TA w' base ok v xs :=
  R_typed h (fun k cs q hq hc ho => by
    have : q = TA := by simpa [kAddr, Kd.pair, Kd.int, Kd.scalar] using hq
    subst this
    exact hm k cs hc ho)
theorem not_typ {w : World} {g k : Nat} {cs cs' : Array Value} {t t' : TypeId} {fr fr' : Nat × Nat} (h : w.heap[g]? = some (.cells cs t fr)) (ht : t' ≠ t) (h' : w.heap[k]? = some (.cells cs' t' fr')) : k ≠ g := typ_ne h' h ht
/-- The blocks of ok that are no rows of bytes: those that may be written. -/
def Mut (ok : Nat → Prop) (w : World) : Nat → Prop := fun k => ok k ∧ ∀ cs fr, w.heap[k]? ≠ some (.cells cs TB fr)
theorem mut_of {ok : Nat → Prop} {w : World} {k : Nat} {cs : Array Value} {t : TypeId} {fr : Nat × Nat} (ho : ok k) (h : w.heap[k]? = some (.cells cs t fr)) (ht : t ≠ TB) : Mut ok w k := ⟨ho, fun cs' fr' e => by
  rw [h] at e
  injection e with e
  injection e with _ e2
  exact ht e2⟩
theorem mut_map {ok : Nat → Prop} {w : World} {k : Nat} {es : Array MapEntry} {ck : Nat} (ho : ok k) (h : w.heap[k]? = some (.map es ck)) : Mut ok w k := ⟨ho, fun cs' fr' e => by
  rw [h] at e
  cases e⟩
theorem DevAt.mutp {N0 p : Nat} {D : PD} {ok : Nat → Prop} {w : World} {m : Nat} {v : Value} {es : Array MapEntry} {ck : Nat} (h : DevAt N0 p D ok w m v es ck) : Mut ok w p := mut_of h.okp h.blk (by decide)
theorem DevAt.mutm {N0 p : Nat} {D : PD} {ok : Nat → Prop} {w : World} {m : Nat} {v : Value} {es : Array MapEntry} {ck : Nat} (h : DevAt N0 p D ok w m v es ck) : Mut ok w m := mut_map h.okm h.map
/-! ### The map -/
theorem laidOut : laidOutB Try.prog = true := by kernel_rfl
theorem addr_law : Keyed Try.prog TA := Keyed.of_law (deep_law_laid laidOut (m := 2) (by omega) (of_decide_eq_true (by kernel_rfl)) (by kernel_rfl) (by rw [Try.underlying45]))
end Go.Proofs.Ytmbiebdcnadhkaa.Fl

/- The device's map, looked up, written, deleted from: the runs. No condition. -/
namespace Go.Proofs.Ytmbiebdcnadhkaa.Fl
open Go.RowKit Go.Proofs.YtmbiebdcnadhkaaW.PrintWords Go.Maps
set_option linter.unusedSimpArgs false
theorem wf_i64 {a : Int} (h0 : 0 ≤ a) (h1 : a < 4096) : (Lit.int .i64 a).wf = true := by
  have h2 : IntKind.i64.min = -9223372036854775808 := by decide
  have h3 : IntKind.i64.max = 9223372036854775807 := by decide
  simp only [Lit.wf, h2, h3, Bool.and_eq_true, decide_eq_true_eq]
  omega
theorem keyOf_two {P : Program} {k i : TypeId} {fs : Array Field} (hk : P.keyType k = true) (hu : P.underlying k = some (.struct fs)) (h1 : fs.all (·.name != "_") = true) (h2 : fs.toList.map (fun f => (f.type, f.offset)) = [(i, 0), (i, 1)])
    (hi : P.underlying i = some (.int .i64)) (hc : P.cellsOf k = 2) (hci : P.cellsOf i = 1) (d : Nat) (hd : P.types.size = d + 1) {a : Adr} (h : InR a) : ∃ l, keyOf P k (kv a) = some l := by
  have w1 := wf_i64 h.a0 h.a1
  have w2 := wf_i64 h.b0 h.b1
  obtain ⟨f1, f2, hf⟩ : ∃ f1 f2, fs.toList = [f1, f2] := by
    match hl : fs.toList, h2 with
    | [f1, f2], _ => exact ⟨f1, f2, rfl⟩
    | [], h2 => simp at h2
    | [_], h2 => simp at h2
    | _ :: _ :: _ :: _, h2 => simp at h2
  rw [hf] at h2
  simp at h2
  obtain ⟨⟨e1, e2⟩, e3, e4⟩ := h2
  unfold keyOf kv
  rw [hu]
  simp [hk, Value.formed, hu, hc, Value.cells, hd, Program.keyLits, hf, e1, e2, e3, e4, hci, hi, w1, w2, List.mapM_cons, h1]
theorem size_pos : ∃ d, Try.prog.types.size = d + 1 := by
  cases h : Try.prog.types.size with
  | zero => exact absurd h (by have : (0 < Try.prog.types.size) := of_decide_eq_true (by kernel_rfl); omega)
  | succ d => exact ⟨d, rfl⟩
theorem keyOf_addr {a : Adr} (h : InR a) : ∃ l, keyOf Try.prog TA (kv a) = some l := by
  obtain ⟨d, hd⟩ := size_pos
  exact keyOf_two (by kernel_rfl) Try.underlying45 (by simp) (by rfl) Try.underlying3 (by kernel_rfl) (by kernel_rfl) d hd h
theorem kv_inj {a b : Adr} (h : kv a = kv b) : a = b := by
  obtain ⟨a1, a2⟩ := a
  obtain ⟨b1, b2⟩ := b
  simp only [kv, Value.agg.injEq] at h
  have := congrArg Array.toList h
  simp at this
  rw [this.1, this.2]
/-- What a list of pages has at an address. -/
def look (a : Adr) : List (Adr × List Int) → Option (List Int)
  | [] => none
  | q :: qs => if q.1 = a then some q.2 else look a qs
theorem ents_keys {N0 : Nat} {ok : Nat → Prop} {w : World} : ∀ {es : List MapEntry} {qs : List (Adr × List Int)}, Ents N0 ok w es qs → ∀ e ∈ es, ∃ l, keyOf Try.prog TA e.key = some l
  | [], [], _, _, he => by cases he
  | x :: es, q :: qs, ⟨⟨h1, h2, _⟩, h4⟩, e, he => by
    rcases List.mem_cons.1 he with rfl | he
    · rw [h1]; exact keyOf_addr h2
    · exact ents_keys h4 e he
  | [], _ :: _, h, _, _ => h.elim
  | _ :: _, [], h, _, _ => h.elim
theorem ents_none {N0 : Nat} {ok : Nat → Prop} {w : World} {a : Adr} : ∀ {es : List MapEntry} {qs : List (Adr × List Int)}, Ents N0 ok w es qs → (∀ e ∈ es, e.key ≠ kv a) → look a qs = none
  | [], [], _, _ => rfl
  | x :: es, q :: qs, ⟨⟨h1, _, _⟩, h4⟩, h => by
    unfold look
    rw [if_neg (fun e => h x (by simp) (by rw [h1, e]))]
    exact ents_none h4 (fun e he => h e (by simp [he]))
  | [], _ :: _, h, _ => h.elim
  | _ :: _, [], h, _ => h.elim
/-- No two entries have one key. -/
def Nodup (qs : List (Adr × List Int)) : Prop := qs.Pairwise (fun x y => x.1 ≠ y.1)
theorem look_mem {a : Adr} : ∀ {qs : List (Adr × List Int)} {b : List Int}, look a qs = some b → (a, b) ∈ qs
  | [], _, h => by cases h
  | q :: qs, b, h => by
    unfold look at h
    split at h
    · rename_i he
      cases h
      subst he
      simp
    · simp [look_mem h]
theorem look_of_mem {a : Adr} {b : List Int} : ∀ {qs : List (Adr × List Int)}, Nodup qs → (a, b) ∈ qs → look a qs = some b
  | [], _, h => by cases h
  | q :: qs, hn, h => by
    obtain ⟨h1, h2⟩ := List.pairwise_cons.1 hn
    unfold look
    rcases List.mem_cons.1 h with rfl | h
    · simp
    · rw [if_neg (fun e => h1 _ h (by rw [e]))]
      exact look_of_mem h2 h
theorem ents_at {N0 : Nat} {ok : Nat → Prop} {w : World} : ∀ {es : List MapEntry} {qs : List (Adr × List Int)}, Ents N0 ok w es qs → ∀ {j : Nat} {e : MapEntry}, es[j]? = some e → ∃ q, qs[j]? = some q ∧ e.key = kv q.1 ∧ InR q.1 ∧ Row w N0 ok e.val q.2
  | [], [], _, j, e, h => by simp at h
  | x :: es, q :: qs, ⟨h1, h4⟩, 0, e, h => by
    simp at h
    subst h
    exact ⟨q, rfl, h1⟩
  | x :: es, q :: qs, ⟨h1, h4⟩, j + 1, e, h => by
    rw [List.getElem?_cons_succ] at h ⊢
    exact ents_at h4 h
  | [], _ :: _, h, _, _, _ => h.elim
  | _ :: _, [], h, _, _, _ => h.elim
/-- The run of findKey. -/
theorem run_find {N0 : Nat} {ok : Nat → Prop} {w : World} {es : List MapEntry} {qs : List (Adr × List Int)} (h : Ents N0 ok w es qs) (hn : Nodup qs) {a : Adr} (ha : InR a) :
    ((Instr.findKey TA (kv a) es).run Try.prog w = .ok none w ∧ look a qs = none) ∨
    ∃ j e b, (Instr.findKey TA (kv a) es).run Try.prog w = .ok (some (j, e.val)) w ∧ es[j]? = some e ∧ e.key = kv a ∧ qs[j]? = some (a, b) ∧ look a qs = some b ∧ Row w N0 ok e.val b := by
  obtain ⟨l, hl⟩ := keyOf_addr ha
  rcases addr_law.find w hl es (ents_keys h) with ⟨h1, h2⟩ | ⟨j, e, h1, h2, h3⟩
  · exact .inl ⟨h1, ents_none h h2⟩
  · obtain ⟨q, hq, hk, hr, hR⟩ := ents_at h h2
    have : q.1 = a := kv_inj (by rw [← hk, h3])
    subst this
    refine .inr ⟨j, e, q.2, h1, h2, h3, hq, look_of_mem hn (List.mem_iff_getElem?.2 ⟨j, hq⟩), hR⟩
theorem run_check {w : World} {a : Adr} (ha : InR a) (em : Bool) : (Instr.checkKey em 10000 TA (kv a)).run Try.prog w = .ok () w := by
  obtain ⟨l, hl⟩ := keyOf_addr ha
  exact addr_law.check w em hl
theorem run_zero (w : World) : (zeroValue 36).run Try.prog w = .ok (.slice none 0 0) w := by kernel_rfl
/-- The value that a lookup hands back. -/
theorem run_look {N0 : Nat} {ok : Nat → Prop} {w : World} {m : Nat} {es : Array MapEntry} {ck : Nat} {qs : List (Adr × List Int)} (hm : w.heap[m]? = some (.map es ck)) (h : Ents N0 ok w es.toList qs) (hn : Nodup qs) {a : Adr} (ha : InR a) (cm : Bool) :
    ∃ v, (Instr.lookup TM (.map (some m)) (kv a) cm).run Try.prog w = .ok (if cm then .tuple #[v, .bool (look a qs).isSome] else v) w ∧ Row w N0 ok v ((look a qs).getD []) := by
  have hk := run_check (w := w) ha es.isEmpty
  rcases run_find h hn ha with ⟨hf, hl⟩ | ⟨j, e, b, hf, h1, h2, h3, hl, hR⟩
  · refine ⟨.slice none 0 0, ?_, ?_⟩
    · simp [Instr.lookup, run_underlying Try.underlying100, MapKept.run_getObj_map hm, hk, hf, run_zero, hl, Result.andThen]
    · rw [hl]; exact Row.nil _ _ _
  · refine ⟨e.val, ?_, ?_⟩
    · simp [Instr.lookup, run_underlying Try.underlying100, MapKept.run_getObj_map hm, hk, hf, hl, Result.andThen]
    · rw [hl]; exact hR
def put (a : Adr) (b : List Int) : List (Adr × List Int) → List (Adr × List Int)
  | [] => [(a, b)]
  | q :: qs => if q.1 = a then (a, b) :: qs else q :: put a b qs
def del (a : Adr) : List (Adr × List Int) → List (Adr × List Int)
  | [] => []
  | q :: qs => if q.1 = a then qs else q :: del a qs
theorem look_put (a c : Adr) (b : List Int) : ∀ qs, look c (put a b qs) = if c = a then some b else look c qs
  | [] => by
    unfold put look
    by_cases h : c = a
    · rw [if_pos h, if_pos h.symm]
    · rw [if_neg h, if_neg (fun e => h e.symm)]
      rfl
  | q :: qs => by
    unfold put
    by_cases h : q.1 = a
    · rw [if_pos h]
      unfold look
      by_cases h2 : c = a
      · rw [if_pos h2, if_pos h2.symm]
      · rw [if_neg h2, if_neg (fun e => h2 e.symm), if_neg (fun e => h2 (by rw [← h, e]))]
    · rw [if_neg h]
      unfold look
      by_cases h2 : q.1 = c
      · rw [if_pos h2, if_pos h2, if_neg (fun e => h (by rw [h2, e]))]
      · rw [if_neg h2, if_neg h2]
        exact look_put a c b qs
theorem put_keys {a : Adr} {b : List Int} {q : Adr × List Int} : ∀ {qs : List (Adr × List Int)}, q ∈ put a b qs → q = (a, b) ∨ q ∈ qs
  | [], h => by
    unfold put at h
    simp at h
    exact .inl h
  | p :: qs, h => by
    unfold put at h
    split at h
    · rcases List.mem_cons.1 h with h | h
      · exact .inl h
      · exact .inr (by simp [h])
    · rcases List.mem_cons.1 h with h | h
      · exact .inr (by simp [h])
      · rcases put_keys h with h | h
        · exact .inl h
        · exact .inr (by simp [h])
theorem nodup_put {a : Adr} {b : List Int} : ∀ {qs : List (Adr × List Int)}, Nodup qs → Nodup (put a b qs)
  | [], _ => by unfold put Nodup; simp
  | q :: qs, h => by
    obtain ⟨h1, h2⟩ := List.pairwise_cons.1 h
    unfold put
    split
    · rename_i he
      exact List.pairwise_cons.2 ⟨fun y hy => he ▸ h1 y hy, h2⟩
    · rename_i he
      refine List.pairwise_cons.2 ⟨fun y hy => ?_, nodup_put h2⟩
      rcases put_keys hy with rfl | hy
      · exact he
      · exact h1 y hy
theorem del_mem {a : Adr} {q : Adr × List Int} : ∀ {qs : List (Adr × List Int)}, q ∈ del a qs → q ∈ qs
  | [], h => h
  | p :: qs, h => by
    unfold del at h
    split at h
    · simp [h]
    · rcases List.mem_cons.1 h with h | h
      · simp [h]
      · simp [del_mem h]
theorem nodup_del {a : Adr} : ∀ {qs : List (Adr × List Int)}, Nodup qs → Nodup (del a qs)
  | [], h => h
  | q :: qs, h => by
    obtain ⟨h1, h2⟩ := List.pairwise_cons.1 h
    unfold del
    split
    · exact h2
    · exact List.pairwise_cons.2 ⟨fun y hy => h1 y (del_mem hy), nodup_del h2⟩
theorem look_none_of {c : Adr} : ∀ {qs : List (Adr × List Int)}, (∀ q ∈ qs, q.1 ≠ c) → look c qs = none
  | [], _ => rfl
  | q :: qs, h => by
    unfold look
    rw [if_neg (h q (by simp))]
    exact look_none_of (fun y hy => h y (by simp [hy]))
theorem look_del (a c : Adr) : ∀ {qs : List (Adr × List Int)}, Nodup qs → look c (del a qs) = if c = a then none else look c qs
  | [], _ => by unfold del look; simp
  | q :: qs, h => by
    obtain ⟨h1, h2⟩ := List.pairwise_cons.1 h
    unfold del
    by_cases he : q.1 = a
    · rw [if_pos he]
      by_cases hc : c = a
      · rw [if_pos hc]
        exact look_none_of (fun y hy => by rw [hc, ← he]; exact (h1 y hy).symm)
      · rw [if_neg hc]
        show _ = (if q.1 = c then some q.2 else look c qs)
        rw [if_neg (fun e => hc (by rw [← e, he]))]
    · rw [if_neg he]
      unfold look
      by_cases hc : q.1 = c
      · rw [if_pos hc, if_pos hc, if_neg (fun e => he (by rw [hc, e]))]
      · rw [if_neg hc, if_neg hc]
        exact look_del a c h2
theorem ents_push {N0 : Nat} {ok : Nat → Prop} {w : World} {e : MapEntry} {q : Adr × List Int} (he : e.key = kv q.1 ∧ InR q.1 ∧ Row w N0 ok e.val q.2) : ∀ {es : List MapEntry} {qs : List (Adr × List Int)}, Ents N0 ok w es qs → Ents N0 ok w (es ++ [e]) (qs ++ [q])
  | [], [], _ => ⟨he, trivial⟩
  | _ :: _, _ :: _, ⟨h1, h4⟩ => ⟨h1, ents_push he h4⟩
  | [], _ :: _, h => h.elim
  | _ :: _, [], h => h.elim
theorem put_new {a : Adr} {b : List Int} : ∀ {qs : List (Adr × List Int)}, look a qs = none → put a b qs = qs ++ [(a, b)]
  | [], _ => rfl
  | q :: qs, h => by
    unfold look at h
    split at h
    · cases h
    · rename_i he
      unfold put
      rw [if_neg he, put_new h]
      rfl
theorem ents_set {N0 : Nat} {ok : Nat → Prop} {w : World} {e : MapEntry} {a : Adr} {b b0 : List Int} (he : e.key = kv a ∧ InR a ∧ Row w N0 ok e.val b) : ∀ {es : List MapEntry} {qs : List (Adr × List Int)}, Ents N0 ok w es qs → Nodup qs → ∀ {j : Nat}, qs[j]? = some (a, b0) → Ents N0 ok w (es.set j e) (put a b qs)
  | [], [], _, _, j, h => by simp at h
  | x :: es, q :: qs, ⟨_, h4⟩, _, 0, h => by
    simp at h
    subst h
    unfold put
    rw [if_pos rfl]
    exact ⟨he, h4⟩
  | x :: es, q :: qs, ⟨h1, h4⟩, hn, j + 1, h => by
    rw [List.getElem?_cons_succ] at h
    obtain ⟨n1, n2⟩ := List.pairwise_cons.1 hn
    unfold put
    rw [if_neg (n1 _ (List.mem_of_getElem? h))]
    exact ⟨h1, ents_set he h4 n2 h⟩
  | [], _ :: _, h, _, _, _ => h.elim
  | _ :: _, [], h, _, _, _ => h.elim
theorem ents_erase {N0 : Nat} {ok : Nat → Prop} {w : World} {a : Adr} {b0 : List Int} : ∀ {es : List MapEntry} {qs : List (Adr × List Int)}, Ents N0 ok w es qs → Nodup qs → ∀ {j : Nat}, qs[j]? = some (a, b0) → Ents N0 ok w (es.eraseIdx j) (del a qs)
  | [], [], _, _, j, h => by simp at h
  | x :: es, q :: qs, ⟨_, h4⟩, _, 0, h => by
    simp at h
    subst h
    unfold del
    rw [if_pos rfl]
    exact h4
  | x :: es, q :: qs, ⟨h1, h4⟩, hn, j + 1, h => by
    rw [List.getElem?_cons_succ] at h
    obtain ⟨n1, n2⟩ := List.pairwise_cons.1 hn
    unfold del
    rw [if_neg (n1 _ (List.mem_of_getElem? h))]
    exact ⟨h1, ents_erase h4 n2 h⟩
  | [], _ :: _, h, _, _, _ => h.elim
  | _ :: _, [], h, _, _, _ => h.elim
theorem del_none {a : Adr} : ∀ {qs : List (Adr × List Int)}, look a qs = none → del a qs = qs
  | [], _ => rfl
  | q :: qs, h => by
    unfold look at h
    split at h
    · cases h
    · rename_i he
      unfold del
      rw [if_neg he, del_none h]
/-- The map's block is another one; nothing else has turned. -/
def putMap (w : World) (m : Nat) (es : Array MapEntry) (ck : Nat) : World := ChangeMaps.setBlock w m (.map es ck)
theorem putMap_same {w : World} {m : Nat} {o : Obj} (h : w.heap[m]? = some o) (es : Array MapEntry) (ck : Nat) : (putMap w m es ck).heap[m]? = some (.map es ck) := by
  have := blt h
  simp [putMap, ChangeMaps.setBlock, this]
theorem putMap_other (w : World) {m k : Nat} (hk : k ≠ m) (es : Array MapEntry) (ck : Nat) : (putMap w m es ck).heap[k]? = w.heap[k]? := by
  simp [putMap, ChangeMaps.setBlock, Array.getElem?_setIfInBounds, Ne.symm hk]
theorem putMap_upd {S : Nat → Prop} (w : World) {m : Nat} (hm : S m) (es : Array MapEntry) (ck : Nat) : Upd S w (putMap w m es ck) :=
  ⟨rfl, rfl, rfl, by simp [putMap, ChangeMaps.setBlock], fun k _ hn => putMap_other w (fun e => hn (by rw [e]; exact hm)) es ck⟩
theorem putMap_size (w : World) (m : Nat) (es : Array MapEntry) (ck : Nat) : (putMap w m es ck).heap.size = w.heap.size := by simp [putMap, ChangeMaps.setBlock]
theorem R_putMap {w : World} {m N0 e : Nat} {ok : Nat → Prop} {α : Type} {d : Kd α} {v : Value} {xs : List α} (hm : ∃ es ck, w.heap[m]? = some (.map es ck)) (h : d.R e w N0 ok v xs) (es : Array MapEntry) (ck : Nat) : d.R e (putMap w m es ck) N0 ok v xs := by
  obtain ⟨es0, ck0, hm⟩ := hm
  refine Kd.R_mono (Kd.R_move (Kd.R_bound h) (fun k hk => putMap_other w ?_ es ck)) (fun _ hk => hk.1)
  rintro rfl
  obtain ⟨_, _, _, q, _, cs, hc⟩ := hk
  rw [hc] at hm
  cases hm
theorem Row_putMap {w : World} {m N0 : Nat} {ok : Nat → Prop} {v : Value} {xs : List Int} (hm : ∃ es ck, w.heap[m]? = some (.map es ck)) (h : Row w N0 ok v xs) (es : Array MapEntry) (ck : Nat) : Row (putMap w m es ck) N0 ok v xs := by
  obtain ⟨es0, ck0, hm⟩ := hm
  refine Row.mono (Row.move (Row.bound h) (fun k hk => putMap_other w ?_ es ck)) (fun _ hk => hk.1)
  rintro rfl
  obtain ⟨_, _, _, q, _, cs, hc⟩ := hk
  rw [hc] at hm
  cases hm
theorem run_update {N0 : Nat} {ok : Nat → Prop} {w : World} {m : Nat} {es : Array MapEntry} {ck : Nat} {qs : List (Adr × List Int)} (hm : w.heap[m]? = some (.map es ck)) (h : Ents N0 ok w es.toList qs) (hn : Nodup qs) {a : Adr} (ha : InR a)
    {v : Value} {b : List Int} (hv : Row w N0 ok v b) :
    ∃ es' ck', (Instr.mapUpdate TM (.map (some m)) (kv a) v).run Try.prog w = .ok () (putMap w m es' ck') ∧ Ents N0 ok (putMap w m es' ck') es'.toList (put a b qs) := by
  have hk := run_check (w := w) ha false
  obtain ⟨l, hl⟩ := keyOf_addr ha
  rcases run_find h hn ha with ⟨hf, hl⟩ | ⟨j, e, b0, hf, h1, h2, h3, _, hR⟩
  · refine ⟨es.push ⟨kv a, v, ck⟩, ck + 1, ?_, ?_⟩
    · simp [Instr.mapUpdate, run_underlying Try.underlying100, MapKept.run_getObj_map hm, hk, hf, MapKept.run_setObj_map _ hm, Result.andThen, putMap, ChangeMaps.setBlock]
    · rw [put_new hl, Array.toList_push]
      exact Ents.imp (fun _ _ hr => Row_putMap ⟨_, _, hm⟩ hr _ _) (ents_push ⟨rfl, ha, hv⟩ h)
  · have hj : es[j]? = some e := by simpa using h1
    have hst := addr_law.stays w hl
    refine ⟨es.modify j (fun e' => { e' with key := kv a, val := v }), ck, ?_, ?_⟩
    · simp [Instr.mapUpdate, run_underlying Try.underlying100, MapKept.run_getObj_map hm, hk, hf, hj, h2, hst, MapKept.run_setObj_map _ hm, Result.andThen, putMap, ChangeMaps.setBlock]
    · have hlist : (es.modify j (fun e' => { e' with key := kv a, val := v })).toList = es.toList.set j { e with key := kv a, val := v } := by rw [Array.toList_modify, ChangeMaps.modify_eq_set _ _ _ _ h1]
      rw [hlist]
      exact Ents.imp (fun _ _ hr => Row_putMap ⟨_, _, hm⟩ hr _ _) (ents_set ⟨rfl, ha, hv⟩ h hn h3)
theorem run_delete {N0 : Nat} {ok : Nat → Prop} {w : World} {m : Nat} {es : Array MapEntry} {ck : Nat} {qs : List (Adr × List Int)} (hm : w.heap[m]? = some (.map es ck)) (h : Ents N0 ok w es.toList qs) (hn : Nodup qs) {a : Adr} (ha : InR a) (ty : TypeId) :
    ∃ es' ck', (Builtin.delete_ #[TM, TA] ty #[.map (some m), kv a]).run Try.prog w = .ok (.tuple #[]) (putMap w m es' ck') ∧ Ents N0 ok (putMap w m es' ck') es'.toList (del a qs) := by
  have hk := run_check (w := w) ha es.isEmpty
  rcases run_find h hn ha with ⟨hf, hl⟩ | ⟨j, e, b0, hf, h1, h2, h3, _, hR⟩
  · refine ⟨es, ck, ?_, ?_⟩
    · simp [Builtin.delete_, run_underlying Try.underlying100, MapKept.run_getObj_map hm, hk, hf, MapKept.run_setObj_map _ hm, Result.andThen, putMap, ChangeMaps.setBlock]
    · rw [del_none hl]
      exact Ents.imp (fun _ _ hr => Row_putMap ⟨_, _, hm⟩ hr _ _) h
  · refine ⟨es.eraseIdxIfInBounds j, ck, ?_, ?_⟩
    · simp [Builtin.delete_, run_underlying Try.underlying100, MapKept.run_getObj_map hm, hk, hf, MapKept.run_setObj_map _ hm, Result.andThen, putMap, ChangeMaps.setBlock]
    · rw [Array.toList_eraseIdxIfInBounds]
      exact Ents.imp (fun _ _ hr => Row_putMap ⟨_, _, hm⟩ hr _ _) (ents_erase h hn h3)
end Go.Proofs.Ytmbiebdcnadhkaa.Fl

/- The device's small functions, walked. No condition. -/
namespace Go.Proofs.Ytmbiebdcnadhkaa.Fl
open Go.RowKit Go.Proofs.YtmbiebdcnadhkaaW.PrintWords Go.Maps
set_option linter.unusedSimpArgs false
set_option linter.unusedVariables false
def fitsB (a b c : Int) : Bool := decide (b ≤ a ∧ a ≤ c)
set_option maxHeartbeats 400000 in
theorem Fits_any (a b c : Int) (w : World) : Calls Try.prog 59 #[.int .i64 a, .int .i64 b, .int .i64 c] w fun e w' => e = .returned (.bool (fitsB a b c)) ∧ w = w' := by
  by_cases h1 : b ≤ a
  · go_enter Try.func59, Try.ntmps59
    go_wp2
    all_goals (try go_ret)
    exact ⟨by simp [fitsB, h1], rfl⟩
  · have hd : decide (b ≤ a) = false := by simpa using h1
    go_enter Try.func59, Try.ntmps59
    go_wp2
    all_goals (try go_ret)
    exact ⟨by simp [fitsB]; omega, rfl⟩
set_option maxHeartbeats 400000 in
set_option maxRecDepth 100000 in
theorem ok_blk {w : World} {p : Nat} {c0 c1 c2 v : Value} {m : Nat} (hp : w.heap[p]? = some (.cells #[c0, c1, c2, .map (some m), v] TD (0, 0))) :
    Calls Try.prog 53 #[.pointer (some ⟨p, 0, none⟩)] w fun e w' => e = .returned (.bool true) ∧ w = w' := by
  have hc : w.cell? ⟨p, 3, none⟩ = some (.map (some m)) := bcell hp 3
  have nm := fun (w : World) (r : Option Nat) => run_neq_map_nil (P := Try.prog) w TM TA 36 r Try.underlying100
  clear hp
  go_enter Try.func53, Try.ntmps53
  go_wp2
  go_ret
  exact ⟨rfl, rfl⟩
set_option maxHeartbeats 400000 in
theorem ok_nil (w : World) : Calls Try.prog 53 #[.pointer none] w fun e w' => e = .returned (.bool false) ∧ w = w' := by
  go_enter Try.func53, Try.ntmps53
  go_wp2
  go_ret
  exact ⟨rfl, rfl⟩
def hasB (s : Int × Int × Int) (a b : Int) : Bool := fitsB a 0 (s.1 - 1) && fitsB b 0 (s.2.1 - 1)
def hasE (s : Int × Int × Int) (a b : Int) : Int := if hasB s a b then 0 else 6
theorem hasB_inr {s : Int × Int × Int} (hs : ShapeOk s) {a b : Int} (h : hasB s a b = true) : InR (a, b) := by
  have := hs.a1; have := hs.b1
  simp [hasB, fitsB] at h
  exact ⟨by simp; omega, by simp; omega, by simp; omega, by simp; omega⟩
set_option maxHeartbeats 400000 in
set_option maxRecDepth 100000 in
theorem has_blk {w : World} {p : Nat} {s : Int × Int × Int} {v : Value} {m : Nat} (hs : ShapeOk s) (hp : w.heap[p]? = some (.cells #[.int .i64 s.1, .int .i64 s.2.1, .int .i64 s.2.2, .map (some m), v] TD (0, 0))) (a b : Int) :
    Calls Try.prog 91 #[.pointer (some ⟨p, 0, none⟩), .int .i64 a, .int .i64 b] w fun e w' => e = .returned (.int .i64 (hasE s a b)) ∧ w = w' := by
  obtain ⟨s1, s2, s3⟩ := s
  have h1 := hs.a0; have h2 := hs.a1; have h3 := hs.b0; have h4 := hs.b1
  clear hs
  simp only at h1 h2 h3 h4
  have hc0 : w.cell? ⟨p, 0, none⟩ = some (.int .i64 s1) := bcell hp 0
  have hc1 : w.cell? ⟨p, 1, none⟩ = some (.int .i64 s2) := bcell hp 1
  have hP := Lib.hid hp
  clear hp
  cases e1 : fitsB a 0 (s1 - 1) with
  | true =>
    cases e2 : fitsB b 0 (s2 - 1) with
    | true =>
      have E3 := Lib.hid (show hasE (s1, s2, s3) a b = 0 by simp [hasE, hasB, e1, e2])
      go_enter Try.func91, Try.ntmps91
      go_wp2_with (first | (go_at_call 53; ((with_reducible refine (ok_blk hP.out).mono ?_); rintro e w' ⟨rfl, rfl⟩)) | (go_at_call 59; ((with_reducible refine (Fits_any _ _ _ _).mono ?_); rintro e w' ⟨rfl, rfl⟩)))
      go_ret
      exact ⟨by rw [E3.out]; rfl, rfl⟩
    | false =>
      have E3 := Lib.hid (show hasE (s1, s2, s3) a b = 6 by simp [hasE, hasB, e1, e2])
      go_enter Try.func91, Try.ntmps91
      go_wp2_with (first | (go_at_call 53; ((with_reducible refine (ok_blk hP.out).mono ?_); rintro e w' ⟨rfl, rfl⟩)) | (go_at_call 59; ((with_reducible refine (Fits_any _ _ _ _).mono ?_); rintro e w' ⟨rfl, rfl⟩)))
      go_ret
      exact ⟨by rw [E3.out]; rfl, rfl⟩
  | false =>
      have E3 := Lib.hid (show hasE (s1, s2, s3) a b = 6 by simp [hasE, hasB, e1])
      go_enter Try.func91, Try.ntmps91
      go_wp2_with (first | (go_at_call 53; ((with_reducible refine (ok_blk hP.out).mono ?_); rintro e w' ⟨rfl, rfl⟩)) | (go_at_call 59; ((with_reducible refine (Fits_any _ _ _ _).mono ?_); rintro e w' ⟨rfl, rfl⟩)))
      go_ret
      exact ⟨by rw [E3.out]; rfl, rfl⟩
theorem Shape_blk {w : World} {p : Nat} {s : Int × Int × Int} {v : Value} {m : Nat} (hp : w.heap[p]? = some (.cells #[.int .i64 s.1, .int .i64 s.2.1, .int .i64 s.2.2, .map (some m), v] TD (0, 0))) :
    Calls Try.prog 56 #[.pointer (some ⟨p, 0, none⟩)] w fun e w' => e = .returned (.agg #[.int .i64 s.1, .int .i64 s.2.1, .int .i64 s.2.2]) ∧ Below w.heap.size w w' := by
  have hc0 : w.cell? ⟨p, 0, none⟩ = some (.int .i64 s.1) := bcell hp 0
  have hc1 : w.cell? ⟨p, 1, none⟩ = some (.int .i64 s.2.1) := bcell hp 1
  have hc2 : w.cell? ⟨p, 2, none⟩ = some (.int .i64 s.2.2) := bcell hp 2
  have hl := blt hp
  have hP := Lib.hid hp
  clear hp
  go_enter Try.func56, Try.ntmps56
  go_wp2_with (first | (go_at_call 53; (refine (ok_blk ((Below.heap_alloc _ _ _ hl).trans hP.out)).mono ?_; rintro e w' ⟨rfl, rfl⟩)))
  exact bodyPost_ret (v := .agg #[.int .i64 s.1, .int .i64 s.2.1, .int .i64 s.2.2]) (by simp [results, Try.results56, go_sem]) rfl ⟨rfl, by repeat' (first | exact Below.refl _ _ | refine Below.setCell ?_ (Nat.le_refl _) _ | refine Below.alloc ?_ (Nat.le_refl _) _)⟩
end Go.Proofs.Ytmbiebdcnadhkaa.Fl

/- bytes.Repeat of one byte, walked. No condition. -/
namespace Go.Proofs.Ytmbiebdcnadhkaa.Fl
open Go.RowKit Go.Proofs.YtmbiebdcnadhkaaW.PrintWords Go.Proofs.YtmbiebdcnadhkaaW.PrintMore Go.Maps
set_option linter.unusedSimpArgs false
set_option linter.unusedVariables false
theorem and_mask (n : Nat) (h : n < 4294967296) : Go.bits .and .u64 (n : Int) 4294967295 = (n : Int) := by
  have h2 := bits_and_u64_nat n 4294967295 (by omega) (by omega)
  have h3 : n &&& 4294967295 = n := by
    have := Nat.and_two_pow_sub_one_eq_mod n 32
    rw [show (2 : Nat) ^ 32 - 1 = 4294967295 from rfl] at this
    exact this.trans (Nat.mod_eq_of_lt h)
  rw [h3] at h2
  exact h2
set_option maxHeartbeats 1000000 in
set_option maxRecDepth 100000 in
theorem Mul64_one (n : Nat) (h : n ≤ 8192) (w : World) : Calls Try.prog 140 #[.int .u64 1, .int .u64 (n : Int)] w fun e w' => e = .returned (.tuple #[.int .u64 0, .int .u64 (n : Int)]) ∧ w = w' := by
  have ha := and_mask n (by omega)
  have h0 : (n : Int) / 4294967296 = 0 := by omega
  have h1 : Go.bits .and .u64 1 4294967295 = 1 := by decide
  have h2 : Go.bits .and .u64 0 4294967295 = 0 := by decide
  have hz : (0 : Int) ≤ n := by omega
  have hn : (n : Int) ≤ 8192 := by omega
  go_enter Try.func140, Try.ntmps140
  go_wp2
  go_ret2
  exact ⟨rfl, rfl⟩
set_option maxHeartbeats 1000000 in
set_option maxRecDepth 100000 in
theorem Mul_one (n : Nat) (h : n ≤ 8192) (w : World) : Calls Try.prog 120 #[.int .u64 1, .int .u64 (n : Int)] w fun e w' => e = .returned (.tuple #[.int .u64 0, .int .u64 (n : Int)]) ∧ w = w' := by
  go_enter Try.func120, Try.ntmps120
  go_wp2_with (go_at_call 140; ((with_reducible refine (Mul64_one n h _).mono ?_); rintro e w' ⟨rfl, rfl⟩))
  go_ret2
  exact ⟨rfl, rfl⟩
theorem size_u8 : (Try.prog.info? TB).map (·.size) = some 1 := by kernel_rfl
/-- The cells of a row that holds 255 k times. -/
def ff (k : Nat) : List Value := List.replicate k (.int .u8 255)
theorem ff_get {k j : Nat} {v : Value} (h : (ff k)[j]? = some v) : v = .int .u8 255 ∧ j < k := by
  unfold ff at h
  rw [List.getElem?_replicate] at h
  split at h
  · exact ⟨(Option.some.inj h).symm, by assumption⟩
  · cases h
theorem ff_one (k : Nat) : ∀ v ∈ ff k, v.oneCell' = true := by
  intro v hv
  rw [List.eq_of_mem_replicate hv]
  rfl
theorem splice_ff {cur : List Value} {k m : Nat} (hl : k + m ≤ cur.length) (h : cur.take k = ff k) : (splice cur k (ff m)).take (k + m) = ff (k + m) ∧ (splice cur k (ff m)).length = cur.length := by
  have hm : (ff m).length = m := by simp [ff]
  refine ⟨?_, length_splice _ _ _ (by rw [hm]; exact hl)⟩
  unfold splice
  rw [← List.append_assoc, List.take_append_of_le_length (by simp [hm]; omega), h, List.take_of_length_le (by simp [ff])]
  simp [ff]
theorem cells_ff {w : World} {g : Nat} {cur : List Value} {k : Nat} (hg : w.heap[g]? = some (.cells cur.toArray TB (0, 0))) (h : cur.take k = ff k) (m : Nat) (hm : m ≤ k) : ∀ j v, (ff m)[j]? = some v → w.cell? ((⟨g, 0, none⟩ : Addr).add j) = some v := by
  intro j v hv
  obtain ⟨rfl, hj⟩ := ff_get hv
  rw [Addr.add_lit, bcell hg]
  have h2 : (cur.take k)[j]? = some (.int .u8 255) := by rw [h, ff, List.getElem?_replicate, if_pos (by omega)]
  rw [List.getElem?_take, if_pos (by omega)] at h2
  simpa using h2
theorem blt_of_cell {w : World} {a : Addr} {v : Value} (h : w.cell? a = some v) : a.block < w.heap.size := World.block_lt_of_cell? w a h
attribute [local go_sem] min_two min2_int
set_option maxHeartbeats 1000000 in
set_option maxRecDepth 100000 in
theorem Repeat_any (b n : Nat) (w : World) (hb : w.cell? ⟨b, 0, none⟩ = some (.int .u8 255)) (h0 : 1 ≤ n) (h1 : n ≤ 8192) :
    Calls Try.prog 99 #[.slice (some ⟨b, 0, none⟩) 1 1, .int .i64 (n : Int)] w fun e w' => ∃ g cur, e = .returned (.slice (some ⟨g, 0, none⟩) n n) ∧ w.heap.size ≤ g ∧ w'.heap[g]? = some (.cells (cur : List Value).toArray TB (0, 0)) ∧ cur.take n = ff n ∧ n ≤ cur.length ∧ Below w.heap.size w w' := by
  obtain ⟨cs, hrunM, hle, hmax⟩ := Lib.run_makeNoZero (P := Try.prog) w #[3] 36 TB Try.underlying36 n (by omega)
  have hcall : (callFunc 121 #[.int .i64 (n : Int)]).run Try.prog w = .ok (.value (.slice (some ⟨w.heap.size, 0, none⟩) n cs.size)) ((w.alloc (.cells cs TB)).drewN 2) := by
    rw [run_callFunc_extern Try.func121 (by kernel_rfl) (by kernel_rfl) (by kernel_rfl) (e := Extern.BytealgMakeNoZero.makeNoZero #[3] #[36]) (by kernel_rfl), hrunM]
    rfl
  clear hrunM
  have i0 : (1 : Int) ≤ (n : Int) := by omega
  have i1 : (n : Int) ≤ 8192 := by omega
  have i2 : (n : Int) ≤ (cs.size : Int) := by omega
  have e1 : ((n : Int) == 0) = false := by simp; omega
  go_enter Try.func99, Try.ntmps99
  have hlt := blt_of_cell hb
  have HC0 : Hid ((((w.alloc (.cells cs TB)).drewN 2)).heap[w.heap.size]? = some (.cells cs.toList.toArray TB (0, 0))) := Lib.hid (by rw [Array.toArray_toList]; exact blk_new w _)
  have HS0 : Hid (∀ j v, (ff 1)[j]? = some v → ((w.alloc (.cells cs TB)).drewN 2).cell? ((⟨b, 0, none⟩ : Addr).add j) = some v) := Lib.hid (fun j v hv => by
    obtain ⟨rfl, hj⟩ := ff_get hv
    obtain rfl : j = 0 := by omega
    rw [Addr.add_lit]
    exact (World.cell?_alloc_lt w _ _ hlt).trans hb)
  have HB0 : Aside0 (Below w.heap.size w ((w.alloc (.cells cs TB)).drewN 2)) := Aside0.mk (pw_below_drewN (below_alloc (Below.refl _ _) _) 2)
  go_wp2_with (first | (go_at_call 120; ((with_reducible refine (Mul_one n h1 _).mono ?_); rintro e w' ⟨rfl, rfl⟩)) | ((with_reducible refine gate_builtin (b := .copy) rfl ?_); refine wpList_copy_splice rfl (.tmp 58) (.tmp 59) 36 36 rfl TB Try.underlying36 size_u8 _ _ _ _ _ _ rfl rfl w.heap.size 0 cs.toList TB HC0.out (ff 1) (by simp [ff, Nat.min_eq_left h0]) (fun _ => ⟨rfl, _, rfl, HS0.out⟩) (by simp [ff]; omega) (ff_one 1) w.heap.size w HB0.out (Nat.le_refl _) ?_; intro w2 hg2 hb2))
  clear HC0 HS0 HB0 hcall
  have hsp := splice_ff (cur := cs.toList) (k := 0) (m := 1) (by simp; omega) rfl
  have HB2 := Aside0.mk hb2
  have HG2 := Lib.hid (⟨_, hg2.out, hsp.1, by rw [hsp.2]; simpa using hle⟩ : ∃ cur, w2.heap[w.heap.size]? = some (.cells (cur : List Value).toArray TB (0, 0)) ∧ cur.take (0 + 1) = ff (0 + 1) ∧ n ≤ cur.length)
  clear hg2 hb2 hsp
  go_loopw [10, 11] (fun v10 v11 wr => ∃ k : Nat, v10 = .int .i64 (k : Int) ∧ 1 ≤ k ∧ k ≤ n ∧ (∃ cur, wr.heap[w.heap.size]? = some (.cells (cur : List Value).toArray TB (0, 0)) ∧ cur.take k = ff k ∧ n ≤ cur.length) ∧ Below w.heap.size w wr) (fun v10 _ _ => n - (intOf v10).toNat)
  case atStart => exact ⟨1, rfl, Nat.le_refl _, h0, HG2.out, HB2.out⟩
  case round =>
    obtain ⟨k, rfl, hk1, hk2, ⟨cur, hg, ht, hl⟩, hb3⟩ := hrel
    have HG := Lib.hid hg
    have HT := Lib.hid ht
    have HB3 := Aside0.mk hb3
    clear hg ht hb3
    have j0 : (1 : Int) ≤ (k : Int) := by omega
    have j1 : (k : Int) ≤ (n : Int) := by omega
    by_cases hlt : k < n
    · have j2 : (k : Int) < (n : Int) := by omega
      have j3 : ¬ (n = k) := by omega
      have HD : Hid (∀ W : World, W.heap[w.heap.size]? = some (.cells cur.toArray TB (0, 0)) → ∀ j v, (ff (min k (n - k)))[j]? = some v → W.cell? ((⟨w.heap.size, 0, none⟩ : Addr).add j) = some v) := Lib.hid (fun W hW => cells_ff hW HT.out _ (Nat.min_le_left _ _))
      have hm : (ff (min k (n - k))).length = min k (n - k) := by simp [ff]
      have HM := Lib.hid hm
      obtain ⟨K2, hK2⟩ : ∃ K2, K2 = k + min k (n - k) := ⟨_, rfl⟩
      have hwr : IntKind.i64.wrap ((k : Int) + ((ff (min k (n - k))).length : Int)) = (K2 : Int) := by
        rw [hm, IntWalk.i64_in _ (by omega)]
        omega
      have HK2 := Lib.hid hK2
      clear hm hK2
      go_wp2
      go_region_law (refine step_copy_splice rfl (.tmp 70) (.tmp 73) 36 36 rfl TB Try.underlying36 size_u8 (some ⟨w.heap.size, k, none⟩) (some ⟨w.heap.size, 0, none⟩) (n - k) (n - k) k n (by simp [Act.eval, Act.put]) (by simp [Act.eval, Act.put]) w.heap.size k cur TB HG.out (ff (min k (n - k))) HM.out (fun _ => ⟨rfl, _, rfl, HD.out _ HG.out⟩) (by rw [HM.out]; omega) (ff_one _) w.heap.size w HB3.out.drew (Nat.le_refl _) ?_; intro w4 hg4 hb4)
      have hsp := splice_ff (cur := cur) (k := k) (m := min k (n - k)) (by omega) HT.out
      have HB4 := Aside0.mk hb4
      have HG4 := hg4
      clear hg4 hb4
      simp [Act.put, hwr]
      clear hwr
      go_wp2
      have hK2 := HK2.out
      go_roundw
      case rel => exact ⟨K2, rfl, by omega, by omega, ⟨_, HG4.out, by rw [hK2]; exact hsp.1, by rw [hsp.2]; exact hl⟩, HB4.out⟩
      case measure => simp [intOf]; omega
    · obtain rfl : k = n := by omega
      go_wp2
      go_ret
      exact ⟨_, _, rfl, Nat.le_refl _, HG.out, HT.out, hl, HB3.out⟩
/-- Bytes, with what is erased behind them. -/
def full (n : Nat) (b : List Int) : List Int := b ++ List.replicate (n - b.length) 255
/-- What copy lays over a row of 255. -/
theorem splice_full {cur : List Value} {n : Nat} {b : List Int} (hl : n ≤ cur.length) (h : cur.take n = ff n) (hb : b.length ≤ n) :
    (splice cur 0 (b.map (Value.int .u8))).length = cur.length ∧ ∀ j x, (full n b)[j]? = some x → (splice cur 0 (b.map (Value.int .u8))).toArray[0 + j]? = some (.int .u8 x) := by
  refine ⟨length_splice _ _ _ (by simp; omega), fun j x hj => ?_⟩
  rw [Nat.zero_add]
  simp only [List.getElem?_toArray, splice, List.take_zero, List.nil_append, List.length_map, Nat.zero_add]
  unfold full at hj
  rcases Nat.lt_or_ge j b.length with hlt | hge
  · rw [List.getElem?_append_left hlt] at hj
    rw [List.getElem?_append_left (by simpa using hlt), List.getElem?_map, hj]
    rfl
  · rw [List.getElem?_append_right hge, List.getElem?_replicate] at hj
    split at hj
    · rename_i h2
      rw [List.getElem?_append_right (by simpa using hge), List.getElem?_drop, List.length_map, show b.length + (j - b.length) = j by omega]
      have h3 : (cur.take n)[j]? = some (.int .u8 255) := by rw [h, ff, List.getElem?_replicate, if_pos (by omega)]
      rw [List.getElem?_take, if_pos (by omega)] at h3
      rw [h3]
      rw [← Option.some.inj hj]
    · cases hj
theorem full_length {n : Nat} {b : List Int} (h : b.length ≤ n) : (full n b).length = n := by simp [full]; omega
/-- The cells of bytes that are read. -/
theorem C_cells {w : World} {A : Option Addr} {l : List Int} (h : kB.C w A l.length l) (h0 : 0 < l.length) : ∃ ad, A = some ad ∧ ∀ j v, (l.map (Value.int .u8))[j]? = some v → w.cell? (ad.add j) = some v := by
  obtain ⟨ad, e, hc⟩ := (Kd.reads_of_C (d := (0 : Int)) h).2.2 h0
  refine ⟨ad, e, fun j v hj => ?_⟩
  rw [List.getElem?_map] at hj
  obtain ⟨x, hx, rfl⟩ := Option.map_eq_some_iff.1 hj
  have hl := (List.getElem?_eq_some_iff.1 hx).1
  have := hc j hl
  rwa [List.getD_eq_getElem?_getD, hx] at this
theorem u8_one (l : List Int) : ∀ v ∈ l.map (Value.int .u8), v.oneCell' = true := by
  intro v hv
  obtain ⟨x, _, rfl⟩ := List.mem_map.1 hv
  rfl
set_option maxHeartbeats 1000000 in
set_option maxRecDepth 100000 in
/-- filled: a new row that holds the bytes, and 255 behind them. -/
theorem filled_blk {w : World} {p : Nat} {s : Int × Int × Int} {c3 c4 : Value} (hs : ShapeOk s) (hp : w.heap[p]? = some (.cells #[.int .i64 s.1, .int .i64 s.2.1, .int .i64 s.2.2, c3, c4] TD (0, 0))) (A : Option Addr) (c : Nat) (b : List Int) (hb : kB.C w A b.length b) (hlen : b.length ≤ s.2.2.toNat) :
    Calls Try.prog 63 #[.pointer (some ⟨p, 0, none⟩), .slice A b.length c] w fun e w' => ∃ v, e = .returned v ∧ Row w' w.heap.size (fun k => w.heap.size ≤ k) v (full s.2.2.toNat b) ∧ Below w.heap.size w w' := by
  obtain ⟨s1, s2, s3⟩ := s
  have h1 := hs.c0; have h2 := hs.c1
  clear hs
  simp only at h1 h2 hlen hp
  obtain ⟨n, rfl⟩ := Int.eq_ofNat_of_zero_le (show (0 : Int) ≤ s3 by omega)
  simp only [Int.toNat_natCast] at hlen ⊢
  have hl := blt hp
  have hc2 : w.cell? ⟨p, 2, none⟩ = some (.int .i64 (n : Int)) := bcell hp 2
  have HC2 : (w.alloc (.cells #[.int .u8 255] TB)).cell? ⟨p, 2, none⟩ = some (.int .i64 (n : Int)) := (World.cell?_alloc_lt w _ _ hl).trans hc2
  have HB := Aside0.mk hb
  have HM : Hid ((b.map (Value.int .u8)).length = Nat.min b.length n) := Lib.hid (by rw [List.length_map]; exact (Nat.min_eq_left hlen).symm)
  have HA : Hid ((w.alloc (.cells #[.int .u8 255] TB)).cell? ⟨w.heap.size, 0, none⟩ = some (.int .u8 255)) := Lib.hid (by rw [bcell (blk_new w _)]; rfl)
  clear hp hb
  go_enter Try.func63, Try.ntmps63
  go_wp2_with (first | (go_at_call 99; (with_reducible refine (Repeat_any _ n _ HA.out (by omega) (by omega)).mono ?_); rintro e w1 ⟨g, cur, rfl, hg1, hg2, hg3, hg4, hb1⟩; have G1 : Hid (w.heap.size ≤ g) := Lib.hid (by simp at hg1; omega); have G2 := Lib.hid hg2; have G3 := Lib.hid hg3; have G4 := Lib.hid hg4; have HB1 : Aside0 (Below w.heap.size w w1) := Aside0.mk ((below_alloc (Below.refl _ _) _).trans (hb1.mono (by simp))); clear hg1 hg2 hg3 hg4 hb1; clear HC2 HA) | ((with_reducible refine gate_builtin (b := .copy) rfl ?_); refine wpList_copy_splice rfl (.tmp 13) (.tmp 14) 36 36 rfl TB Try.underlying36 size_u8 _ _ _ _ _ _ rfl rfl g 0 cur TB G2.out (b.map (Value.int .u8)) HM.out (fun h0 => ⟨rfl, C_cells (Kd.C_below HB.out HB1.out) (by simpa using h0)⟩) (by have := G4.out; simp; omega) (u8_one b) w.heap.size w HB1.out G1.out ?_; intro w2 hg2 hb2))
  have hb2' := Aside0.mk hb2
  clear hb2
  go_ret
  obtain ⟨h5, h6⟩ := splice_full G4.out G3.out hlen
  refine ⟨_, rfl, ⟨some ⟨g, 0, none⟩, n, ?_, ?_, ?_, .inr ⟨g, 0, _, rfl, G1.out, G1.out, hg2.out, h6⟩⟩, hb2'.out⟩
  · rw [full_length hlen]; rfl
  · rw [full_length hlen]; exact Nat.le_refl _
  · rw [full_length hlen]; omega
end Go.Proofs.Ytmbiebdcnadhkaa.Fl

/- How two found segments are compared: walked. No condition. -/
namespace Go.Proofs.Ytmbiebdcnadhkaa.Fl
open Go.RowKit Go.Proofs.YtmbiebdcnadhkaaW.PrintWords Go.Proofs.YtmbiebdcnadhkaaW.PrintMore Go.Maps
set_option linter.unusedSimpArgs false
set_option linter.unusedVariables false
def cmpI (x y : Int) : Int := if x < y then -1 else if y < x then 1 else 0
set_option maxHeartbeats 1000000 in
set_option maxRecDepth 100000 in
theorem isNaN_u64 (x : Int) (w : World) : Calls Try.prog 113 #[.int .u64 x] w fun e w' => e = .returned (.bool false) ∧ w = w' := by
  have e1 : (x != x) = false := by simp
  go_enter Try.func113, Try.ntmps113
  go_wp2
  go_ret
  exact ⟨rfl, rfl⟩
set_option maxHeartbeats 1000000 in
set_option maxRecDepth 100000 in
theorem isNaN_int (x : Int) (w : World) : Calls Try.prog 114 #[.int .i64 x] w fun e w' => e = .returned (.bool false) ∧ w = w' := by
  have e1 : (x != x) = false := by simp
  go_enter Try.func114, Try.ntmps114
  go_wp2
  go_ret
  exact ⟨rfl, rfl⟩
set_option maxHeartbeats 1000000 in
set_option maxRecDepth 100000 in
theorem Compare_u64 (x y : Int) (w : World) : Calls Try.prog 94 #[.int .u64 x, .int .u64 y] w fun e w' => e = .returned (.int .i64 (cmpI x y)) ∧ w = w' := by
  obtain ⟨c, hc⟩ : ∃ c, c = cmpI x y := ⟨_, rfl⟩
  rw [← hc]
  by_cases h1 : x < y
  · have d1 : decide (x < y) = true := decide_eq_true h1
    obtain rfl : c = -1 := by rw [hc]; exact if_pos h1
    clear hc h1
    go_enter Try.func94, Try.ntmps94
    go_wp2_with (go_at_call 113; (with_reducible refine (isNaN_u64 _ _).mono ?_); rintro e w1 ⟨rfl, rfl⟩)
    go_ret
    exact ⟨rfl, rfl⟩
  · have d1 : decide (x < y) = false := decide_eq_false h1
    by_cases h2 : y < x
    · have d2 : decide (x > y) = true := decide_eq_true h2
      obtain rfl : c = 1 := by rw [hc]; unfold cmpI; rw [if_neg h1, if_pos h2]
      clear hc h1 h2
      go_enter Try.func94, Try.ntmps94
      go_wp2_with (go_at_call 113; (with_reducible refine (isNaN_u64 _ _).mono ?_); rintro e w1 ⟨rfl, rfl⟩)
      go_ret
      exact ⟨rfl, rfl⟩
    · have d2 : decide (x > y) = false := decide_eq_false h2
      obtain rfl : c = 0 := by rw [hc]; unfold cmpI; rw [if_neg h1, if_neg h2]
      clear hc h1 h2
      go_enter Try.func94, Try.ntmps94
      go_wp2_with (go_at_call 113; (with_reducible refine (isNaN_u64 _ _).mono ?_); rintro e w1 ⟨rfl, rfl⟩)
      go_ret
      exact ⟨rfl, rfl⟩
set_option maxHeartbeats 1000000 in
set_option maxRecDepth 100000 in
theorem Compare_int (x y : Int) (w : World) : Calls Try.prog 95 #[.int .i64 x, .int .i64 y] w fun e w' => e = .returned (.int .i64 (cmpI x y)) ∧ w = w' := by
  obtain ⟨c, hc⟩ : ∃ c, c = cmpI x y := ⟨_, rfl⟩
  rw [← hc]
  by_cases h1 : x < y
  · have d1 : decide (x < y) = true := decide_eq_true h1
    obtain rfl : c = -1 := by rw [hc]; exact if_pos h1
    clear hc h1
    go_enter Try.func95, Try.ntmps95
    go_wp2_with (go_at_call 114; (with_reducible refine (isNaN_int _ _).mono ?_); rintro e w1 ⟨rfl, rfl⟩)
    go_ret
    exact ⟨rfl, rfl⟩
  · have d1 : decide (x < y) = false := decide_eq_false h1
    by_cases h2 : y < x
    · have d2 : decide (x > y) = true := decide_eq_true h2
      obtain rfl : c = 1 := by rw [hc]; unfold cmpI; rw [if_neg h1, if_pos h2]
      clear hc h1 h2
      go_enter Try.func95, Try.ntmps95
      go_wp2_with (go_at_call 114; (with_reducible refine (isNaN_int _ _).mono ?_); rintro e w1 ⟨rfl, rfl⟩)
      go_ret
      exact ⟨rfl, rfl⟩
    · have d2 : decide (x > y) = false := decide_eq_false h2
      obtain rfl : c = 0 := by rw [hc]; unfold cmpI; rw [if_neg h1, if_neg h2]
      clear hc h1 h2
      go_enter Try.func95, Try.ntmps95
      go_wp2_with (go_at_call 114; (with_reducible refine (isNaN_int _ _).mono ?_); rintro e w1 ⟨rfl, rfl⟩)
      go_ret
      exact ⟨rfl, rfl⟩
def orI (a b : Int) : Int := if a = 0 then b else a
def OrK (a b : Int) (k : Nat) : Prop := (1 ≤ k → a = 0) ∧ (2 ≤ k → b = 0)
set_option maxHeartbeats 1000000 in
set_option maxRecDepth 100000 in
theorem Or_two {a b : Int} {g : Nat} {w : World} (h0 : w.cell? ⟨g, 0, none⟩ = some (.int .i64 a)) (h1 : w.cell? ⟨g, 1, none⟩ = some (.int .i64 b)) : Calls Try.prog 93 #[.slice (some ⟨g, 0, none⟩) 2 2] w fun e w' => e = .returned (.int .i64 (orI a b)) ∧ w = w' := by
  obtain ⟨c, hc⟩ : ∃ c, c = orI a b := ⟨_, rfl⟩
  rw [← hc]
  have HC := Lib.hid hc
  clear hc
  go_enter Try.func93, Try.ntmps93
  go_wp2
  go_loopw [8] (fun v8 wr => ∃ k : Nat, k ≤ 2 ∧ v8 = .int .i64 (k : Int) ∧ OrK a b k ∧ w = wr) (fun v8 _ => 2 - (intOf v8).toNat)
  case atStart => exact ⟨0, by omega, rfl, ⟨fun h => by omega, fun h => by omega⟩, rfl⟩
  case round =>
    obtain ⟨k, hk, rfl, ⟨ha, hb⟩, rfl⟩ := hrel
    rcases (show k = 0 ∨ k = 1 ∨ k = 2 by omega) with rfl | rfl | rfl
    · by_cases hz : a = 0
      · have e1 : (a != 0) = false := by simpa using hz
        have HZ := Lib.hid hz
        clear hz ha hb
        go_wp2
        exact ⟨⟨1, by omega, rfl, ⟨fun _ => HZ.out, fun h => by omega⟩, trivial⟩, by simp [intOf]⟩
      · have e1 : (a != 0) = true := by simpa using hz
        have HZ := Lib.hid hz
        clear hz ha hb
        go_wp2
        go_ret
        exact ⟨by rw [HC.out]; unfold orI; rw [if_neg HZ.out]; rfl, rfl⟩
    · have HA := Lib.hid (ha (by omega))
      by_cases hz : b = 0
      · have e1 : (b != 0) = false := by simpa using hz
        have HZ := Lib.hid hz
        clear hz ha hb
        go_wp2
        exact ⟨⟨2, by omega, rfl, ⟨fun _ => HA.out, fun h => HZ.out⟩, trivial⟩, by simp [intOf]⟩
      · have e1 : (b != 0) = true := by simpa using hz
        clear hz ha hb
        go_wp2
        go_ret
        exact ⟨by rw [HC.out]; unfold orI; rw [if_pos HA.out]; rfl, rfl⟩
    · have HA := Lib.hid (ha (by omega))
      have HB := Lib.hid (hb (by omega))
      clear ha hb
      go_wp2
      go_ret
      exact ⟨by rw [HC.out]; unfold orI; rw [if_pos HA.out, HB.out]; rfl, rfl⟩
/-- A segment that was found: where, its number, its records' row and what that holds. -/
structure FV (α : Type) where
  seg : Int
  seq : Int
  A : Option Addr
  c : Nat
  l : List α
def encF {α : Type} (x : FV α) : List Value := [.int .i64 x.seg, .int .u64 x.seq, .slice x.A x.l.length x.c]
def cmpF {α : Type} (x y : FV α) : Int := orI (cmpI x.seq y.seq) (cmpI x.seg y.seg)
theorem cmpF_lt {α : Type} (x y : FV α) : Go.Proofs.ltOf cmpF x y = decide (x.seq < y.seq ∨ x.seq = y.seq ∧ x.seg < y.seg) := by
  unfold Go.Proofs.ltOf cmpF orI cmpI
  rw [decide_eq_decide]
  constructor
  · intro h
    split at h <;> split at h <;> (try split at h) <;> (try split at h) <;> first | (exfalso; omega) | omega
  · rintro h
    split <;> split <;> (try split) <;> (try split) <;> first | (exfalso; omega) | omega
theorem cmpF_swo {α : Type} : Go.Sort.SWO (Go.Proofs.ltOf (cmpF (α := α))) where
  irrefl x := by rw [cmpF_lt]; simp
  trans x y z h1 h2 := by rw [cmpF_lt, decide_eq_true_iff] at *; omega
  ntrans x y z h1 h2 := by rw [cmpF_lt, decide_eq_false_iff_not] at *; omega
end Go.Proofs.Ytmbiebdcnadhkaa.Fl

/- The device: used, read, written, synced, made: walked. No condition. -/
namespace Go.Proofs.Ytmbiebdcnadhkaa.Fl
open Go.RowKit Go.Proofs.YtmbiebdcnadhkaaW.PrintWords Go.Proofs.YtmbiebdcnadhkaaW.PrintMore Go.Maps
set_option linter.unusedSimpArgs false
set_option linter.unusedVariables false
def usedB (D : PD) (a b : Int) : Bool := hasB D.s a b && (look (a, b) D.mp).isSome
def numB (D : PD) : Nat := D.s.2.2.toNat
theorem TD_ne : TB ≠ TD ∧ TA ≠ TD ∧ TB ≠ TA := ⟨by decide, by decide, by decide⟩
section
variable {N0 p : Nat} {D : PD} {ok : Nat → Prop} {w : World}
set_option maxHeartbeats 1000000 in
set_option maxRecDepth 100000 in
theorem Used_any (hD : DevIs N0 p D ok w) (a b : Int) : Calls Try.prog 58 #[.pointer (some ⟨p, 0, none⟩), .int .i64 a, .int .i64 b] w fun e w' => e = .returned (.bool (usedB D a b)) ∧ w = w' := by
  obtain ⟨m, v, es, ck, hD⟩ := hD
  have HS := Lib.hid hD.shape
  have HP := Lib.hid hD.blk
  cases hb : hasB D.s a b with
  | true =>
    obtain ⟨v1, hr, _⟩ := run_look hD.map hD.ents hD.nodup (hasB_inr hD.shape hb) true
    have hL : (Instr.lookup TM (.map (some m)) (.agg #[.int .i64 a, .int .i64 b]) true).run Try.prog w = .ok (.tuple #[v1, .bool (look (a, b) D.mp).isSome]) w := hr
    have HR := Lib.hid (show usedB D a b = (look (a, b) D.mp).isSome by simp [usedB, hb])
    have hc3 : w.cell? ⟨p, 3, none⟩ = some (.map (some m)) := bcell hD.blk 3
    have HE := Lib.hid (show hasE D.s a b = 0 by simp [hasE, hb])
    clear hb hr hD
    go_enter Try.func58, Try.ntmps58
    go_wp2_with (go_at_call 91; (with_reducible refine (has_blk HS.out HP.out a b).mono ?_); rw [HE.out]; rintro e w' ⟨rfl, rfl⟩)
    go_ret
    exact ⟨by rw [HR.out]; rfl, rfl⟩
  | false =>
    have HR := Lib.hid (show usedB D a b = false by simp [usedB, hb])
    have HE := Lib.hid (show hasE D.s a b = 6 by simp [hasE, hb])
    clear hb hD
    go_enter Try.func58, Try.ntmps58
    go_wp2_with (go_at_call 91; (with_reducible refine (has_blk HS.out HP.out a b).mono ?_); rw [HE.out]; rintro e w' ⟨rfl, rfl⟩)
    go_ret
    exact ⟨by rw [HR.out]; rfl, rfl⟩
/-- What a page reads as. -/
def readD (D : PD) (a b : Int) : List Int := full (numB D) ((look (a, b) D.mp).getD [])
def gotD (D : PD) (a b : Int) : List Int := if hasB D.s a b then readD D a b else []
theorem look_len (h : ∀ q ∈ D.mp, q.2.length = D.s.2.2.toNat) (c : Adr) : ((look c D.mp).getD []).length ≤ D.s.2.2.toNat := by
  cases hl : look c D.mp with
  | none => simp
  | some l => simpa using Nat.le_of_eq (h _ (look_mem hl))
set_option maxHeartbeats 1000000 in
set_option maxRecDepth 100000 in
theorem Read_any (hD : DevIs N0 p D ok w) (a b : Int) : Calls Try.prog 60 #[.pointer (some ⟨p, 0, none⟩), .int .i64 a, .int .i64 b] w fun e w' => ∃ v, e = .returned (.tuple #[v, .int .i64 (hasE D.s a b)]) ∧ Row w' w.heap.size (fun k => w.heap.size ≤ k) v (gotD D a b) ∧ Below w.heap.size w w' := by
  obtain ⟨m, v, es, ck, hD⟩ := hD
  have HS := Lib.hid hD.shape
  have HP := Lib.hid hD.blk
  cases hb : hasB D.s a b with
  | true =>
    obtain ⟨v1, hr, hrow⟩ := run_look hD.map hD.ents hD.nodup (hasB_inr hD.shape hb) false
    obtain ⟨A, c, rfl, hlc, hC⟩ := hrow.reads
    have hL : (Instr.lookup TM (.map (some m)) (.agg #[.int .i64 a, .int .i64 b]) false).run Try.prog w = .ok (.slice A ((look (a, b) D.mp).getD []).length c) w := hr
    have hc3 : w.cell? ⟨p, 3, none⟩ = some (.map (some m)) := bcell hD.blk 3
    have HE := Lib.hid (show hasE D.s a b = 0 by simp [hasE, hb])
    have HC := Aside0.mk hC
    have HL := Lib.hid (look_len hD.lens (a, b))
    obtain ⟨l, hl⟩ : ∃ l, l = (look (a, b) D.mp).getD [] := ⟨_, rfl⟩
    rw [← hl] at hL HC HL
    have hq : gotD D a b = full D.s.2.2.toNat l := by rw [gotD, if_pos hb, readD, ← hl]; rfl
    have HQ := Lib.hid hq
    clear hb hr hD hC hrow hlc hl hq
    go_enter Try.func60, Try.ntmps60
    go_wp2_with (first | (go_at_call 91; (with_reducible refine (has_blk HS.out HP.out a b).mono ?_); rw [HE.out]; rintro e w' ⟨rfl, rfl⟩) | (go_at_call 63; (with_reducible refine (filled_blk HS.out HP.out A c l HC.out HL.out).mono ?_); rintro e w1 ⟨v1, rfl, hrow, hbel⟩; have HR := Aside0.mk hrow; have HB := Aside0.mk hbel; clear hrow hbel))
    go_ret2
    exact ⟨v1, by rw [HE.out]; rfl, by rw [HQ.out]; exact HR.out, HB.out⟩
  | false =>
    have HE := Lib.hid (show hasE D.s a b = 6 by simp [hasE, hb])
    have HQ := Lib.hid (show gotD D a b = [] by simp [gotD, hb])
    clear hb hD
    go_enter Try.func60, Try.ntmps60
    go_wp2_with (go_at_call 91; (with_reducible refine (has_blk HS.out HP.out a b).mono ?_); rw [HE.out]; rintro e w' ⟨rfl, rfl⟩)
    go_ret2
    exact ⟨.slice none 0 0, by rw [HE.out]; rfl, by rw [HQ.out]; exact Row.nil _ _ _, Below.refl _ _⟩
theorem Shape_any (hD : DevIs N0 p D ok w) : Calls Try.prog 56 #[.pointer (some ⟨p, 0, none⟩)] w fun e w' => e = .returned (.agg #[.int .i64 D.s.1, .int .i64 D.s.2.1, .int .i64 D.s.2.2]) ∧ Below w.heap.size w w' := by
  obtain ⟨m, v, es, ck, hD⟩ := hD
  exact Shape_blk hD.blk
/-- What a write answers. -/
def writeE (D : PD) (a b : Int) (l : List Int) : Int := if hasB D.s a b = false then 6 else if D.s.2.2 < (l.length : Int) then 10 else if usedB D a b then 7 else 0
def writeD (D : PD) (a b : Int) (l : List Int) : PD := if writeE D a b l = 0 then { D with mp := put (a, b) (full (numB D) l) D.mp, dirty := D.dirty ++ [(a, b)] } else D
theorem own_TA {v : Value} {xs : List Adr} (h : kAddr.R TA w N0 ok v xs) {k : Nat} (hk : v.ownBlock = some k) : ok k ∧ N0 ≤ k ∧ k < w.heap.size ∧ ∃ cs, w.heap[k]? = some (.cells cs TA (0, 0)) := by
  obtain ⟨h1, h2, h3, q, hq, cs, hc⟩ := (Kd.R_bound h).1 k hk
  have : q = TA := by simpa [kAddr, Kd.pair, Kd.int, Kd.scalar] using hq
  subst this
  exact ⟨h1, h2, h3, cs, hc⟩
theorem write_end {m : Nat} {v v3 : Value} {es es' : Array MapEntry} {ck ck' : Nat} {w1 w3 : World} {a b : Int} {L : List Int} (hD : DevAt N0 p D ok w m v es ck) (ha : InR (a, b)) (hb1 : Below w.heap.size w w1)
    (hents : Ents N0 (fun k => ok k ∨ w.heap.size ≤ k) (putMap w1 m es' ck') es'.toList (put (a, b) L D.mp)) (hL : L.length = D.s.2.2.toNat) (hR3 : kAddr.R TA w3 N0 (fun k => ok k ∨ w.heap.size ≤ k) v3 (D.dirty ++ [(a, b)]))
    (hg : (putMap w1 m es' ck').grownBy w3 v.ownBlock) :
    DevIs N0 p { D with mp := put (a, b) L D.mp, dirty := D.dirty ++ [(a, b)] } (fun k => ok k ∨ w.heap.size ≤ k) (w3.setCell ⟨p, 4, none⟩ v3) ∧ Upd (Mut ok w) w (w3.setCell ⟨p, 4, none⟩ v3) := by
  have lp := blt hD.blk
  have lm := blt hD.map
  have pm := map_ne hD.blk hD.map
  have ho := fun {k : Nat} => own_TA hD.dirty (k := k)
  have np : some p ≠ v.ownBlock := fun e => by
    obtain ⟨_, _, _, cs, hc⟩ := ho e.symm
    exact typ_ne hD.blk hc (Ne.symm TD_ne.2.1) rfl
  have nm : some m ≠ v.ownBlock := fun e => by
    obtain ⟨_, _, _, cs, hc⟩ := ho e.symm
    exact map_ne hc hD.map rfl
  have hs1 := hb1.size
  have hs2 : (putMap w1 m es' ck').heap.size = w1.heap.size := putMap_size _ _ _ _
  have bp : w3.heap[p]? = some (.cells #[.int .i64 D.s.1, .int .i64 D.s.2.1, .int .i64 D.s.2.2, .map (some m), v] TD (0, 0)) :=
    (hg.block p (by omega) np).trans ((putMap_other w1 pm es' ck').trans ((hb1.block p lp).trans hD.blk))
  have bm : w3.heap[m]? = some (.map es' ck') := (hg.block m (by omega) nm).trans (putMap_same ((hb1.block m lm).trans hD.map) _ _)
  refine ⟨⟨m, v3, es', ck', hD.base, .inl hD.okp, by rw [bset bp]; rfl, .inl hD.okm, hD.basem, ?_, ?_, ?_, hD.shape, ?_, nodup_put hD.nodup, ?_⟩, ?_⟩
  · rw [Below.heap_setCell _ _ _ _ (Ne.symm pm)]
    exact bm
  · refine hents.imp (fun _ _ hr => Row.typed (w := w3) (Row.typed hr (fun k cs hk _ => ?_)) (fun k cs hk _ => Below.heap_setCell _ _ _ _ (not_typ bp TD_ne.1 hk)))
    refine hg.block k (blt hk) (fun e => ?_)
    obtain ⟨_, _, lk, cs', hc⟩ := ho e.symm
    have h2 : (putMap w1 m es' ck').heap[k]? = some (.cells cs' TA (0, 0)) := by
      rw [putMap_other w1 (map_ne hc hD.map) es' ck', hb1.block k lk]
      exact hc
    exact typ_ne hk h2 TD_ne.2.2 rfl
  · exact A_typed hR3 (fun k cs hk _ => Below.heap_setCell _ _ _ _ (not_typ bp TD_ne.2.1 hk))
  · intro x hx
    rcases List.mem_append.1 hx with hx | hx
    · exact hD.inr x hx
    · rw [List.mem_singleton.1 hx]; exact ha
  · intro q hq
    rcases put_keys hq with rfl | hq
    · exact hL
    · exact hD.lens q hq
  · have u1 : Upd (Mut ok w) w w1 := Upd.ofBelow hb1 _
    have u2 : Upd (Mut ok w) w1 (putMap w1 m es' ck') := putMap_upd w1 hD.mutm es' ck'
    have u3 : Upd (Mut ok w) (putMap w1 m es' ck') w3 := Upd.grown hg (fun k hk => by
      obtain ⟨h1, _, _, cs, hc⟩ := ho hk
      exact mut_of h1 hc (Ne.symm TD_ne.2.2))
    exact ((u1.trans u2 (fun _ h _ => h)).trans u3 (fun _ h _ => h)).trans (Upd.setCell w3 hD.mutp v3) (fun _ h _ => h)
theorem putMap_cell {w1 : World} {m k o : Nat} {x : Option Value} (h : w1.cell? ⟨k, o, none⟩ = x) (hk : k ≠ m) (es : Array MapEntry) (ck : Nat) : (putMap w1 m es ck).cell? ⟨k, o, none⟩ = x := by
  rw [← h]
  exact World.cell?_of_block (w := w1) (a := ⟨k, o, none⟩) (putMap_other w1 hk es ck)
theorem undrew {W w1 : World} (h : Below W.drew.heap.size W.drew w1) : Below W.heap.size W w1 := ((Below.refl W.heap.size W).drew).trans h
theorem write_mid {m : Nat} {v v1 : Value} {es : Array MapEntry} {ck : Nat} {W w1 : World} {a b : Int} {L : List Int} (hD : DevAt N0 p D ok w m v es ck) (hW : Below w.heap.size w W) (ha : InR (a, b)) (hrow : Row w1 W.drew.heap.size (fun k => W.drew.heap.size ≤ k) v1 L) (hb : Below W.drew.heap.size W.drew w1) :
    ∃ es' ck', (Instr.mapUpdate TM (.map (some m)) (kv (a, b)) v1).run Try.prog w1 = .ok () (putMap w1 m es' ck') ∧ Ents N0 (fun k => ok k ∨ w.heap.size ≤ k) (putMap w1 m es' ck') es'.toList (put (a, b) L D.mp) := by
  have hs : w.heap.size ≤ W.heap.size := hW.size
  have hb2 : Below w.heap.size w w1 := hW.trans (Below.mono (undrew hb) hs)
  refine run_update ((hb2.block m (blt hD.map)).trans hD.map) (hD.ents.imp (fun _ _ hr => (hr.step (fun k _ hlt => hb2.block k hlt)).mono (fun _ h => .inl h))) hD.nodup ha ((hrow.lower ?_).mono (fun k hk => .inr ?_))
  · have := hD.base; have := blt hD.blk; show N0 ≤ W.heap.size; omega
  · exact Nat.le_trans hs hk
theorem info_addr : (Try.prog.info? TA).map (fun i => (i.zero, i.size, i.bytes)) = some (some (.agg #[.int .i64 0, .int .i64 0]), 2, 16) := by kernel_rfl
theorem kAddr_mk (w : World) (base : Nat) (ok : Nat → Prop) (a b : Int) : kAddr.M w base ok (a, b) [.int .i64 a, .int .i64 b] := ⟨[.int .i64 a], [.int .i64 b], rfl, rfl, rfl⟩
set_option maxHeartbeats 2000000 in
set_option maxRecDepth 100000 in
theorem Write_ok (hD : DevIs N0 p D ok w) (a b : Int) (A : Option Addr) (c : Nat) (l : List Int) (hl : kB.C w A l.length l) (h0 : writeE D a b l = 0) (hm : D.dirty.length < 1000000) :
    Calls Try.prog 50 #[.pointer (some ⟨p, 0, none⟩), .int .i64 a, .int .i64 b, .slice A l.length c] w fun e w' => e = .returned (.int .i64 0) ∧ DevIs N0 p (writeD D a b l) (fun k => ok k ∨ w.heap.size ≤ k) w' ∧ Upd (Mut ok w) w w' := by
  have hb : hasB D.s a b = true := by
    unfold writeE at h0
    split at h0
    · cases h0
    · rename_i hx; simpa using hx
  have h1 : (l.length : Int) ≤ D.s.2.2 := by
    unfold writeE at h0
    rw [if_neg (by simp [hb])] at h0
    split at h0
    · cases h0
    · omega
  have h2 : usedB D a b = false := by
    unfold writeE at h0
    rw [if_neg (by simp [hb]), if_neg (by omega)] at h0
    split at h0
    · cases h0
    · rename_i hx; simpa using hx
  have hDI := hD
  obtain ⟨m, v, es, ck, hD⟩ := hD
  have HS := Lib.hid hD.shape
  have HP := Lib.hid hD.blk
  have HDI := Aside0.mk hDI
  have HD := Aside0.mk hD
  have HE := Lib.hid (show hasE D.s a b = 0 by simp [hasE, hb])
  have HU := Lib.hid h2
  have HIn := Lib.hid (hasB_inr hD.shape hb)
  have HWD := Lib.hid (show writeD D a b l = { D with mp := put (a, b) (full D.s.2.2.toNat l) D.mp, dirty := D.dirty ++ [(a, b)] } by rw [writeD, if_pos h0]; rfl)
  have HL := Aside0.mk hl
  have hc2 : w.cell? ⟨p, 2, none⟩ = some (.int .i64 D.s.2.2) := bcell hD.blk 2
  clear hb h2 hDI hl h0
  go_enter Try.func50, Try.ntmps50
  go_wp2_with (first | (go_at_call 91; (with_reducible refine (has_blk HS.out HP.out a b).mono ?_); rw [HE.out]; rintro e w' ⟨rfl, rfl⟩) | (go_at_call 58; (with_reducible refine (Used_any HDI.out a b).mono ?_); rw [HU.out]; rintro e w' ⟨rfl, rfl⟩))
  obtain ⟨W, hW⟩ : ∃ W, W = w.alloc (.cells #[.int .i64 a, .int .i64 b] TA) := ⟨_, rfl⟩
  have hlp := blt HP.out
  have q1 : W.heap[p]? = some (.cells #[.int .i64 D.s.1, .int .i64 D.s.2.1, .int .i64 D.s.2.2, .map (some m), v] TD (0, 0)) := by rw [hW]; exact (Below.heap_alloc _ _ _ hlp).trans HP.out
  have q2 : W.heap[w.heap.size]? = some (.cells #[.int .i64 a, .int .i64 b] TA (0, 0)) := by rw [hW]; exact blk_new w _
  have q3 : Below w.heap.size w W := by rw [hW]; exact below_alloc (Below.refl _ _) _
  have q4 : kB.C W A l.length l := Kd.C_below HL.out q3
  have Q1 := Lib.hid q1; have Q2 := Lib.hid q2; have Q3 := Aside0.mk q3; have Q4 := Aside0.mk q4
  have k1 : W.cell? ⟨p, 3, none⟩ = some (.map (some m)) := bcell q1 3
  have k2 : W.cell? ⟨w.heap.size, 0, none⟩ = some (.int .i64 a) := bcell q2 0
  have k3 : W.cell? ⟨w.heap.size, 1, none⟩ = some (.int .i64 b) := bcell q2 1
  have hsz : W.heap.size = w.heap.size + 1 := by rw [hW]; simp
  rw [← hW]
  have HSZ := Lib.hid hsz
  have hn : l.length ≤ D.s.2.2.toNat := by omega
  have hIn : InR (a, b) := HIn.out
  clear hW q1 q2 q3 q4 hsz hc2
  go_region_held3 (fun w' => w'.cell? ⟨p, 3, none⟩ = some (.map (some m)) ∧ w'.cell? ⟨w.heap.size, 0, none⟩ = some (.int .i64 a) ∧ w'.cell? ⟨w.heap.size, 1, none⟩ = some (.int .i64 b)) (first | go_keep | exact ⟨k4, k5, k6⟩ | exact ⟨k7, k8, k9⟩)
    ((go_at_call 63; refine (filled_blk (w := W.drew) HS.out Q1.out A c l Q4.out hn).mono ?_; rintro e w1 ⟨v1, rfl, hrow, hbel⟩; obtain ⟨es', ck', hrun, hen⟩ := write_mid HD.out Q3.out hIn hrow hbel; have hU : (Instr.mapUpdate TM (.map (some m)) (.agg #[.int .i64 a, .int .i64 b]) v1).run Try.prog w1 = .ok () (putMap w1 m es' ck') := hrun; have HEN := Aside0.mk hen; have hB0 : Below w.heap.size w w1 := Q3.out.trans (Below.mono (undrew hbel) Q3.out.size); have HB0 := Aside0.mk hB0; clear hrun hen hB0; have k4 : w1.cell? ⟨p, 3, none⟩ = some (.map (some m)) := (hbel.cell (p := ⟨p, 3, none⟩) (blt Q1.out)).trans k1; have k5 : w1.cell? ⟨w.heap.size, 0, none⟩ = some (.int .i64 a) := (hbel.cell (p := ⟨w.heap.size, 0, none⟩) (blt Q2.out)).trans k2; have k6 : w1.cell? ⟨w.heap.size, 1, none⟩ = some (.int .i64 b) := (hbel.cell (p := ⟨w.heap.size, 1, none⟩) (blt Q2.out)).trans k3; have k7 := putMap_cell k4 (map_ne HP.out HD.out.map) es' ck'; have k8 := putMap_cell k5 (Nat.ne_of_gt (blt HD.out.map)) es' ck'; have k9 := putMap_cell k6 (Nat.ne_of_gt (blt HD.out.map)) es' ck'; have HV4 := Lib.hid hrow; clear hrow hbel))
  clear k1 k2 k3 k4 k5 k6 hU
  obtain ⟨W2, hW2⟩ : ∃ W2, W2 = putMap w1 m es' ck' := ⟨_, rfl⟩
  have r1 : W2.cell? ⟨p, 4, none⟩ = some v := by
    rw [hW2]
    refine putMap_cell ?_ (map_ne HP.out HD.out.map) es' ck'
    rw [bcell ((HB0.out.block p hlp).trans HP.out)]
    rfl
  rw [← hW2] at k7 k8 k9
  have hlt2 : W2.heap.size = w1.heap.size := by rw [hW2]; exact putMap_size _ _ _ _
  have hR2 : kAddr.R TA W2 N0 (fun k => ok k ∨ w.heap.size ≤ k) v D.dirty := by
    rw [hW2]
    exact Kd.R_mono (R_putMap ⟨_, _, (HB0.out.block m (blt HD.out.map)).trans HD.out.map⟩ (Kd.R_below HD.out.dirty HB0.out) es' ck') (fun _ h => .inl h)
  have HR2 := Aside0.mk hR2
  have HW2 := Lib.hid hW2
  have hp2 : p < W2.heap.size := by have := HB0.out.size; omega
  have np : ∀ k, v.ownBlock = some k → k < w.heap.size := fun k hk => (own_TA HD.out.dirty hk).2.2.1
  have NP := Lib.hid np
  have HB2 : Aside0 (Upd ok w W2) := Aside0.mk (by rw [hW2]; exact (Upd.ofBelow HB0.out ok).trans (putMap_upd w1 HD.out.okm es' ck') (fun _ h _ => h))
  have hne : v.ownBlock ≠ some p := fun e => by
    obtain ⟨_, _, _, cs, hc⟩ := own_TA HD.out.dirty e
    exact typ_ne HP.out hc (Ne.symm TD_ne.2.1) rfl
  have HNE := Lib.hid hne
  clear hlt2 hR2 np hne
  rw [← hW2]
  clear hW2
  go_wp2
  have hf1 : ∀ w3 : World, W2.drew.grownBy w3 v.ownBlock → w3.cell? ⟨p, 4, none⟩ = some v ∧ w3.cell? ⟨w.heap.size, 0, none⟩ = some (.int .i64 a) ∧ w3.cell? ⟨w.heap.size, 1, none⟩ = some (.int .i64 b) := fun w3 hg => by
    refine ⟨hg.cell (a := ⟨p, 4, none⟩) r1 (fun e => HNE.out e.symm), hg.cell (a := ⟨w.heap.size, 0, none⟩) k8 (fun e => ?_), hg.cell (a := ⟨w.heap.size, 1, none⟩) k9 (fun e => ?_)⟩
    · exact Nat.lt_irrefl _ (NP.out _ e.symm)
    · exact Nat.lt_irrefl _ (NP.out _ e.symm)
  have HF1 := Lib.hid hf1
  have hp2b : W2.heap[p]? = some (.cells #[.int .i64 D.s.1, .int .i64 D.s.2.1, .int .i64 D.s.2.2, .map (some m), v] TD (0, 0)) := by
    rw [HW2.out]
    exact (putMap_other w1 (map_ne HP.out HD.out.map) es' ck').trans ((HB0.out.block p hlp).trans HP.out)
  have hf2 : ∀ w3 : World, W2.drew.grownBy w3 v.ownBlock → w3.frozen? ⟨p, 4, none⟩ = false := fun w3 hg => by
    rw [World.frozen?_of_block (w := W2) (a := ⟨p, 4, none⟩) (hg.block p hp2 (fun e => HNE.out e.symm))]
    exact bfrozen hp2b 4
  have HF2 := Lib.hid hf2
  clear hf2 hp2b
  clear hf1
  go_region_law
    ((refine Kd.R_append_step kAddr (w0 := W2.drew) (W := W2.drew) N0 (by rfl) (.tmp 48) (.tmp 50) 93 TA (.agg #[.int .i64 0, .int .i64 0]) 16 (by rfl) Try.underlying93 info_addr rfl (by decide) (by decide) v D.dirty (a, b) [.int .i64 a, .int .i64 b] (fun k => ok k ∨ w.heap.size ≤ k) (fun _ => False) (by rfl) (by rfl) (kAddr_mk _ _ _ _ _) (fun _ hk => hk.elim) (fun k hk => .inr (Nat.le_trans HB2.out.size hk)) (Kd.R_step HR2.out (fun _ _ _ => rfl)) (Below.refl _ _) (Nat.le_trans (Nat.le_of_lt (Nat.lt_of_le_of_lt HD.out.base hlp)) HB2.out.size) (by omega) ?_; intro v3 w3 hr3 hb3 hg3 hat3; obtain ⟨A3, c3, rfl⟩ := Kd.R_slice hr3; have hf4 : w3.frozen? ⟨p, 4, none⟩ = false := HF2.out _ hg3; have hc4 : w3.cell? ⟨p, 4, none⟩ = some v := (HF1.out _ hg3).1; have HR3 := Aside0.mk hr3; have HG3 := Aside0.mk hg3; clear hr3 hb3 hat3))
  all_goals
    go_wp2
    go_ret
    have hG : (putMap w1 m es' ck').grownBy w3 v.ownBlock := by
      rw [← HW2.out]
      exact ⟨HG3.out.os, HG3.out.tape, HG3.out.output, HG3.out.size, HG3.out.block⟩
    rw [HWD.out]
    have hR := HR3.out
    rw [List.length_append, List.length_singleton] at hR
    exact ⟨rfl, write_end HD.out HIn.out HB0.out HEN.out (full_length hn) hR hG⟩
theorem writeE_cases (D : PD) (a b : Int) (l : List Int) : (hasB D.s a b = false ∧ writeE D a b l = 6) ∨ (hasB D.s a b = true ∧ D.s.2.2 < (l.length : Int) ∧ writeE D a b l = 10) ∨ (hasB D.s a b = true ∧ (l.length : Int) ≤ D.s.2.2 ∧ usedB D a b = true ∧ writeE D a b l = 7) ∨ writeE D a b l = 0 := by
  cases h1 : hasB D.s a b with
  | false => exact .inl ⟨rfl, by simp [writeE, h1]⟩
  | true =>
    by_cases h2 : D.s.2.2 < (l.length : Int)
    · exact .inr (.inl ⟨rfl, h2, by simp [writeE, h1, h2]⟩)
    · cases h3 : usedB D a b with
      | true => exact .inr (.inr (.inl ⟨rfl, by omega, rfl, by simp [writeE, h1, h2, h3]⟩))
      | false => exact .inr (.inr (.inr (by simp [writeE, h1, h2, h3])))
set_option maxHeartbeats 2000000 in
set_option maxRecDepth 100000 in
theorem Write_no (hD : DevIs N0 p D ok w) (a b : Int) (A : Option Addr) (c : Nat) (l : List Int) (h0 : writeE D a b l ≠ 0) :
    Calls Try.prog 50 #[.pointer (some ⟨p, 0, none⟩), .int .i64 a, .int .i64 b, .slice A l.length c] w fun e w' => e = .returned (.int .i64 (writeE D a b l)) ∧ w = w' := by
  have hDI := hD
  obtain ⟨m, v, es, ck, hD⟩ := hD
  have HS := Lib.hid hD.shape
  have HP := Lib.hid hD.blk
  have HDI := Aside0.mk hDI
  have hc2 : w.cell? ⟨p, 2, none⟩ = some (.int .i64 D.s.2.2) := bcell hD.blk 2
  clear hDI hD
  rcases writeE_cases D a b l with ⟨h1, h2⟩ | ⟨h1, h2, h3⟩ | ⟨h1, h2, h3, h4⟩ | h1
  · have HE := Lib.hid (show hasE D.s a b = 6 by simp [hasE, h1])
    have HW := Lib.hid h2
    clear h1 h2 h0
    go_enter Try.func50, Try.ntmps50
    go_wp2_with (go_at_call 91; (with_reducible refine (has_blk HS.out HP.out a b).mono ?_); rw [HE.out]; rintro e w' ⟨rfl, rfl⟩)
    go_ret
    exact ⟨by rw [HW.out]; rfl, rfl⟩
  · have HE := Lib.hid (show hasE D.s a b = 0 by simp [hasE, h1])
    have HW := Lib.hid h3
    clear h1 h3 h0
    go_enter Try.func50, Try.ntmps50
    go_wp2_with (go_at_call 91; (with_reducible refine (has_blk HS.out HP.out a b).mono ?_); rw [HE.out]; rintro e w' ⟨rfl, rfl⟩)
    go_ret
    exact ⟨by rw [HW.out]; rfl, rfl⟩
  · have HE := Lib.hid (show hasE D.s a b = 0 by simp [hasE, h1])
    have HU := Lib.hid h3
    have HW := Lib.hid h4
    clear h1 h3 h4 h0
    go_enter Try.func50, Try.ntmps50
    go_wp2_with (first | (go_at_call 91; (with_reducible refine (has_blk HS.out HP.out a b).mono ?_); rw [HE.out]; rintro e w' ⟨rfl, rfl⟩) | (go_at_call 58; (with_reducible refine (Used_any HDI.out a b).mono ?_); rw [HU.out]; rintro e w' ⟨rfl, rfl⟩))
    go_ret
    exact ⟨by rw [HW.out]; rfl, rfl⟩
  · exact absurd h1 h0
/-- Write, whatever it answers. -/
theorem Write_any (hD : DevIs N0 p D ok w) (a b : Int) (A : Option Addr) (c : Nat) (l : List Int) (hl : kB.C w A l.length l) (hm : D.dirty.length < 1000000) :
    Calls Try.prog 50 #[.pointer (some ⟨p, 0, none⟩), .int .i64 a, .int .i64 b, .slice A l.length c] w fun e w' => e = .returned (.int .i64 (writeE D a b l)) ∧ DevIs N0 p (writeD D a b l) (fun k => ok k ∨ w.heap.size ≤ k) w' ∧ Upd (Mut ok w) w w' := by
  by_cases h0 : writeE D a b l = 0
  · refine (Write_ok hD a b A c l hl h0 hm).mono fun e w' ⟨h1, h2⟩ => ⟨by rw [h0]; exact h1, h2⟩
  · refine (Write_no hD a b A c l h0).mono fun e w' ⟨h1, h2⟩ => ?_
    subst h2
    exact ⟨h1, by rw [writeD, if_neg h0]; exact hD.mono (fun _ h => .inl h), Upd.refl _ _⟩
set_option maxHeartbeats 1000000 in
set_option maxRecDepth 100000 in
theorem Right_any (s : Int × Int × Int) (w : World) : Calls Try.prog 52 #[.agg #[.int .i64 s.1, .int .i64 s.2.1, .int .i64 s.2.2]] w fun e w' => e = .returned (.bool (fitsB s.1 1 16 && fitsB s.2.1 1 64 && fitsB s.2.2 16 256)) ∧ Below w.heap.size w w' := by
  obtain ⟨s1, s2, s3⟩ := s
  obtain ⟨r, hr⟩ : ∃ r, r = (fitsB s1 1 16 && fitsB s2 1 64 && fitsB s3 16 256) := ⟨_, rfl⟩
  simp only
  cases h1 : fitsB s1 1 16 with
  | false =>
    go_enter Try.func52, Try.ntmps52
    go_wp2_with (go_at_call 59; (with_reducible refine (Fits_any _ _ _ _).mono ?_); (try rw [h1]); rintro e w' ⟨rfl, rfl⟩)
    go_ret
    exact ⟨rfl, below_alloc (Below.refl _ _) _⟩
  | true =>
    cases h2 : fitsB s2 1 64 with
    | false =>
      go_enter Try.func52, Try.ntmps52
      go_wp2_with (go_at_call 59; (with_reducible refine (Fits_any _ _ _ _).mono ?_); (try rw [h1]); (try rw [h2]); rintro e w' ⟨rfl, rfl⟩)
      go_ret
      exact ⟨rfl, below_alloc (Below.refl _ _) _⟩
    | true =>
      go_enter Try.func52, Try.ntmps52
      go_wp2_with (go_at_call 59; (with_reducible refine (Fits_any _ _ _ _).mono ?_); (try rw [h1]); (try rw [h2]); rintro e w' ⟨rfl, rfl⟩)
      go_ret
      exact ⟨rfl, below_alloc (Below.refl _ _) _⟩
end
end Go.Proofs.Ytmbiebdcnadhkaa.Fl

/- Rows of addresses: cloned, searched, deleted from: walked. No condition. -/
namespace Go.Proofs.Ytmbiebdcnadhkaa.Fl
open Go.RowKit Go.Proofs.YtmbiebdcnadhkaaW.PrintWords Go.Proofs.YtmbiebdcnadhkaaW.PrintMore Go.Maps
set_option linter.unusedSimpArgs false
set_option linter.unusedVariables false
def flat : List Adr → List Value
  | [] => []
  | a :: l => .int .i64 a.1 :: .int .i64 a.2 :: flat l
theorem flat_length : ∀ l, (flat l).length = l.length * 2
  | [] => rfl
  | a :: l => by simp only [flat, List.length_cons, flat_length l]; omega
theorem flat_one : ∀ l, ∀ u ∈ flat l, u.oneCell' = true
  | [], u, h => by cases h
  | a :: l, u, h => by
    simp only [flat, List.mem_cons] at h
    rcases h with rfl | rfl | h
    · rfl
    · rfl
    · exact flat_one l u h
theorem flat_at : ∀ (l : List Adr) (i : Nat) (a : Adr), l[i]? = some a → (flat l)[i * 2]? = some (.int .i64 a.1) ∧ (flat l)[i * 2 + 1]? = some (.int .i64 a.2)
  | [], i, a, h => by simp at h
  | b :: l, 0, a, h => by
    simp at h
    subst h
    exact ⟨rfl, rfl⟩
  | b :: l, i + 1, a, h => by
    rw [List.getElem?_cons_succ] at h
    have := flat_at l i a h
    rw [show (i + 1) * 2 = i * 2 + 1 + 1 by omega, show i * 2 + 1 + 1 + 1 = (i * 2 + 1) + 1 + 1 by omega]
    simp only [flat, List.getElem?_cons_succ]
    exact this
theorem flat_set : ∀ (l : List Adr) (i : Nat) (a : Adr), ((flat l).set (i * 2) (.int .i64 a.1)).set (i * 2 + 1) (.int .i64 a.2) = flat (l.set i a)
  | [], i, a => rfl
  | b :: l, 0, a => rfl
  | b :: l, i + 1, a => by
    rw [show (i + 1) * 2 = i * 2 + 1 + 1 by omega, show i * 2 + 1 + 1 + 1 = (i * 2 + 1) + 1 + 1 by omega]
    simp only [flat, List.set_cons_succ, flat_set l i a]
theorem flat_take : ∀ (l : List Adr) (n : Nat), flat (l.take n) = (flat l).take (n * 2)
  | [], n => by simp [flat]
  | a :: l, 0 => rfl
  | a :: l, n + 1 => by
    rw [show (n + 1) * 2 = n * 2 + 1 + 1 by omega]
    simp only [List.take_succ_cons, flat, flat_take l n]
section
variable {N0 : Nat} {ok : Nat → Prop} {w : World} {v : Value} {xs : List Adr}
theorem reps_flat : ∀ {xs : List Adr} {inner : List Value} {w : World} {base : Nat} {ok : Nat → Prop}, Reps (kAddr.M w base ok) 2 xs inner → inner = flat xs := by
  intro xs inner w base ok h
  have hl : inner.length = xs.length * 2 := h.1
  apply List.ext_getElem?
  intro j
  rcases Nat.lt_or_ge j inner.length with hj | hj
  · have hi : j / 2 < xs.length := by omega
    obtain ⟨c0, c1, hc, h0, h1⟩ := h.2 (j / 2) _ (List.getElem?_eq_getElem hi)
    have h0' : c0 = [.int .i64 xs[j / 2].1] := h0
    have h1' : c1 = [.int .i64 xs[j / 2].2] := h1
    subst h0' h1'
    have hf := flat_at xs (j / 2) _ (List.getElem?_eq_getElem hi)
    have e : ∀ i, i < 2 → inner[j / 2 * 2 + i]? = ([Value.int .i64 xs[j / 2].1] ++ [Value.int .i64 xs[j / 2].2])[i]? := fun i hi2 => by
      rw [← hc, List.getElem?_take, if_pos hi2, List.getElem?_drop]
    rcases Nat.mod_two_eq_zero_or_one j with hm | hm
    · have hj2 : j = j / 2 * 2 := by omega
      have := e 0 (by omega)
      rw [Nat.add_zero, ← hj2] at this
      rw [this]
      have h3 := hf.1
      rw [← hj2] at h3
      rw [h3]
      rfl
    · have hj2 : j = j / 2 * 2 + 1 := by omega
      have := e 1 (by omega)
      rw [← hj2] at this
      rw [this]
      have h3 := hf.2
      rw [← hj2] at h3
      rw [h3]
      rfl
  · rw [List.getElem?_eq_none hj, List.getElem?_eq_none (by rw [flat_length]; omega)]
theorem flat_reps (w : World) (base : Nat) (ok : Nat → Prop) (xs : List Adr) : Reps (kAddr.M w base ok) 2 xs (flat xs) := by
  refine ⟨flat_length xs, fun j p hj => ?_⟩
  have := flat_at xs j p hj
  have e : ((flat xs).drop (j * 2)).take 2 = [.int .i64 p.1, .int .i64 p.2] := by
    apply List.ext_getElem?
    intro i
    rw [List.getElem?_take]
    split
    · rename_i h2
      rw [List.getElem?_drop]
      have : i = 0 ∨ i = 1 := by omega
      rcases this with rfl | rfl
      · simpa using this.1
      · simpa using this.2
    · rw [List.getElem?_eq_none (by simp; omega)]
  rw [e]
  exact kAddr_mk w base ok p.1 p.2
theorem R_flat (h : kAddr.R TA w N0 ok v xs) : (∀ k, v.ownBlock = some k → ok k) ∧ w.ownsRow N0 TA 2 v xs.length (flat xs) := by
  obtain ⟨h0, inner, ho, hr⟩ := h
  obtain rfl := reps_flat hr
  exact ⟨h0, ho⟩
theorem flat_R (h0 : ∀ k, v.ownBlock = some k → ok k) (ho : w.ownsRow N0 TA 2 v xs.length (flat xs)) : kAddr.R TA w N0 ok v xs := ⟨h0, flat xs, ho, flat_reps _ _ _ _⟩
/-- A row of addresses, its block told. -/
structure ARow (w : World) (g cap : Nat) (xs : List Adr) : Prop where mk' ::
  ex : ∃ cur : Array Value, w.heap[g]? = some (.cells cur TA (0, 0)) ∧ cur.size = cap * 2 ∧ cur.toList.take (xs.length * 2) = flat xs
  le : xs.length ≤ cap
  mx : cap ≤ 9223372036854775807
theorem ARow.of_R (h : kAddr.R TA w N0 ok v xs) (hv : v ≠ .slice none 0 0) : ∃ g cap, v = .slice (some ⟨g, 0, none⟩) xs.length cap ∧ N0 ≤ g ∧ ok g ∧ ARow w g cap xs := by
  obtain ⟨h0, ho⟩ := R_flat h
  rcases ho.2 with ⟨e, _⟩ | ⟨g, cap, cur, rfl, hg, hh, hle, hm, hs, ht⟩
  · exact absurd e hv
  · exact ⟨g, cap, rfl, hg, h0 g (by simp [Value.ownBlock]), ⟨cur, hh, hs, ht⟩, hle, hm⟩
theorem ARow.to_R {g cap : Nat} (h : ARow w g cap xs) (hg : N0 ≤ g) (ho : ok g) : kAddr.R TA w N0 ok (.slice (some ⟨g, 0, none⟩) xs.length cap) xs := by
  obtain ⟨cur, hh, hs, ht⟩ := h.ex
  refine flat_R (fun k hk => ?_) ⟨flat_length xs, .inr ⟨g, cap, cur, rfl, hg, hh, h.le, h.mx, hs, ht⟩⟩
  have : g = k := by simpa [Value.ownBlock] using hk
  exact this ▸ ho
theorem ARow.step {g cap : Nat} {w' : World} (h : ARow w g cap xs) (hg : w'.heap[g]? = w.heap[g]?) : ARow w' g cap xs := by
  obtain ⟨cur, hh, hs, ht⟩ := h.ex
  exact ⟨⟨cur, hg.trans hh, hs, ht⟩, h.le, h.mx⟩
theorem ARow.lt {g cap : Nat} (h : ARow w g cap xs) : g < w.heap.size := by
  obtain ⟨cur, hh, _⟩ := h.ex
  exact blt hh
theorem ARow.cell {g cap : Nat} (h : ARow w g cap xs) {i : Nat} {a : Adr} (hi : xs[i]? = some a) : w.cell? ⟨g, i * 2, none⟩ = some (.int .i64 a.1) ∧ w.cell? ⟨g, i * 2 + 1, none⟩ = some (.int .i64 a.2) ∧ w.frozen? ⟨g, i * 2, none⟩ = false ∧ w.frozen? ⟨g, i * 2 + 1, none⟩ = false := by
  obtain ⟨cur, hh, hs, ht⟩ := h.ex
  have hl := (List.getElem?_eq_some_iff.1 hi).1
  have hf := flat_at xs i a hi
  rw [← ht, List.getElem?_take, List.getElem?_take, if_pos (by omega), if_pos (by omega)] at hf
  refine ⟨?_, ?_, bfrozen hh _, bfrozen hh _⟩
  · rw [bcell hh]; simpa using hf.1
  · rw [bcell hh]; simpa using hf.2
theorem ARow.set {g cap : Nat} (h : ARow w g cap xs) (i : Nat) (a : Adr) (hi : i < xs.length) : ARow ((w.setCell ⟨g, i * 2, none⟩ (.int .i64 a.1)).setCell ⟨g, i * 2 + 1, none⟩ (.int .i64 a.2)) g cap (xs.set i a) := by
  obtain ⟨cur, hh, hs, ht⟩ := h.ex
  refine ⟨⟨_, bset (bset hh _ _) _ _, by simp [hs], ?_⟩, by simpa using h.le, h.mx⟩
  rw [List.length_set, ← flat_set, ← ht]
  simp only [Array.toList_setIfInBounds]
  rw [List.take_set, List.take_set]
theorem ARow.take {g cap : Nat} (h : ARow w g cap xs) (n : Nat) (hn : n ≤ xs.length) : ARow w g cap (xs.take n) := by
  obtain ⟨cur, hh, hs, ht⟩ := h.ex
  refine ⟨⟨cur, hh, hs, ?_⟩, by have := h.le; simp; omega, h.mx⟩
  rw [flat_take, ← ht, List.take_take, List.length_take]
  congr 1
  omega
set_option maxHeartbeats 1000000 in
set_option maxRecDepth 100000 in
theorem Clone_any (h : kAddr.R TA w N0 ok v xs) (hl : xs.length < 1000000) : Calls Try.prog 104 #[v] w fun e w' => ∃ v', e = .returned v' ∧ kAddr.R TA w' w.heap.size (fun k => w.heap.size ≤ k) v' xs ∧ (v' = .slice none 0 0 → xs = []) ∧ Below w.heap.size w w' := by
  have en := fun (w : World) (a : Option Addr) (n c : Nat) => Lib.run_eql_slice_nil (P := Try.prog) w 93 TA a n c 0 0 Try.underlying93
  by_cases hv : v = .slice none 0 0
  · subst hv
    have hx : xs = [] := by
      obtain ⟨A, c, he⟩ := Kd.R_slice h
      injection he with _ h2 _
      exact List.eq_nil_of_length_eq_zero h2.symm
    clear h
    go_enter Try.func104, Try.ntmps104
    go_wp2
    go_ret
    exact ⟨_, rfl, by rw [hx]; exact Kd.R_nil _ _ _ _ _, fun _ => hx, Below.refl _ _⟩
  · obtain ⟨g, cap, rfl, hg, ho, hr⟩ := ARow.of_R h hv
    obtain ⟨n, hn⟩ : ∃ n, n = xs.length := ⟨_, rfl⟩
    have HR := Aside0.mk hr
    have HN := Lib.hid hn
    have HB := Aside0.mk (below_alloc (Below.refl w.heap.size w) (.cells #[] TA (0, 0)))
    have HC : Hid (∀ W : World, Below w.heap.size w W → ∀ j u, (flat xs)[j]? = some u → W.cell? ((⟨g, 0, none⟩ : Addr).add j) = some u) := Lib.hid (fun W hW j u hj => by
      rw [Addr.add_lit, Nat.zero_add]
      obtain ⟨cur, hh, hs, ht⟩ := hr.ex
      have hl2 := (List.getElem?_eq_some_iff.1 hj).1
      rw [flat_length] at hl2
      rw [← ht, List.getElem?_take, if_pos hl2] at hj
      rw [bcell ((hW.block g (blt hh)).trans hh)]
      simpa using hj)
    obtain ⟨i0, hi, hz0, hz1, hz2⟩ := info_parts info_addr
    rw [← hn]
    clear h hr hn
    go_enter Try.func104, Try.ntmps104
    have HO : Hid ((w.alloc (.cells #[] TA)).ownsRow w.heap.size TA 2 (.slice (some ⟨w.heap.size, 0, none⟩) 0 0) 0 []) := Lib.hid ⟨rfl, .inr ⟨w.heap.size, 0, #[], rfl, Nat.le_refl _, blk_new w _, Nat.le_refl _, Nat.zero_le _, rfl, rfl⟩⟩
    have HFL : Hid ((flat xs).length = n * 2) := Lib.hid (by rw [flat_length, HN.out])
    have HM : Hid (n < 1000000) := Lib.hid (by rw [HN.out]; exact hl)
    clear hl
    go_wp2_with (at_builtin; refine wpList_append_own _ rfl (.tmp 5) (.tmp 6) 93 rfl w.heap.size TA i0 _ 2 16 Try.underlying93 hi hz0 hz1 hz2 rfl (by decide) _ 0 [] rfl HO.out ⟨g, 0, none⟩ n cap (flat xs) rfl HFL.out (HC.out _ HB.out) (flat_one xs) (by have := HM.out; simp only [maxLen]; omega) (by have := HM.out; omega) (by simp) ?_; intro v' w' ho' hg' hn'; have HO' := Aside0.mk ho'; have HG' := Aside0.mk hg'; have HN' := Lib.hid hn'; clear ho' hg' hn')
    go_ret
    refine ⟨v', rfl, ?_, fun e => absurd (HN'.out.1 e).1 (fun h => by injection h with h; cases h), ?_⟩
    · have h1 := HO'.out
      rw [Nat.zero_add, List.nil_append, HN.out] at h1
      exact flat_R (fun k hk => own_base h1 k hk) h1
    · have h2 : Below w.heap.size w w' := HB.out.grown HG'.out (by simp) (fun k hk => Nat.le_of_eq (Option.some.inj hk))
      exact h2
end
/-! ### A function's value, called -/
structure CloFn (f : FuncId) : Prop where
  ex : ∃ fn, Try.prog.funcs[f]? = some fn ∧ (fn.name == "runtime.NumGoroutine") = false ∧ fn.body.isSome = true
theorem closL {ops : Array Oper} {Q : Exit → Act → World → Prop} {rest : List Oper} {oi : Oper} {a : Act} {w : World} (N : Option Tmp) (hd : oi.dst = N) (hg : oi.guard = none) (t : Tmp) {f : FuncId} {caps : Array Value} {as_ : Array Operand} {ts : Array TypeId} (hf : CloFn f) (args : Array Value)
    (hop : oi.op = .call { callee := .value (.tmp t), args := as_, argTypes := ts }) (ht : a.eval (.tmp t) = .func (.func f) #[] caps) (hargs : as_.map a.eval = args)
    (h : Calls Try.prog f (args ++ caps) w fun e w' => ∃ v, e = .returned v ∧ wpList Try.prog ops Q rest (a.put N v) w') : wpList Try.prog ops Q (oi :: rest) a w := by
  obtain ⟨fn, hf, hname, hb⟩ := hf
  refine wpList_plain hg fun K hK => ?_
  have he := Go.Proofs.YtmbiebdcnadhkaaW.PrintLast.enters_ hf hname hb (args ++ caps) w
  have hrun : (execOp a.eval oi).run Try.prog w = .ok (.enter f (args ++ caps)) w := by
    unfold execOp
    simp [hop, resolve, Deferred.ofValue, invoke, ht, hargs, he]
  unfold Oper.wp
  rw [hrun, Oper.upon_enter]
  refine h.mono fun e w'' hh => ?_
  obtain ⟨v, rfl, hk⟩ := hh
  rw [hd]
  exact hK _ _ hk
/-- The first one of whom it holds. -/
def idxOf {α : Type} (q : α → Bool) : List α → Option Nat
  | [] => none
  | a :: l => if q a then some 0 else (idxOf q l).map (· + 1)
def idxI {α : Type} (q : α → Bool) (l : List α) : Int := match idxOf q l with | some i => (i : Int) | none => -1
theorem idxOf_none {α : Type} {q : α → Bool} : ∀ {l : List α}, (∀ a ∈ l, q a = false) → idxOf q l = none
  | [], _ => rfl
  | a :: l, h => by
    unfold idxOf
    rw [if_neg (by rw [h a (by simp)]; decide), idxOf_none (fun x hx => h x (by simp [hx]))]
    rfl
theorem idxOf_some {α : Type} {q : α → Bool} : ∀ {l : List α} {i : Nat} {a : α}, l[i]? = some a → q a = true → (∀ j b, j < i → l[j]? = some b → q b = false) → idxOf q l = some i
  | [], i, a, h, _, _ => by simp at h
  | b :: l, 0, a, h, hq, _ => by
    simp at h
    subst h
    unfold idxOf
    rw [if_pos hq]
  | b :: l, i + 1, a, h, hq, hn => by
    rw [List.getElem?_cons_succ] at h
    unfold idxOf
    rw [if_neg (by rw [hn 0 b (by omega) rfl]; decide), idxOf_some h hq (fun j c hj hc => hn (j + 1) c (by omega) (by rw [List.getElem?_cons_succ]; exact hc))]
    rfl
section
variable {N0 : Nat} {ok : Nat → Prop} {w : World} {v : Value} {xs : List Adr}
set_option maxHeartbeats 1000000 in
set_option maxRecDepth 100000 in
theorem IndexFunc_any (h : kAddr.R TA w N0 ok v xs) (hl : xs.length < 1000000) {f : FuncId} {caps : Array Value} (hf : CloFn f) (I : World → Prop) (hI : ∀ W W', I W → Below W.heap.size W W' → I W') (q : Adr → Bool)
    (hq : ∀ W a, I W → a ∈ xs → Calls Try.prog f (#[.agg #[.int .i64 a.1, .int .i64 a.2]] ++ caps) W fun e W' => e = .returned (.bool (q a)) ∧ Below W.heap.size W W') (h0 : I w) :
    Calls Try.prog 124 #[v, .func (.func f) #[] caps] w fun e w' => e = .returned (.int .i64 (idxI q xs)) ∧ Below w.heap.size w w' := by
  by_cases hv : v = .slice none 0 0
  · subst hv
    have hx : xs = [] := by
      obtain ⟨A, c, he⟩ := Kd.R_slice h
      injection he with _ h2 _
      exact List.eq_nil_of_length_eq_zero h2.symm
    clear h hq
    have HX := Lib.hid hx
    clear hx
    go_enter Try.func124, Try.ntmps124
    go_wp2
    go_loop [8] (fun v8 => v8 = .int .i64 0) (fun _ => 0)
    case atStart => rfl
    case round =>
      subst hrel
      go_wp2
      go_ret
      exact ⟨by rw [HX.out]; rfl, Below.refl _ _⟩
  · obtain ⟨g, cap, rfl, hg, ho, hr⟩ := ARow.of_R h hv
    obtain ⟨n, hn⟩ : ∃ n, n = xs.length := ⟨_, rfl⟩
    have HR := Aside0.mk hr
    have HN := Lib.hid hn
    have HQ := Lib.hid hq
    have HI := Lib.hid hI
    have HI0 := Lib.hid h0
    have hM : n < 1000000 := by omega
    rw [← hn]
    clear h hr hn hl hq hI h0
    go_enter Try.func124, Try.ntmps124
    go_wp2
    go_loopw [8] (fun v8 wr => ∃ k : Nat, k ≤ n ∧ v8 = .int .i64 (k : Int) ∧ Below w.heap.size w wr ∧ ∀ j b, j < k → xs[j]? = some b → q b = false) (fun v8 _ => n - (intOf v8).toNat)
    case atStart => exact ⟨0, Nat.zero_le _, rfl, Below.refl _ _, fun j b hj => by omega⟩
    case round =>
      obtain ⟨k, hk, rfl, hb, hpre⟩ := hrel
      have HB := Aside0.mk hb
      have HPRE := Lib.hid hpre
      clear hb hpre
      by_cases hlt : k < n
      · obtain ⟨a, ha⟩ : ∃ a, xs[k]? = some a := ⟨_, List.getElem?_eq_getElem (by have := HN.out; omega)⟩
        have hc := (HR.out.step (HB.out.block g HR.out.lt)).cell ha
        have c1 := hc.1
        have c2 := hc.2.1
        have HA := Lib.hid ha
        have k0 : (0 : Int) ≤ (k : Int) := by omega
        have k1 : (k : Int) < (n : Int) := by omega
        clear hc ha
        go_wp2_with ((with_reducible refine gate_dst (N := 16) rfl ?_); (refine closL (some 16) rfl rfl 11 hf #[.agg #[.int .i64 a.1, .int .i64 a.2]] rfl rfl (by simp only [List.map_toArray, List.map_cons, List.map_nil]; rfl) ?_; refine (HQ.out _ a (HI.out _ _ HI0.out HB.out) (List.mem_of_getElem? HA.out)).mono ?_; rintro e w1 ⟨rfl, hb1⟩; refine ⟨_, rfl, ?_⟩; have HB1 := Aside0.mk (HB.out.trans (hb1.mono HB.out.size)); clear hb1))
        · have hqa : q a = true := by assumption
          go_ret
          have hi : idxI q xs = (k : Int) := by rw [idxI, idxOf_some HA.out hqa HPRE.out]
          exact ⟨by rw [hi]; rfl, HB1.out⟩
        · have hqa : q a = false := by assumption
          refine ⟨⟨k + 1, by omega, by go_num, HB1.out, fun j b hj hb => ?_⟩, by simp [intOf]; omega⟩
          rcases Nat.lt_or_ge j k with h2 | h2
          · exact HPRE.out j b h2 hb
          · obtain rfl : j = k := by omega
            rw [HA.out] at hb
            rw [← Option.some.inj hb]
            exact hqa
      · obtain rfl : k = n := by omega
        go_wp2
        go_ret
        have hi : idxI q xs = -1 := by
          rw [idxI, idxOf_none (fun a ha => ?_)]
          obtain ⟨j, hj, e⟩ := List.getElem_of_mem ha
          exact HPRE.out j a (by have := HN.out; omega) (by rw [← e, List.getElem?_eq_getElem hj])
        exact ⟨by rw [hi]; rfl, HB.out⟩
end
end Go.Proofs.Ytmbiebdcnadhkaa.Fl

/- slices.DeleteFunc over a row of addresses, walked. No condition. -/
namespace Go.Proofs.Ytmbiebdcnadhkaa.Fl
open Go.RowKit Go.Proofs.YtmbiebdcnadhkaaW.PrintWords Go.Proofs.YtmbiebdcnadhkaaW.PrintMore Go.Maps
set_option linter.unusedSimpArgs false
set_option linter.unusedVariables false
theorem zero_addr (w : World) : (zeroValue TA).run Try.prog w = .ok (.agg #[.int .i64 0, .int .i64 0]) w := by kernel_rfl
theorem zeros_one (n : Nat) : ∀ u ∈ (Builtin.zeroCells (Value.agg #[.int .i64 0, .int .i64 0]).cells n).toList, u.oneCell' = true := by
  intro u hu
  simp only [Builtin.zeroCells, Value.cells, Array.toList_map, List.mem_map] at hu
  obtain ⟨i, _, rfl⟩ := hu
  have : i % 2 = 0 ∨ i % 2 = 1 := by omega
  rcases this with h | h <;> simp [h, Value.oneCell']
set_option maxRecDepth 20000 in
theorem run_clear_row {w : World} {g cap : Nat} {xs : List Adr} (hr : ARow w g cap xs) (i m c : Nat) (ty : TypeId) (hm : 0 < m) (him : i + m ≤ cap) :
    ∃ w', (Builtin.clear_ #[93] ty #[.slice (some ⟨g, i * 2, none⟩) m c]).run Try.prog w = .ok (.tuple #[]) w' ∧ (∀ k, k ≤ i → k ≤ xs.length → ARow w' g cap (xs.take k)) ∧ Upd (fun k => k = g) w w' := by
  obtain ⟨cur, hh, hs, ht⟩ := hr.ex
  obtain ⟨vs, hvs⟩ : ∃ vs, vs = (Builtin.zeroCells (Value.agg #[.int .i64 0, .int .i64 0]).cells m).toList := ⟨_, rfl⟩
  have hl : vs.length = m * 2 := by rw [hvs]; simp [Builtin.zeroCells, Value.cells]
  have h1 : ∀ u ∈ vs, u.oneCell' = true := by rw [hvs]; exact zeros_one m
  have hst := run_storeCells_at Try.prog g (i * 2) TA vs 0 cur w hh (by rw [hl, hs]; omega) h1
  obtain ⟨m', rfl⟩ : ∃ m', m = m' + 1 := ⟨m - 1, by omega⟩
  have hz := zero_addr w
  have hst2 := hst
  rw [hvs] at hst2
  simp only [Nat.add_zero] at hst2
  refine ⟨w.setRow g (cur.toList.take (i * 2) ++ vs ++ cur.toList.drop (i * 2 + vs.length)).toArray, ?_, ?_, ?_⟩
  · rw [hvs]
    simp [Builtin.clear_, run_underlying Try.underlying93, hz, hst2]
  · intro k hk hk2
    have hlen : (cur.toList.take (i * 2) ++ vs ++ cur.toList.drop (i * 2 + vs.length)).length = cap * 2 := by
      rw [List.length_append, List.length_append, List.length_take, List.length_drop, hl, Array.length_toList, hs]
      omega
    have htk : (cur.toList.take (i * 2) ++ vs ++ cur.toList.drop (i * 2 + vs.length)).take (k * 2) = cur.toList.take (k * 2) := by
      rw [List.append_assoc, List.take_append_of_le_length (by rw [List.length_take, Array.length_toList, hs]; omega), List.take_take]
      congr 1
      omega
    refine ⟨⟨_, setRow_heap w g cur _ TA _ hh, by rw [List.size_toArray]; exact hlen, ?_⟩, by have := hr.le; rw [List.length_take]; omega, hr.mx⟩
    rw [flat_take, ← ht, List.take_take, List.length_take, Nat.min_eq_left hk2, Nat.min_eq_left (by omega)]
    exact htk
  · exact ⟨rfl, rfl, rfl, by simp [World.setRow], fun k _ hk => setRow_other w g k _ hk⟩
def keepF (q : Adr → Bool) (xs : List Adr) : List Adr := xs.filter (fun a => !q a)
theorem keepF_pre {q : Adr → Bool} {xs : List Adr} {i : Nat} (h : ∀ j b, j < i → xs[j]? = some b → q b = false) : keepF q (xs.take i) = xs.take i := by
  unfold keepF
  rw [List.filter_eq_self]
  intro a ha
  obtain ⟨j, hj, e⟩ := List.getElem_of_mem ha
  rw [List.length_take] at hj
  rw [List.getElem_take] at e
  rw [h j a (by omega) (by rw [← e]; exact List.getElem?_eq_getElem (by omega))]
  rfl
theorem idxI_spec {α : Type} (q : α → Bool) : ∀ (xs : List α), (idxI q xs = -1 ∧ ∀ a ∈ xs, q a = false) ∨ ∃ (i : Nat) (a : α), idxI q xs = (i : Int) ∧ xs[i]? = some a ∧ q a = true ∧ ∀ j b, j < i → xs[j]? = some b → q b = false := by
  have key : ∀ xs : List α, (idxOf q xs = none ∧ ∀ a ∈ xs, q a = false) ∨ ∃ (i : Nat) (a : α), idxOf q xs = some i ∧ xs[i]? = some a ∧ q a = true ∧ ∀ j b, j < i → xs[j]? = some b → q b = false := by
    intro xs
    induction xs with
    | nil => exact .inl ⟨rfl, fun a ha => by cases ha⟩
    | cons x l ih =>
      cases hx : q x with
      | true => exact .inr ⟨0, x, by simp [idxOf, hx], rfl, hx, fun j b hj => by omega⟩
      | false =>
        rcases ih with ⟨h1, h2⟩ | ⟨i, a, h1, h2, h3, h4⟩
        · refine .inl ⟨by simp [idxOf, hx, h1], fun a ha => ?_⟩
          rcases List.mem_cons.1 ha with rfl | ha
          · exact hx
          · exact h2 a ha
        · refine .inr ⟨i + 1, a, by simp [idxOf, hx, h1], by rw [List.getElem?_cons_succ]; exact h2, h3, fun j b hj hb => ?_⟩
          cases j with
          | zero => simp at hb; rw [← hb]; exact hx
          | succ j => rw [List.getElem?_cons_succ] at hb; exact h4 j b (by omega) hb
  intro xs
  rcases key xs with ⟨h1, h2⟩ | ⟨i, a, h1, h2⟩
  · exact .inl ⟨by simp [idxI, h1], h2⟩
  · exact .inr ⟨i, a, by simp [idxI, h1], h2⟩
/-- The state of the loop: i have been kept, those ahead of j have been looked at. -/
structure DelAt (q : Adr → Bool) (xs ys : List Adr) (i j : Nat) : Prop where
  len : ys.length = xs.length
  lt : i < j
  le : j ≤ xs.length
  kept : ys.take i = keepF q (xs.take j)
  rest : ys.drop j = xs.drop j
theorem DelAt.skip {q : Adr → Bool} {xs ys : List Adr} {i j : Nat} (h : DelAt q xs ys i j) {a : Adr} (ha : xs[j]? = some a) (hq : q a = true) : DelAt q xs ys i (j + 1) := by
  have hj := (List.getElem?_eq_some_iff.1 ha).1
  refine ⟨h.len, by have := h.lt; omega, by omega, ?_, ?_⟩
  · rw [h.kept, List.take_add_one, ha]
    simp [keepF, hq]
  · have := congrArg (List.drop 1) h.rest
    rwa [List.drop_drop, List.drop_drop] at this
theorem DelAt.put {q : Adr → Bool} {xs ys : List Adr} {i j : Nat} (h : DelAt q xs ys i j) {a : Adr} (ha : xs[j]? = some a) (hq : q a = false) : DelAt q xs (ys.set i a) (i + 1) (j + 1) := by
  have hj := (List.getElem?_eq_some_iff.1 ha).1
  have hi := h.lt
  have hl := h.len
  refine ⟨by rw [List.length_set]; exact h.len, by omega, by omega, ?_, ?_⟩
  · rw [List.take_add_one, List.getElem?_set_self (by omega), List.take_set, List.set_eq_of_length_le (by simp; omega), h.kept, List.take_add_one, ha]
    simp [keepF, hq]
  · rw [List.drop_set_of_lt (by omega)]
    have := congrArg (List.drop 1) h.rest
    rwa [List.drop_drop, List.drop_drop] at this
theorem DelAt.start {q : Adr → Bool} {xs : List Adr} {i : Nat} {a : Adr} (ha : xs[i]? = some a) (hq : q a = true) (hp : ∀ j b, j < i → xs[j]? = some b → q b = false) : DelAt q xs xs i (i + 1) := by
  have hi := (List.getElem?_eq_some_iff.1 ha).1
  refine ⟨rfl, by omega, by omega, ?_, rfl⟩
  rw [List.take_add_one, ha]
  have := keepF_pre hp
  unfold keepF at this ⊢
  rw [List.filter_append, this]
  simp [hq]
theorem DelAt.at {q : Adr → Bool} {xs ys : List Adr} {i j : Nat} (h : DelAt q xs ys i j) {a : Adr} (ha : xs[j]? = some a) : ys[j]? = some a := by
  have := congrArg (fun l => l[0]?) h.rest
  simp only [List.getElem?_drop, Nat.add_zero] at this
  rw [this, ha]
theorem ARow.set_other {w : World} {g cap k : Nat} {ys : List Adr} {b : Adr} {x : Value} (h : ARow w g cap ys) (hb : ys[k]? = some b) : (w.setCell ⟨g, k * 2, none⟩ x).cell? ⟨g, k * 2 + 1, none⟩ = some (.int .i64 b.2) := by
  have hc := (h.cell hb).2.1
  obtain ⟨cur, hh, hs, ht⟩ := h.ex
  rw [bcell hh] at hc
  rw [bcell (bset hh _ _), Array.getElem?_setIfInBounds_ne (by omega)]
  exact hc
theorem ARow.set_frozen {w : World} {g cap k : Nat} {ys : List Adr} {x : Value} (h : ARow w g cap ys) : (w.setCell ⟨g, k * 2, none⟩ x).frozen? ⟨g, k * 2 + 1, none⟩ = false := by
  obtain ⟨cur, hh, hs, ht⟩ := h.ex
  exact bfrozen (bset hh _ _) _
section
variable {N0 : Nat} {ok : Nat → Prop} {w : World} {v : Value} {xs : List Adr}
set_option maxHeartbeats 2000000 in
set_option maxRecDepth 100000 in
theorem DeleteFunc_any (h : kAddr.R TA w N0 ok v xs) (hl : xs.length < 1000000) {f : FuncId} {caps : Array Value} (hf : CloFn f) (I : World → Prop) (hI : ∀ W W', I W → Upd (fun k => some k = v.ownBlock) W W' → I W') (q : Adr → Bool)
    (hq : ∀ W a, I W → a ∈ xs → Calls Try.prog f (#[.agg #[.int .i64 a.1, .int .i64 a.2]] ++ caps) W fun e W' => e = .returned (.bool (q a)) ∧ Below W.heap.size W W') (h0 : I w) :
    Calls Try.prog 103 #[v, .func (.func f) #[] caps] w fun e w' => ∃ v', e = .returned v' ∧ kAddr.R TA w' N0 ok v' (keepF q xs) ∧ Upd (fun k => some k = v.ownBlock) w w' := by
  have hIB : ∀ W W', I W → Below W.heap.size W W' → I W' := fun W W' h1 h2 => hI W W' h1 (Upd.ofBelow h2 _)
  have hcall := IndexFunc_any h hl hf I hIB q hq h0
  rcases idxI_spec q xs with ⟨e1, e2⟩ | ⟨i, a0, e1, e2, e3, e4⟩
  · rw [e1] at hcall
    obtain ⟨A, c, rfl⟩ := Kd.R_slice h
    have HR := Aside0.mk h
    have HC := Aside0.mk hcall
    have hk : keepF q xs = xs := by
      have := keepF_pre (q := q) (xs := xs) (i := xs.length) (fun j b _ hb => e2 b (List.mem_of_getElem? hb))
      rwa [List.take_length] at this
    have HK := Lib.hid hk
    clear h hcall e1 e2 hk hq hI hIB h0
    go_enter Try.func103, Try.ntmps103
    go_wp2_with (go_at_call 124; (with_reducible refine HC.out.mono ?_); rintro e w1 ⟨rfl, hb⟩; have HB := Aside0.mk hb; clear hb)
    go_ret
    exact ⟨_, rfl, by rw [HK.out]; exact Kd.R_below HR.out HB.out, Upd.ofBelow HB.out _⟩
  · rw [e1] at hcall
    have hv : v ≠ .slice none 0 0 := by
      rintro rfl
      obtain ⟨A, c, he⟩ := Kd.R_slice h
      injection he with _ h2 _
      have := (List.getElem?_eq_some_iff.1 e2).1
      omega
    obtain ⟨g, cap, rfl, hg, ho, hr⟩ := ARow.of_R h hv
    have hs0 := DelAt.start e2 e3 e4
    obtain ⟨n, hn⟩ : ∃ n, n = xs.length := ⟨_, rfl⟩
    have HR := Aside0.mk hr
    have HN := Lib.hid hn
    have HS := Aside0.mk hs0
    have HC := Aside0.mk hcall
    have HQ := Lib.hid hq
    have HI := Lib.hid hI
    have HI0 := Lib.hid h0
    have hM : n < 1000000 := by omega
    have hi2 : i < n := by have := hs0.lt; have := hs0.le; omega
    have hcap : n ≤ cap := by have := hr.le; omega
    rw [← hn]
    rw [← hn] at HC HI
    clear h hcall e1 e2 e3 e4 hq hI hIB h0 hs0 hr hn hv hl
    go_enter Try.func103, Try.ntmps103
    have j0 : (0 : Int) ≤ (i : Int) := by omega
    have j1 : (i : Int) < (n : Int) := by omega
    have j2 : (n : Int) < 1000000 := by omega
    have j3 : ((i : Int) == -1) = false := by simp
    go_wp2_with (go_at_call 124; (with_reducible refine HC.out.mono ?_); rintro e w1 ⟨rfl, hb⟩; have HB := Aside0.mk hb; clear hb)
    clear j0 j1 j3
    have hB1 := HB.out
    go_loopw [5, 6] (fun v5 v6 wr => ∃ (k1 k2 : Nat) (ys : List Adr), v5 = .int .i64 (k1 : Int) ∧ v6 = .int .i64 (k2 : Int) ∧ DelAt q xs ys k1 k2 ∧ ARow wr g cap ys ∧ Upd (fun k => some k = (Value.slice (some ⟨g, 0, none⟩) n cap).ownBlock) w wr) (fun _ v6 _ => n - (intOf v6).toNat)
    case atStart => exact ⟨i, i + 1, xs, rfl, by go_num, HS.out, HR.out.step (hB1.block g HR.out.lt), Upd.ofBelow hB1 _⟩
    case round =>
      obtain ⟨k1, k2, ys, rfl, rfl, hd, hrow, hup⟩ := hrel
      have HD := Aside0.mk hd
      have HW := Aside0.mk hrow
      have HU := Aside0.mk hup
      have m1 := hd.lt
      have m2 : k2 ≤ n := by have := hd.le; have := HN.out; omega
      have m3 : (0 : Int) ≤ (k1 : Int) := by omega
      have m4 : (k1 : Int) < (k2 : Int) := by omega
      have m5 : (k2 : Int) ≤ (n : Int) := by omega
      clear hd hrow hup hB1
      by_cases hlt : k2 < n
      · obtain ⟨a, ha⟩ : ∃ a, xs[k2]? = some a := ⟨_, List.getElem?_eq_getElem (by have := HN.out; omega)⟩
        have hcl := HW.out.cell (HD.out.at ha)
        have c1 := hcl.1
        have c2 := hcl.2.1
        have HA := Lib.hid ha
        have m6 : (k2 : Int) < (n : Int) := by omega
        clear hcl ha
        obtain ⟨b, hb⟩ : ∃ b, ys[k1]? = some b := ⟨_, List.getElem?_eq_getElem (by have := HN.out; have := HD.out.len; omega)⟩
        have HBB := Lib.hid hb
        have hIr : I (wr.alloc (.cells #[.int .i64 a.1, .int .i64 a.2] TA)) := HI.out _ _ HI0.out (HU.out.trans (Upd.alloc _ wr _) (fun _ h _ => h))
        have HIR := Lib.hid hIr
        have glt : g < wr.heap.size := HW.out.lt
        clear hb hIr
        cases hqa : q a with
        | true =>
          have HQA := Lib.hid hqa
          clear hqa
          go_wp2_with ((with_reducible refine gate_dst (N := 28) rfl ?_); (refine closL (some 28) rfl rfl 26 hf #[.agg #[.int .i64 a.1, .int .i64 a.2]] rfl rfl (by simp only [List.map_toArray, List.map_cons, List.map_nil]; rfl) ?_; refine (HQ.out _ a HIR.out (List.mem_of_getElem? HA.out)).mono ?_; rw [HQA.out]; rintro e w1 ⟨rfl, hb1⟩; refine ⟨_, rfl, ?_⟩; have hb2 := below_then (below_alloc (Below.refl _ _) _) (by simp) hb1; have HB2 : Aside0 (Below wr.heap.size wr w1) := Aside0.mk hb2; have hbx : w1.heap[wr.heap.size]? = some (.cells #[.int .i64 a.1, .int .i64 a.2] TA (0, 0)) := (hb1.block _ (by simp)).trans (blk_new wr _); have d1 : w1.cell? ⟨wr.heap.size, 0, none⟩ = some (.int .i64 a.1) := bcell hbx 0; have d2 : w1.cell? ⟨wr.heap.size, 1, none⟩ = some (.int .i64 a.2) := bcell hbx 1; have hrw := HW.out.step (hb2.block g glt); have hce := hrw.cell HBB.out; have e1 := hce.1; have e2 := hce.2.1; have e3 := hce.2.2.1; have e4 := hce.2.2.2; have HRW := Aside0.mk hrw; clear hb1 hb2 hbx hrw hce))
          refine ⟨⟨k1, k2 + 1, ys, rfl, by go_num, HD.out.skip HA.out HQA.out, HRW.out, HU.out.trans (Upd.ofBelow HB2.out _) (fun _ h _ => h)⟩, by simp [intOf]; omega⟩
        | false =>
          have HQA := Lib.hid hqa
          clear hqa
          go_wp2_with ((with_reducible refine gate_dst (N := 28) rfl ?_); (refine closL (some 28) rfl rfl 26 hf #[.agg #[.int .i64 a.1, .int .i64 a.2]] rfl rfl (by simp only [List.map_toArray, List.map_cons, List.map_nil]; rfl) ?_; refine (HQ.out _ a HIR.out (List.mem_of_getElem? HA.out)).mono ?_; rw [HQA.out]; rintro e w1 ⟨rfl, hb1⟩; refine ⟨_, rfl, ?_⟩; have hb2 := below_then (below_alloc (Below.refl _ _) _) (by simp) hb1; have HB2 : Aside0 (Below wr.heap.size wr w1) := Aside0.mk hb2; have hbx : w1.heap[wr.heap.size]? = some (.cells #[.int .i64 a.1, .int .i64 a.2] TA (0, 0)) := (hb1.block _ (by simp)).trans (blk_new wr _); have d1 : w1.cell? ⟨wr.heap.size, 0, none⟩ = some (.int .i64 a.1) := bcell hbx 0; have d2 : w1.cell? ⟨wr.heap.size, 1, none⟩ = some (.int .i64 a.2) := bcell hbx 1; have hrw := HW.out.step (hb2.block g glt); have hce := hrw.cell HBB.out; have e1 := hce.1; have e2 := hce.2.1; have e3 := hce.2.2.1; have e4 := hce.2.2.2; have s2 : (w1.setCell ⟨g, k1 * 2, none⟩ (.int .i64 a.1)).cell? ⟨g, k1 * 2 + 1, none⟩ = some (.int .i64 b.2) := ARow.set_other hrw HBB.out; have s3 : (w1.setCell ⟨g, k1 * 2, none⟩ (.int .i64 a.1)).frozen? ⟨g, k1 * 2 + 1, none⟩ = false := ARow.set_frozen hrw; have HRW := Aside0.mk hrw; clear hb1 hb2 hbx hrw hce))
          refine ⟨⟨k1 + 1, k2 + 1, ys.set k1 a, by go_num, by go_num, HD.out.put HA.out HQA.out, HRW.out.set k1 a (by have := HN.out; have := HD.out.len; omega), ?_⟩, by simp [intOf]; omega⟩
          exact ((HU.out.trans (Upd.ofBelow HB2.out _) (fun _ h _ => h)).trans (Upd.setCell w1 (p := ⟨g, k1 * 2, none⟩) (S := fun k => some k = (Value.slice (some ⟨g, 0, none⟩) n cap).ownBlock) rfl _) (fun _ h _ => h)).trans (Upd.setCell _ (p := ⟨g, k1 * 2 + 1, none⟩) (S := fun k => some k = (Value.slice (some ⟨g, 0, none⟩) n cap).ownBlock) rfl _) (fun _ h _ => h)
      · obtain rfl : k2 = n := by omega
        obtain ⟨w2, hrc, hr2, hu2⟩ := run_clear_row HW.out k1 (k2 - k1) (cap - k1) 0 (by omega) (by omega)
        have hne : ¬ (cap = k1) := by omega
        have m7 : (k2 : Int) ≤ (cap : Int) := by omega
        have HR2 := Lib.hid hr2
        have HU2 := Aside0.mk hu2
        clear hr2 hu2
        go_wp2
        go_ret
        have hkeep : ys.take k1 = keepF q xs := by
          rw [HD.out.kept, HN.out, List.take_length]
        have hle : k1 ≤ ys.length := by have := HD.out.len; have := HN.out; omega
        have h1 := (HR2.out k1 (Nat.le_refl _) hle).to_R (N0 := N0) (ok := ok) hg ho
        rw [hkeep] at h1
        have hlen : (keepF q xs).length = k1 := by rw [← hkeep, List.length_take]; omega
        rw [hlen] at h1
        exact ⟨_, rfl, h1, HU.out.trans HU2.out (fun k hk _ => by rw [hk]; rfl)⟩
end
end Go.Proofs.Ytmbiebdcnadhkaa.Fl

/- The device: a segment erased: walked. No condition. -/
namespace Go.Proofs.Ytmbiebdcnadhkaa.Fl
open Go.RowKit Go.Proofs.YtmbiebdcnadhkaaW.PrintWords Go.Proofs.YtmbiebdcnadhkaaW.PrintMore Go.Maps
set_option linter.unusedSimpArgs false
set_option linter.unusedVariables false
theorem Ents.drew {N0 : Nat} {ok : Nat → Prop} {w : World} {es : List MapEntry} {qs : List (Adr × List Int)} (h : Ents N0 ok w es qs) : Ents N0 ok w.drew es qs := Ents.imp (fun v xs (hr : Row w N0 ok v xs) => (hr.step (fun _ _ _ => rfl) : Row w.drew N0 ok v xs)) h
def delTo (s : Int) : Nat → List (Adr × List Int) → List (Adr × List Int)
  | 0, l => l
  | k + 1, l => del (s, (k : Int)) (delTo s k l)
theorem nodup_delTo (s : Int) : ∀ (k : Nat) {l : List (Adr × List Int)}, Nodup l → Nodup (delTo s k l)
  | 0, _, h => h
  | k + 1, _, h => nodup_del (nodup_delTo s k h)
theorem delTo_mem (s : Int) : ∀ (k : Nat) {l : List (Adr × List Int)} {q : Adr × List Int}, q ∈ delTo s k l → q ∈ l
  | 0, _, _, h => h
  | k + 1, _, _, h => delTo_mem s k (del_mem h)
theorem look_delTo (s : Int) (c : Adr) : ∀ (k : Nat) {l : List (Adr × List Int)}, Nodup l → look c (delTo s k l) = if c.1 = s ∧ 0 ≤ c.2 ∧ c.2 < (k : Int) then none else look c l
  | 0, l, _ => by rw [if_neg (by omega)]; rfl
  | k + 1, l, h => by
    show look c (del (s, (k : Int)) (delTo s k l)) = _
    rw [look_del _ _ (nodup_delTo s k h), look_delTo s c k h]
    by_cases h1 : c = (s, (k : Int))
    · rw [if_pos h1, if_pos (by rw [h1]; simp; omega)]
    · rw [if_neg h1]
      by_cases h2 : c.1 = s ∧ 0 ≤ c.2 ∧ c.2 < (k : Int)
      · rw [if_pos h2, if_pos ⟨h2.1, h2.2.1, by omega⟩]
      · rw [if_neg h2, if_neg (fun h3 => h2 ⟨h3.1, h3.2.1, by
          have : c.2 ≠ (k : Int) := fun e => h1 (by rw [← e, ← h3.1])
          omega⟩)]
def eraseD (D : PD) (s : Int) : PD := { D with mp := delTo s D.s.2.1.toNat D.mp, dirty := keepF (fun a => decide (a.1 = s)) D.dirty }
set_option maxHeartbeats 1000000 in
set_option maxRecDepth 100000 in
theorem Erase1_any (a : Adr) (b : Nat) (s : Int) (w : World) (hb : w.cell? ⟨b, 0, none⟩ = some (.int .i64 s)) :
    Calls Try.prog 102 (#[.agg #[.int .i64 a.1, .int .i64 a.2]] ++ #[.pointer (some ⟨b, 0, none⟩)]) w fun e w' => e = .returned (.bool (decide (a.1 = s))) ∧ Below w.heap.size w w' := by
  have hlt := blt_of_cell hb
  have hb2 : (w.alloc (.cells #[.int .i64 a.1, .int .i64 a.2] TA)).cell? ⟨b, 0, none⟩ = some (.int .i64 s) := (World.cell?_alloc_lt w _ _ hlt).trans hb
  clear hb
  go_enter Try.func102, Try.ntmps102
  go_wp2
  go_ret
  exact ⟨by first | rfl | (simp; done), below_alloc (Below.refl _ _) _⟩
theorem erase1_clo : CloFn 102 := ⟨_, Try.func102, by kernel_rfl, rfl⟩
theorem erase_keepB {w w1 w2 : World} {v : Value} {xs : List Adr} {k : Nat} {o : Obj} (h : kAddr.R TA w1 w.heap.size (fun k => w.heap.size ≤ k) v xs) (hu : Upd (fun k => some k = v.ownBlock) w1 w2) (hk : k < w.heap.size) (ho : w1.heap[k]? = some o) : w2.heap[k]? = some o :=
  hu.blk ho (fun e => by have := h.1 k e.symm; omega)
theorem erase_keep {w w1 : World} {v : Value} {xs : List Adr} {k : Nat} {x : Value} (h : kAddr.R TA w1 w.heap.size (fun k => w.heap.size ≤ k) v xs) (hk : k < w.heap.size) :
    ∀ W W' : World, W.cell? ⟨k, 0, none⟩ = some x → Upd (fun k => some k = v.ownBlock) W W' → W'.cell? ⟨k, 0, none⟩ = some x := fun W W' hc hu => by
  rw [World.cell?_of_block (w := W) (a := ⟨k, 0, none⟩) (hu.block k (World.block_lt_of_cell? W ⟨k, 0, none⟩ hc) (fun e => by have := h.1 k e.symm; omega))]
  exact hc
theorem dev_end {N0 p : Nat} {D : PD} {ok ok' : Nat → Prop} {w w1 : World} {m : Nat} {v v' : Value} {es es' : Array MapEntry} {ck ck' : Nat} {mp' : List (Adr × List Int)} {d' : List Adr} (hD : DevAt N0 p D ok w m v es ck)
    (hp : w1.heap[p]? = some (.cells #[.int .i64 D.s.1, .int .i64 D.s.2.1, .int .i64 D.s.2.2, .map (some m), v] TD (0, 0))) (hm : w1.heap[m]? = some (.map es' ck')) (he : Ents N0 ok' w1 es'.toList mp') (hd : kAddr.R TA w1 N0 ok' v' d') (hn : Nodup mp') (hl : ∀ q ∈ mp', q.2.length = D.s.2.2.toNat) (hi : ∀ a ∈ d', InR a) (hok : ∀ k, ok k → ok' k) :
    DevIs N0 p { D with mp := mp', dirty := d' } ok' (w1.setCell ⟨p, 4, none⟩ v') := by
  refine ⟨m, v', es', ck', hD.base, hok _ hD.okp, by rw [bset hp]; rfl, hok _ hD.okm, hD.basem, ?_, ?_, ?_, hD.shape, hi, hn, hl⟩
  · rw [Below.heap_setCell _ _ _ _ (Ne.symm (map_ne hp hm))]
    exact hm
  · exact he.imp (fun _ _ hr => Row.typed (w := w1) hr (fun k cs hk _ => Below.heap_setCell _ _ _ _ (not_typ hp TD_ne.1 hk)))
  · exact A_typed hd (fun k cs hk _ => Below.heap_setCell _ _ _ _ (not_typ hp TD_ne.2.1 hk))
section
variable {N0 p : Nat} {D : PD} {ok : Nat → Prop} {w : World}
set_option maxHeartbeats 2000000 in
set_option maxRecDepth 100000 in
theorem Erase_ok (hD : DevIs N0 p D ok w) (s : Int) (h0 : hasB D.s s 0 = true) (hm : D.dirty.length < 1000000) :
    Calls Try.prog 66 #[.pointer (some ⟨p, 0, none⟩), .int .i64 s] w fun e w' => e = .returned (.int .i64 0) ∧ DevIs N0 p (eraseD D s) (fun k => ok k ∨ w.heap.size ≤ k) w' ∧ Upd (Mut ok w) w w' := by
  obtain ⟨m, v, es, ck, hD⟩ := hD
  have HS := Lib.hid hD.shape
  have HP := Lib.hid hD.blk
  have HD := Aside0.mk hD
  have HE := Lib.hid (show hasE D.s s 0 = 0 by simp [hasE, h0])
  have HH := Lib.hid h0
  obtain ⟨W, hW⟩ : ∃ W, W = w.alloc (.cells #[.int .i64 s] 3) := ⟨_, rfl⟩
  have hlp := blt HP.out
  have q1 : W.heap[p]? = some (.cells #[.int .i64 D.s.1, .int .i64 D.s.2.1, .int .i64 D.s.2.2, .map (some m), v] TD (0, 0)) := by rw [hW]; exact (Below.heap_alloc _ _ _ hlp).trans HP.out
  have q2 : W.heap[w.heap.size]? = some (.cells #[.int .i64 s] 3 (0, 0)) := by rw [hW]; exact blk_new w _
  have q3 : Below w.heap.size w W := by rw [hW]; exact below_alloc (Below.refl _ _) _
  have Q1 := Lib.hid q1; have Q2 := Lib.hid q2; have Q3 := Aside0.mk q3
  have k2 : W.cell? ⟨w.heap.size, 0, none⟩ = some (.int .i64 s) := bcell q2 0
  have k1 : W.cell? ⟨p, 1, none⟩ = some (.int .i64 D.s.2.1) := bcell q1 1
  obtain ⟨n, hn⟩ : ∃ n : Nat, D.s.2.1 = (n : Int) := ⟨D.s.2.1.toNat, by have := hD.shape.b0; omega⟩
  have hn1 : n ≤ 64 := by have := hD.shape.b1; omega
  have HN := Lib.hid hn
  rw [hn] at k1
  have HW := Lib.hid hW
  clear hD h0 q1 q2 q3 hn hW
  go_enter Try.func66, Try.ntmps66
  go_wp2_with fail
  rw [← HW.out]
  go_wp2_with (go_at_call 91; (with_reducible refine (has_blk HS.out Q1.out s 0).mono ?_); rw [HE.out]; rintro e w' ⟨rfl, rfl⟩)
  have HLP := Lib.hid (blt HD.out.map)
  go_loopw [20] (fun v20 wr => ∃ (k : Nat) (es' : Array MapEntry) (ck' : Nat), k ≤ n ∧ v20 = .int .i64 (k : Int) ∧ wr.heap[m]? = some (.map es' ck') ∧ Ents N0 ok wr es'.toList (delTo s k D.mp) ∧ Upd (fun j => j = m) W wr) (fun v20 _ => n - (intOf v20).toNat)
  case atStart => exact ⟨0, es, ck, Nat.zero_le _, rfl, (Q3.out.block m (blt HD.out.map)).trans HD.out.map, HD.out.ents.imp (fun _ _ hr => hr.step (fun k _ hlt => Q3.out.block k hlt)), Upd.refl _ _⟩
  case round =>
    obtain ⟨k, es', ck', hk, rfl, hmb, hen, hup⟩ := hrel
    have HMB := Lib.hid hmb
    have HEN := Aside0.mk hen
    have HUP := Aside0.mk hup
    clear hmb hen hup
    by_cases hlt : k < n
    · have pm : p ≠ m := map_ne HP.out HD.out.map
      have bm : w.heap.size ≠ m := Nat.ne_of_gt (blt HD.out.map)
      have b1 : wr.heap[p]? = some (.cells #[.int .i64 D.s.1, .int .i64 D.s.2.1, .int .i64 D.s.2.2, .map (some m), v] TD (0, 0)) := HUP.out.blk Q1.out pm
      have b2 : wr.heap[w.heap.size]? = some (.cells #[.int .i64 s] 3 (0, 0)) := HUP.out.blk Q2.out bm
      have c1 : wr.cell? ⟨p, 3, none⟩ = some (.map (some m)) := bcell b1 3
      have c2 : wr.cell? ⟨w.heap.size, 0, none⟩ = some (.int .i64 s) := bcell b2 0
      have hin : InR (s, (k : Int)) := by
        have h3 := hasB_inr HS.out HH.out
        exact ⟨h3.a0, h3.a1, by simp, by simp; omega⟩
      obtain ⟨es2, ck2, hr2, he2⟩ := run_delete (w := wr.drew) HMB.out HEN.out.drew (nodup_delTo s k HD.out.nodup) hin 0
      have hr3 : (Builtin.delete_ #[TM, TA] 0 #[.map (some m), .agg #[.int .i64 s, .int .i64 (k : Int)]]).run Try.prog wr.drew = .ok (.tuple #[]) (putMap wr.drew m es2 ck2) := hr2
      have c3 := putMap_cell (w1 := wr.drew) c1 pm es2 ck2
      have c4 := putMap_cell (w1 := wr.drew) c2 bm es2 ck2
      have HE2 := Aside0.mk he2
      have kn : (k : Int) < (n : Int) := by omega
      clear hr2 b1 b2 hin he2
      go_wp2
      go_region_held3 (fun w' => w'.cell? ⟨p, 3, none⟩ = some (.map (some m)) ∧ w'.cell? ⟨w.heap.size, 0, none⟩ = some (.int .i64 s)) (first | go_keep | exact ⟨c3, c4⟩) (fail)
      go_wp2
      go_roundw
      case rel => exact ⟨k + 1, es2, ck2, by omega, by go_num, putMap_same HMB.out es2 ck2, HE2.out, (HUP.out.trans (Upd.ofBelow ((Below.refl _ wr).drew) _) (fun _ h _ => h)).trans (putMap_upd (S := fun j => j = m) wr.drew rfl es2 ck2) (fun _ h _ => h)⟩
      case measure => simp [intOf]; omega
    · obtain rfl : k = n := by omega
      have pm : p ≠ m := map_ne HP.out HD.out.map
      have bm : w.heap.size ≠ m := Nat.ne_of_gt (blt HD.out.map)
      have b1 : wr.heap[p]? = some (.cells #[.int .i64 D.s.1, .int .i64 D.s.2.1, .int .i64 D.s.2.2, .map (some m), v] TD (0, 0)) := HUP.out.blk Q1.out pm
      have b2 : wr.heap[w.heap.size]? = some (.cells #[.int .i64 s] 3 (0, 0)) := HUP.out.blk Q2.out bm
      have c1 : wr.cell? ⟨p, 4, none⟩ = some v := bcell b1 4
      have hRv : kAddr.R TA wr N0 ok v D.dirty := A_typed (Kd.R_below HD.out.dirty Q3.out) (fun j cs hj _ => HUP.out.block j (blt hj) (map_ne hj ((Q3.out.block m HLP.out).trans HD.out.map)))
      have RV := Aside0.mk hRv
      have B1 := Lib.hid b1
      have B2 := Lib.hid b2
      clear hRv b1 b2
      go_wp2_with (first | (go_at_call 104; (with_reducible refine (Clone_any RV.out hm).mono ?_); rintro e w1 ⟨v1, rfl, hr1, hnil, hb1⟩; have HR1 := Aside0.mk hr1; have HB1 := Aside0.mk hb1; clear hr1 hnil hb1) | (go_at_call 103; refine (DeleteFunc_any HR1.out hm erase1_clo (fun W => W.cell? ⟨w.heap.size, 0, none⟩ = some (.int .i64 s)) (erase_keep HR1.out (blt B2.out)) (fun a => decide (a.1 = s)) (fun W a hW _ => Erase1_any a _ s W hW) ((HB1.out.cell (p := ⟨w.heap.size, 0, none⟩) (blt B2.out)).trans (bcell B2.out 0))).mono ?_; rintro e w2 ⟨v2, rfl, hr2, hu2⟩; obtain ⟨A2, c2, rfl⟩ := Kd.R_slice hr2; have h6 := erase_keepB HR1.out hu2 (blt B1.out) ((HB1.out.block p (blt B1.out)).trans B1.out); have HR2 := Aside0.mk hr2; have HU2 := Aside0.mk hu2; have c6 : w2.cell? ⟨p, 4, none⟩ = some v := bcell h6 4; have f6 : w2.frozen? ⟨p, 4, none⟩ = false := bfrozen h6 4; have H6 := Lib.hid h6; clear hr2 hu2 h6))
      go_ret
      have hmv : ∀ j, j < wr.heap.size → w2.heap[j]? = wr.heap[j]? := fun j hj => (HU2.out.block j (Nat.lt_of_lt_of_le hj HB1.out.size) (fun e => by have := HR1.out.1 j e.symm; omega)).trans (HB1.out.block j hj)
      have hm0 : (wr.heap[m]? = some (.map es' ck')) := HMB.out
      have hs1 : w.heap.size ≤ wr.heap.size := by have := Q3.out.size; have := HUP.out.size; omega
      have hN0 : N0 ≤ w.heap.size := by have := HD.out.base; omega
      have hpg : D.s.2.1.toNat = k := by rw [HN.out]; rfl
      have hfin := dev_end (ok' := fun k => ok k ∨ w.heap.size ≤ k) (v' := .slice A2 (keepF (fun a => decide (a.1 = s)) D.dirty).length c2) HD.out H6.out ((hmv m (blt hm0)).trans hm0) (HEN.out.imp (fun _ _ hr => (hr.step (fun j _ hlt => hmv j hlt)).mono (fun _ h => .inl h))) (Kd.R_mono (Kd.R_lower HR2.out (by omega)) (fun j hj => .inr (Nat.le_trans hs1 hj))) (nodup_delTo s k HD.out.nodup) (fun q hq => HD.out.lens q (delTo_mem s k hq)) (fun a ha => HD.out.inr a (List.mem_filter.1 ha).1) (fun _ h => .inl h)
      refine ⟨rfl, ?_, ?_⟩
      · rw [eraseD, hpg]; exact hfin
      · have u1 : Upd (Mut ok w) w wr := (Upd.ofBelow Q3.out _).trans (HUP.out.mono (S' := Mut ok w) (fun j hj _ => by rw [hj]; exact HD.out.mutm)) (fun _ h _ => h)
        have u2 : Upd (Mut ok w) w w2 := u1.trans ((Upd.ofBelow HB1.out (fun j => some j = (v1).ownBlock)).trans HU2.out (fun _ h _ => h)) (fun j hj hlt => by have := HR1.out.1 j hj.symm; omega)
        exact u2.trans (Upd.setCell w2 (p := ⟨p, 4, none⟩) HD.out.mutp _) (fun _ h _ => h)
set_option maxHeartbeats 1000000 in
set_option maxRecDepth 100000 in
theorem Erase_no (hD : DevIs N0 p D ok w) (s : Int) (h0 : hasB D.s s 0 = false) :
    Calls Try.prog 66 #[.pointer (some ⟨p, 0, none⟩), .int .i64 s] w fun e w' => e = .returned (.int .i64 6) ∧ Below w.heap.size w w' := by
  obtain ⟨m, v, es, ck, hD⟩ := hD
  have HS := Lib.hid hD.shape
  have HE := Lib.hid (show hasE D.s s 0 = 6 by simp [hasE, h0])
  have hp := hD.blk
  obtain ⟨W, hW⟩ : ∃ W, W = w.alloc (.cells #[.int .i64 s] 3) := ⟨_, rfl⟩
  have q1 : W.heap[p]? = some (.cells #[.int .i64 D.s.1, .int .i64 D.s.2.1, .int .i64 D.s.2.2, .map (some m), v] TD (0, 0)) := by rw [hW]; exact (Below.heap_alloc _ _ _ (blt hp)).trans hp
  have k2 : W.cell? ⟨w.heap.size, 0, none⟩ = some (.int .i64 s) := bcell (by rw [hW]; exact blk_new w _ : W.heap[w.heap.size]? = some (.cells #[.int .i64 s] 3 (0, 0))) 0
  have Q1 := Lib.hid q1
  have HW := Lib.hid hW
  clear hD h0 q1 hW hp
  go_enter Try.func66, Try.ntmps66
  go_wp2_with fail
  rw [← HW.out]
  go_wp2_with (go_at_call 91; (with_reducible refine (has_blk HS.out Q1.out s 0).mono ?_); rw [HE.out]; rintro e w' ⟨rfl, rfl⟩)
  go_ret
  exact ⟨rfl, by rw [HW.out]; exact below_alloc (Below.refl _ _) _⟩
def eraseE (D : PD) (s : Int) : Int := if hasB D.s s 0 then 0 else 6
def erasedD (D : PD) (s : Int) : PD := if hasB D.s s 0 then eraseD D s else D
theorem Erase_any (hD : DevIs N0 p D ok w) (s : Int) (hm : D.dirty.length < 1000000) :
    Calls Try.prog 66 #[.pointer (some ⟨p, 0, none⟩), .int .i64 s] w fun e w' => e = .returned (.int .i64 (eraseE D s)) ∧ DevIs N0 p (erasedD D s) (fun k => ok k ∨ w.heap.size ≤ k) w' ∧ Upd (Mut ok w) w w' := by
  cases h0 : hasB D.s s 0 with
  | true =>
    rw [eraseE, erasedD, if_pos h0, if_pos h0]
    exact Erase_ok hD s h0 hm
  | false =>
    rw [eraseE, erasedD, if_neg (by rw [h0]; decide), if_neg (by rw [h0]; decide)]
    exact (Erase_no hD s h0).mono fun e w' ⟨h1, h2⟩ => ⟨h1, (hD.below h2).mono (fun _ h => .inl h), Upd.ofBelow h2 _⟩
end
end Go.Proofs.Ytmbiebdcnadhkaa.Fl

/- The device: a crash: walked. No condition. -/
namespace Go.Proofs.Ytmbiebdcnadhkaa.Fl
open Go.RowKit Go.Proofs.YtmbiebdcnadhkaaW.PrintWords Go.Proofs.YtmbiebdcnadhkaaW.PrintMore Go.Maps
set_option linter.unusedSimpArgs false
set_option linter.unusedVariables false
structure PlanT where
  keep : Int
  torn : Int
  cut : Int
theorem C_take {α : Type} {d : Kd α} {w : World} {A : Option Addr} {n : Nat} {l : List α} (h : d.C w A n l) (i : Nat) (hi : i ≤ n) : d.C w A i (l.take i) := by
  obtain ⟨h1, h2, h3⟩ := h
  refine ⟨by rw [List.length_take]; omega, by omega, fun hp => ?_⟩
  obtain ⟨ad, e, hc⟩ := h3 (by omega)
  refine ⟨ad, e, fun j p hj => hc j p ?_⟩
  rw [List.getElem?_take] at hj
  split at hj
  · exact hj
  · cases hj
section
variable {N0 p : Nat} {D : PD} {ok : Nat → Prop} {w : World}
attribute [local go_sem] max_two max2_int min_two min2_int
end
end Go.Proofs.Ytmbiebdcnadhkaa.Fl

/- The device: made: walked. No condition. -/
namespace Go.Proofs.Ytmbiebdcnadhkaa.Fl
open Go.RowKit Go.Proofs.YtmbiebdcnadhkaaW.PrintWords Go.Proofs.YtmbiebdcnadhkaaW.PrintMore Go.Maps
set_option linter.unusedSimpArgs false
set_option linter.unusedVariables false
def shapeB (s : Int × Int × Int) : Bool := fitsB s.1 1 16 && fitsB s.2.1 1 64 && fitsB s.2.2 16 256
theorem shapeB_ok {s : Int × Int × Int} (h : shapeB s = true) : ShapeOk s := by
  simp [shapeB, fitsB] at h
  exact ⟨by omega, by omega, by omega, by omega, by omega, by omega⟩
set_option maxHeartbeats 1000000 in
set_option maxRecDepth 100000 in
theorem New_no (s : Int × Int × Int) (h : shapeB s = false) (w : World) : Calls Try.prog 11 #[.agg #[.int .i64 s.1, .int .i64 s.2.1, .int .i64 s.2.2]] w fun e w' => e = .returned (.tuple #[.pointer none, .int .i64 1]) ∧ Below w.heap.size w w' := by
  have hR : ∀ W, Calls Try.prog 52 #[.agg #[.int .i64 s.1, .int .i64 s.2.1, .int .i64 s.2.2]] W fun e w' => e = .returned (.bool false) ∧ Below W.heap.size W w' := fun W => by have := Right_any s W; rw [← shapeB, h] at this; exact this
  have HR := Lib.hid hR
  clear hR h
  go_enter Try.func11, Try.ntmps11
  go_wp2_with (go_at_call 52; (with_reducible refine (HR.out _).mono ?_); rintro e w1 ⟨rfl, hb⟩; have HB := Aside0.mk (below_then (below_alloc (Below.refl _ _) _) (by simp) hb); clear hb)
  go_ret2
  exact ⟨rfl, HB.out⟩
theorem Ents.empty (N0 : Nat) (ok : Nat → Prop) (w : World) : Ents N0 ok w [] [] := trivial
set_option maxHeartbeats 1000000 in
set_option maxRecDepth 100000 in
theorem New_ok (s : Int × Int × Int) (h : shapeB s = true) (w : World) (N0 : Nat) (hN : N0 ≤ w.heap.size) : Calls Try.prog 11 #[.agg #[.int .i64 s.1, .int .i64 s.2.1, .int .i64 s.2.2]] w fun e w' => ∃ p, e = .returned (.tuple #[.pointer (some ⟨p, 0, none⟩), .int .i64 0]) ∧ DevIs N0 p ⟨s, [], []⟩ (fun k => w.heap.size ≤ k) w' ∧ Below w.heap.size w w' := by
  have hR : ∀ W, Calls Try.prog 52 #[.agg #[.int .i64 s.1, .int .i64 s.2.1, .int .i64 s.2.2]] W fun e w' => e = .returned (.bool true) ∧ Below W.heap.size W w' := fun W => by have := Right_any s W; rw [← shapeB, h] at this; exact this
  have HR := Lib.hid hR
  have HS := Lib.hid (shapeB_ok h)
  have HN := Lib.hid hN
  have hmm := @run_makeMap Try.prog
  clear hR h hN
  go_enter Try.func11, Try.ntmps11
  go_wp2_with (go_at_call 52; (with_reducible refine (HR.out _).mono ?_); rintro e w1 ⟨rfl, hb⟩; have hbx : w1.heap[w.heap.size]? = some (.cells #[.int .i64 s.1, .int .i64 s.2.1, .int .i64 s.2.2] 23 (0, 0)) := (hb.block _ (by simp)).trans (blk_new w _); have b0 : w1.cell? ⟨w.heap.size, 0, none⟩ = some (.int .i64 s.1) := bcell hbx 0; have b1 : w1.cell? ⟨w.heap.size, 1, none⟩ = some (.int .i64 s.2.1) := bcell hbx 1; have b2 : w1.cell? ⟨w.heap.size, 2, none⟩ = some (.int .i64 s.2.2) := bcell hbx 2; have HB := Aside0.mk (below_then (below_alloc (Below.refl _ _) _) (by simp) hb); clear hb hbx)
  go_ret2
  have h1 := HB.out.size
  have h2 := HN.out
  refine ⟨w1.heap.size + 1, rfl, ⟨w1.heap.size, .slice none 0 0, #[], 0, by omega, Nat.le_succ_of_le h1, ?_, h1, by omega, ?_, Ents.empty _ _ _, Kd.R_nil _ _ _ _ _, HS.out, by simp, List.Pairwise.nil, by simp⟩, ?_⟩
  · have := blk_new (w1.alloc (.map #[] 0)) (.cells #[.int .i64 s.1, .int .i64 s.2.1, .int .i64 s.2.2, .map (some w1.heap.size), .slice none 0 0] TD (0, 0))
    simpa using this
  · exact (Below.heap_alloc _ _ _ (by simp)).trans (blk_new w1 _)
  · exact (HB.out.alloc h1 _).alloc (by simp; omega) _
end Go.Proofs.Ytmbiebdcnadhkaa.Fl

/- The document's device: its row of pages, read and written cell by cell. No condition. -/
namespace Go.Proofs.Ytmbiebdcnadhkaa.Fl
open Go.RowKit Go.Proofs.YtmbiebdcnadhkaaW.PrintWords Go.Proofs.YtmbiebdcnadhkaaW.PrintMore Go.Maps
set_option linter.unusedSimpArgs false
set_option linter.unusedVariables false
abbrev PgC := Adr × Value × Bool
def flatP : List PgC → List Value
  | [] => []
  | q :: l => .int .i64 q.1.1 :: .int .i64 q.1.2 :: q.2.1 :: .bool q.2.2 :: flatP l
theorem flatP_at : ∀ (l : List PgC) (i : Nat) (a : PgC), l[i]? = some a → (flatP l)[i * 4]? = some (.int .i64 a.1.1) ∧ (flatP l)[i * 4 + 1]? = some (.int .i64 a.1.2) ∧ (flatP l)[i * 4 + 2]? = some a.2.1 ∧ (flatP l)[i * 4 + 3]? = some (.bool a.2.2)
  | [], i, a, h => by simp at h
  | b :: l, 0, a, h => by
    simp at h
    subst h
    exact ⟨rfl, rfl, rfl, rfl⟩
  | b :: l, i + 1, a, h => by
    rw [List.getElem?_cons_succ] at h
    have := flatP_at l i a h
    rw [show (i + 1) * 4 = i * 4 + 1 + 1 + 1 + 1 by omega, show i * 4 + 1 + 1 + 1 + 1 + 1 = (i * 4 + 1) + 1 + 1 + 1 + 1 by omega, show i * 4 + 1 + 1 + 1 + 1 + 2 = (i * 4 + 2) + 1 + 1 + 1 + 1 by omega, show i * 4 + 1 + 1 + 1 + 1 + 3 = (i * 4 + 3) + 1 + 1 + 1 + 1 by omega]
    simp only [flatP, List.getElem?_cons_succ]
    exact this
def PgRel (N0 : Nat) (ok : Nat → Prop) (w : World) : List PgC → List Pg → Prop
  | [], [] => True
  | q :: qs, p :: ps => (q.1 = p.1 ∧ q.2.2 = p.2.2 ∧ Row w N0 ok q.2.1 p.2.1) ∧ PgRel N0 ok w qs ps
  | _, _ => False
section
variable {N0 : Nat} {ok ok' : Nat → Prop} {w w' : World}
theorem PgRel.length : ∀ {qs : List PgC} {ps : List Pg}, PgRel N0 ok w qs ps → qs.length = ps.length
  | [], [], _ => rfl
  | _ :: _, _ :: _, ⟨_, h⟩ => by simp [PgRel.length h]
  | [], _ :: _, h => h.elim
  | _ :: _, [], h => h.elim
theorem PgRel.imp {N0 : Nat} {ok ok' : Nat → Prop} {w w' : World} (hR : ∀ v xs, Row w N0 ok v xs → Row w' N0 ok' v xs) : ∀ {qs : List PgC} {ps : List Pg}, PgRel N0 ok w qs ps → PgRel N0 ok' w' qs ps
  | [], [], _ => trivial
  | _ :: _, _ :: _, ⟨⟨h1, h2, h3⟩, h4⟩ => ⟨⟨h1, h2, hR _ _ h3⟩, PgRel.imp hR h4⟩
  | [], _ :: _, h => h.elim
  | _ :: _, [], h => h.elim
theorem PgRel.at : ∀ {qs : List PgC} {ps : List Pg}, PgRel N0 ok w qs ps → ∀ {i : Nat} {p : Pg}, ps[i]? = some p → ∃ v, qs[i]? = some (p.1, v, p.2.2) ∧ Row w N0 ok v p.2.1
  | [], [], _, i, p, h => by simp at h
  | q :: qs, p0 :: ps, ⟨⟨h1, h2, h3⟩, h4⟩, 0, p, h => by
    simp at h
    subst h
    obtain ⟨a, v, b⟩ := q
    simp only at h1 h2
    subst h1 h2
    exact ⟨v, rfl, h3⟩
  | q :: qs, p0 :: ps, ⟨_, h4⟩, i + 1, p, h => by
    rw [List.getElem?_cons_succ] at h ⊢
    exact PgRel.at h4 h
  | [], _ :: _, h, _, _, _ => h.elim
  | _ :: _, [], h, _, _, _ => h.elim
/-- A row of pages, its block told. -/
structure PRow (w : World) (N0 : Nat) (ok : Nat → Prop) (g cap : Nat) (ps : List Pg) : Prop where mk' ::
  ex : ∃ (cur : Array Value) (qs : List PgC), w.heap[g]? = some (.cells cur TP (0, 0)) ∧ cur.size = cap * 4 ∧ cur.toList.take (ps.length * 4) = flatP qs ∧ PgRel N0 ok w qs ps
  le : ps.length ≤ cap
  mx : cap ≤ 9223372036854775807
variable {v : Value} {ps : List Pg} {g cap : Nat}
theorem PRow.step (h : PRow w N0 ok g cap ps) (hg : w'.heap[g]? = w.heap[g]?) (hm : ∀ k, ok k → k < w.heap.size → w'.heap[k]? = w.heap[k]?) : PRow w' N0 ok g cap ps := by
  obtain ⟨cur, qs, hh, hs, ht, hrel⟩ := h.ex
  exact ⟨⟨cur, qs, hg.trans hh, hs, ht, hrel.imp (fun _ _ hr => hr.step hm)⟩, h.le, h.mx⟩
/-- The cells of a page. -/
structure PCell (w : World) (N0 : Nat) (ok : Nat → Prop) (g i : Nat) (p : Pg) (A : Option Addr) (c : Nat) : Prop where
  c0 : w.cell? ⟨g, i * 4, none⟩ = some (.int .i64 p.1.1)
  c1 : w.cell? ⟨g, i * 4 + 1, none⟩ = some (.int .i64 p.1.2)
  c2 : w.cell? ⟨g, i * 4 + 2, none⟩ = some (.slice A p.2.1.length c)
  c3 : w.cell? ⟨g, i * 4 + 3, none⟩ = some (.bool p.2.2)
  f : ∀ j, w.frozen? ⟨g, j, none⟩ = false
  row : Row w N0 ok (.slice A p.2.1.length c) p.2.1
theorem PRow.cell (h : PRow w N0 ok g cap ps) {i : Nat} {p : Pg} (hi : ps[i]? = some p) : ∃ A c, PCell w N0 ok g i p A c := by
  obtain ⟨cur, qs, hh, hs, ht, hrel⟩ := h.ex
  have hl := (List.getElem?_eq_some_iff.1 hi).1
  obtain ⟨v, hq, hrow⟩ := hrel.at hi
  obtain ⟨A, c, rfl, _⟩ := hrow.reads
  have hf := flatP_at qs i _ hq
  rw [← ht, List.getElem?_take, List.getElem?_take, List.getElem?_take, List.getElem?_take, if_pos (by omega), if_pos (by omega), if_pos (by omega), if_pos (by omega)] at hf
  refine ⟨A, c, ?_, ?_, ?_, ?_, fun j => bfrozen hh _, hrow⟩
  · rw [bcell hh]; simpa using hf.1
  · rw [bcell hh]; simpa using hf.2.1
  · rw [bcell hh]; simpa using hf.2.2.1
  · rw [bcell hh]; simpa using hf.2.2.2
end
end Go.Proofs.Ytmbiebdcnadhkaa.Fl

/- The document's device: its reading methods, walked. No condition. -/
namespace Go.Proofs.Ytmbiebdcnadhkaa.Fl
open Go.RowKit Go.Proofs.YtmbiebdcnadhkaaW.PrintWords Go.Proofs.YtmbiebdcnadhkaaW.PrintMore Go.Maps
set_option linter.unusedSimpArgs false
set_option linter.unusedVariables false
section
variable {N0 x : Nat} {s : Int × Int × Int} {ps : List Pg} {ok : Nat → Prop} {w : World}
theorem hasB_iff (s : Int × Int × Int) (a b : Int) : hasB s a b = true ↔ (0 ≤ a ∧ a < s.1 ∧ 0 ≤ b ∧ b < s.2.1) := by
  simp [hasB, fitsB]
  omega
/-- Where a page stands. -/
def atB (a b : Int) (p : Pg) : Bool := decide (p.1.1 = a) && decide (p.1.2 = b)
def findI (a b : Int) (ps : List Pg) : Int := idxI (atB a b) ps
end
end Go.Proofs.Ytmbiebdcnadhkaa.Fl

/- The document's device: Full, Read, Dirty, Shape, walked. No condition. -/
namespace Go.Proofs.Ytmbiebdcnadhkaa.Fl
open Go.RowKit Go.Proofs.YtmbiebdcnadhkaaW.PrintWords Go.Proofs.YtmbiebdcnadhkaaW.PrintMore Go.Maps
set_option linter.unusedSimpArgs false
set_option linter.unusedVariables false
theorem info_u8 : (Try.prog.info? TB).map (fun i => (i.zero, i.size, i.bytes)) = some (some (.int .u8 0), 1, 1) := by kernel_rfl
theorem C_cell {w : World} {A : Option Addr} {n : Nat} {l : List Int} (h : kB.C w A n l) (i : Nat) (hi : i < n) :
    ∃ ad, A = some ad ∧ w.cell? (ad.add i) = some (.int .u8 (rd l (i : Int))) := by
  have h' := (Kd.reads_of_C (d := (0 : Int)) h).at_ (i : Int) (by omega) (by omega)
  simpa [rdOf, rd] using h'
section
variable {N0 x : Nat} {s : Int × Int × Int} {ps : List Pg} {ok : Nat → Prop} {w : World}
theorem find_idx {α : Type} (q : α → Bool) : ∀ (l : List α), l.find? q = (idxOf q l).bind (fun i => l[i]?)
  | [] => rfl
  | a :: l => by
    unfold idxOf
    rw [List.find?_cons]
    cases h : q a with
    | true => simp
    | false =>
      simp only [Bool.false_eq_true, if_false]
      rw [find_idx q l]
      cases idxOf q l <;> simp
theorem find_none {α : Type} {q : α → Bool} {l : List α} (h : idxI q l = -1) : l.find? q = none := by
  rw [find_idx]
  unfold idxI at h
  cases hi : idxOf q l with
  | none => rfl
  | some i => rw [hi] at h; simp only at h; omega
theorem find_some {α : Type} {q : α → Bool} {l : List α} {i : Nat} {a : α} (h : idxI q l = (i : Int)) (ha : l[i]? = some a) : l.find? q = some a := by
  rw [find_idx]
  unfold idxI at h
  cases hi : idxOf q l with
  | none => rw [hi] at h; simp only at h; omega
  | some j =>
    rw [hi] at h
    simp only at h
    obtain rfl : j = i := by omega
    simpa using ha
end
end Go.Proofs.Ytmbiebdcnadhkaa.Fl

/- The document's device: Dirty, Erase, Sync, Shape, walked. No condition. -/
namespace Go.Proofs.Ytmbiebdcnadhkaa.Fl
open Go.RowKit Go.Proofs.YtmbiebdcnadhkaaW.PrintWords Go.Proofs.YtmbiebdcnadhkaaW.PrintMore Go.Maps
set_option linter.unusedSimpArgs false
set_option linter.unusedVariables false
section
variable {N0 x : Nat} {s : Int × Int × Int} {ps : List Pg} {ok : Nat → Prop} {w : World}
end
end Go.Proofs.Ytmbiebdcnadhkaa.Fl

/- The document's device: Shape, Write, walked. No condition. -/
namespace Go.Proofs.Ytmbiebdcnadhkaa.Fl
open Go.RowKit Go.Proofs.YtmbiebdcnadhkaaW.PrintWords Go.Proofs.YtmbiebdcnadhkaaW.PrintMore Go.Maps
set_option linter.unusedSimpArgs false
set_option linter.unusedVariables false
section
variable {N0 x : Nat} {s : Int × Int × Int} {ps : List Pg} {ok : Nat → Prop} {w : World}
def rwE (s : Int × Int × Int) (ps : List Pg) (a b : Int) (l : List Int) : Int := if hasB s a b = false then 6 else if s.2.2 < (l.length : Int) then 10 else if 0 ≤ findI a b ps then 7 else 0
def rwP (s : Int × Int × Int) (ps : List Pg) (a b : Int) (l : List Int) : List Pg := if rwE s ps a b l = 0 then ps ++ [((a, b), full s.2.2.toNat l, true)] else ps
theorem rwE_cases (s : Int × Int × Int) (ps : List Pg) (a b : Int) (l : List Int) : (hasB s a b = false ∧ rwE s ps a b l = 6) ∨ (hasB s a b = true ∧ s.2.2 < (l.length : Int) ∧ rwE s ps a b l = 10) ∨ (hasB s a b = true ∧ (l.length : Int) ≤ s.2.2 ∧ 0 ≤ findI a b ps ∧ rwE s ps a b l = 7) ∨ (hasB s a b = true ∧ (l.length : Int) ≤ s.2.2 ∧ findI a b ps < 0 ∧ rwE s ps a b l = 0) := by
  cases h1 : hasB s a b with
  | false => exact .inl ⟨rfl, by simp [rwE, h1]⟩
  | true =>
    by_cases h2 : s.2.2 < (l.length : Int)
    · exact .inr (.inl ⟨rfl, h2, by simp [rwE, h1, h2]⟩)
    · by_cases h3 : 0 ≤ findI a b ps
      · exact .inr (.inr (.inl ⟨rfl, by omega, h3, by simp [rwE, h1, h2, h3]⟩))
      · exact .inr (.inr (.inr ⟨rfl, by omega, by omega, by simp [rwE, h1, h2, h3]⟩))
end
end Go.Proofs.Ytmbiebdcnadhkaa.Fl

/- The document's device: a crash, walked. No condition. -/
namespace Go.Proofs.Ytmbiebdcnadhkaa.Fl
open Go.RowKit Go.Proofs.YtmbiebdcnadhkaaW.PrintWords Go.Proofs.YtmbiebdcnadhkaaW.PrintMore Go.Maps
set_option linter.unusedSimpArgs false
set_option linter.unusedVariables false
section
variable {N0 x : Nat} {s : Int × Int × Int} {ps : List Pg} {ok : Nat → Prop} {w : World}
end
end Go.Proofs.Ytmbiebdcnadhkaa.Fl

/- Two rows of bytes told apart, walked. No condition. -/
namespace Go.Proofs.Ytmbiebdcnadhkaa.Fl
open Go.RowKit Go.Proofs.YtmbiebdcnadhkaaW.PrintWords Go.Proofs.YtmbiebdcnadhkaaW.PrintMore Go.Maps
set_option linter.unusedSimpArgs false
set_option linter.unusedVariables false
end Go.Proofs.Ytmbiebdcnadhkaa.Fl

/- The driver's device and the document's: what they have in common, and that each deed keeps it. No program in sight. -/
namespace Go.Proofs.Ytmbiebdcnadhkaa.Fl
open Go.RowKit Go.Proofs.YtmbiebdcnadhkaaW.PrintWords Go.Proofs.YtmbiebdcnadhkaaW.PrintMore Go.Maps
set_option linter.unusedSimpArgs false
set_option linter.unusedVariables false
def atA (c : Adr) (p : Pg) : Bool := decide (p.1 = c)
theorem atB_eq (a b : Int) : atB a b = atA (a, b) := by
  funext p
  obtain ⟨⟨x, y⟩, l, d⟩ := p
  simp [atB, atA]
def got (c : Adr) (ps : List Pg) : Option (List Int) := (ps.find? (atA c)).map (·.2.1)
theorem got_cons (c : Adr) (p : Pg) (ps : List Pg) : got c (p :: ps) = if p.1 = c then some p.2.1 else got c ps := by
  unfold got atA
  by_cases h : p.1 = c <;> simp [h]
theorem got_append (c : Adr) : ∀ (ps qs : List Pg), got c (ps ++ qs) = (got c ps).or (got c qs)
  | [], qs => by simp [got]
  | p :: ps, qs => by
    rw [List.cons_append, got_cons, got_cons, got_append c ps qs]
    by_cases h : p.1 = c <;> simp [h]
theorem got_mem {c : Adr} : ∀ {ps : List Pg} {l : List Int}, got c ps = some l → ∃ p ∈ ps, p.1 = c ∧ p.2.1 = l
  | [], _, h => by simp [got] at h
  | p :: ps, l, h => by
    rw [got_cons] at h
    by_cases hp : p.1 = c
    · rw [if_pos hp] at h
      exact ⟨p, by simp, hp, Option.some.inj h⟩
    · rw [if_neg hp] at h
      obtain ⟨q, h1, h2⟩ := got_mem h
      exact ⟨q, by simp [h1], h2⟩
abbrev Nd (ps : List Pg) : Prop := ps.Pairwise (fun p q => p.1 ≠ q.1)
end Go.Proofs.Ytmbiebdcnadhkaa.Fl

/- The driver's device and the document's stay together, deed by deed. No program in sight. -/
namespace Go.Proofs.Ytmbiebdcnadhkaa.Fl
set_option linter.unusedSimpArgs false
set_option linter.unusedVariables false
structure Sim (D : PD) (s : Int × Int × Int) (ps : List Pg) : Prop where
  sh : D.s = s
  lk : ∀ c, look c D.mp = got c ps
  dirty : D.dirty = (ps.filter (·.2.2)).map (·.1)
  nd : Nd ps
  len : ∀ p ∈ ps, p.2.1.length = s.2.2.toNat
  has : ∀ p ∈ ps, hasB s p.1.1 p.1.2 = true
theorem Sim.new (s : Int × Int × Int) : Sim { s := s, mp := [], dirty := [] } s [] := ⟨rfl, fun _ => rfl, rfl, by simp [Nd], by simp, by simp⟩
theorem idxI_cases {α : Type} (q : α → Bool) (l : List α) : idxI q l = -1 ∨ ∃ (i : Nat) (a : α), idxI q l = (i : Int) ∧ l[i]? = some a := by
  have h := find_idx q l
  unfold idxI
  cases hi : idxOf q l with
  | none => exact .inl rfl
  | some i =>
    refine .inr ⟨i, ?_⟩
    rw [hi] at h
    cases hf : l[i]? with
    | some a => exact ⟨a, rfl, rfl⟩
    | none =>
      exfalso
      clear h
      revert i
      induction l with
      | nil => intro i hi; cases hi
      | cons b l ih =>
        intro i hi hf
        unfold idxOf at hi
        split at hi
        · cases hi; simp at hf
        · cases hj : idxOf q l with
          | none => rw [hj] at hi; cases hi
          | some j =>
            rw [hj] at hi
            cases hi
            exact ih j hj (by simpa using hf)
theorem findI_iff (a b : Int) (ps : List Pg) : decide (0 ≤ findI a b ps) = (got (a, b) ps).isSome := by
  unfold findI got
  rw [← atB_eq]
  rcases idxI_cases (atB a b) ps with h | ⟨i, p, h, hp⟩
  · rw [h, find_none h]; rfl
  · rw [h, find_some h hp]; simp
variable {D : PD} {s : Int × Int × Int} {ps : List Pg}
theorem Sim.used (h : Sim D s ps) (a b : Int) : usedB D a b = decide (0 ≤ findI a b ps) := by
  rw [findI_iff, usedB, h.lk, h.sh]
  cases hg : got (a, b) ps with
  | none => simp
  | some l =>
    obtain ⟨p, hp, h1, _⟩ := got_mem hg
    have := h.has p hp
    rw [h1] at this
    simp [this]
theorem Sim.writeE (h : Sim D s ps) (a b : Int) (l : List Int) : writeE D a b l = rwE s ps a b l := by
  unfold Fl.writeE rwE
  rw [h.used, h.sh]
  simp only [decide_eq_true_eq]
theorem Sim.write (h : Sim D s ps) (a b : Int) (l : List Int) : Sim (writeD D a b l) s (rwP s ps a b l) := by
  unfold writeD rwP
  rw [h.writeE]
  split
  case isFalse => exact h
  case isTrue h0 =>
    rcases rwE_cases s ps a b l with h1 | h1 | h1 | h1
    · omega
    · omega
    · omega
    · obtain ⟨h2, h3, h4⟩ : hasB s a b = true ∧ (l.length : Int) ≤ s.2.2 ∧ ¬ 0 ≤ findI a b ps := by
        unfold rwE at h0
        split at h0
        · omega
        · split at h0
          · omega
          · split at h0
            · omega
            · rename_i x y z
              exact ⟨by simpa using x, by omega, z⟩
      have hg : got (a, b) ps = none := by
        have := findI_iff a b ps
        rw [decide_eq_false h4] at this
        cases hh : got (a, b) ps with
        | none => rfl
        | some x => rw [hh] at this; cases this
      have hno : ∀ p ∈ ps, p.1 ≠ (a, b) := fun p hp e => by
        unfold got at hg
        rw [Option.map_eq_none_iff, List.find?_eq_none] at hg
        exact hg p hp (by simp [atA, e])
      refine ⟨h.sh, fun c => ?_, ?_, ?_, ?_, ?_⟩
      · show Fl.look c (put (a, b) _ D.mp) = _
        rw [look_put, got_append, h.lk, numB, h.sh]
        by_cases hc : c = (a, b)
        · subst hc
          rw [if_pos rfl, hg]
          simp [got, atA]
        · rw [if_neg hc]
          cases got c ps with
          | some x => rfl
          | none =>
            simp [got, atA]
            exact fun e => hc e.symm
      · show D.dirty ++ [(a, b)] = _
        rw [h.dirty]
        simp
      · refine List.pairwise_append.2 ⟨h.nd, by simp, fun p hp q hq => ?_⟩
        simp at hq
        rw [hq]
        exact hno p hp
      · intro p hp
        rw [List.mem_append] at hp
        rcases hp with hp | hp
        · exact h.len p hp
        · simp at hp
          rw [hp]
          exact full_length (by omega)
      · intro p hp
        rw [List.mem_append] at hp
        rcases hp with hp | hp
        · exact h.has p hp
        · simp at hp
          rw [hp]
          exact h2
theorem full_self {n : Nat} {l : List Int} (h : l.length = n) : full n l = l := by simp [full, h]
theorem Sim.dirtyLe (h : Sim D s ps) : D.dirty.length ≤ ps.length := by rw [h.dirty, List.length_map]; exact List.length_filter_le _ _
theorem DevIs.nodup {N0 p : Nat} {D : PD} {ok : Nat → Prop} {w : World} (h : DevIs N0 p D ok w) : Nodup D.mp := by
  obtain ⟨m, v, es, ck, h⟩ := h
  exact h.nodup
end Go.Proofs.Ytmbiebdcnadhkaa.Fl

