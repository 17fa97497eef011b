/- What a device's memory is, of the program's and of the document's: the assertions on blocks, and how they stay. No condition. -/
import Derived.Test.YtkmanjfmffdcbaaProg
import Derived.WalkKit
import Derived.WalkSpells
import Derived.DataElems
import Derived.Maps.Keyed
import Derived.DeepKeys4
import Derived.Test.YtkmanjfmffdcbaaWMore
import Derived.Test.YtkmanjfmffdcbaaWShare
import Derived.Test.YtkmanjfmffdcbaaWKept
namespace Go.Proofs.Ytkmanjfmffdcbaa.Fl
open Go.RowKit Go.Proofs.YtkmanjfmffdcbaaW.PrintWords Go.Maps
abbrev Adr := Int × Int
/-- An address as a value. -/
def kv (a : Adr) : Value := .agg #[.int .i64 a.1, .int .i64 a.2]
def kAddr : Kd Adr := Kd.pair (Kd.int .i64) (Kd.int .i64)
abbrev kB : Kd Int := Kd.int .u8
abbrev TB : TypeId := 5
/-- Bytes in a block of bytes (among ok, from base on), read only: no word on what stands behind them. -/
def Row (w : World) (base : Nat) (ok : Nat → Prop) (v : Value) (l : List Int) : Prop :=
  ∃ A c, v = .slice A l.length c ∧ l.length ≤ c ∧ l.length ≤ 9223372036854775807 ∧ ((A = none ∧ l = []) ∨ ∃ g off cs, A = some ⟨g, off, none⟩ ∧ base ≤ g ∧ ok g ∧ w.heap[g]? = some (.cells cs TB (0, 0)) ∧ ∀ j x, l[j]? = some x → cs[off + j]? = some (.int .u8 x))
section
variable {w w' : World} {base base' : Nat} {ok ok' : Nat → Prop} {v : Value} {l : List Int}
theorem Row.nil (w : World) (base : Nat) (ok : Nat → Prop) : Row w base ok (.slice none 0 0) [] := ⟨none, 0, rfl, Nat.le_refl _, by simp, .inl ⟨rfl, rfl⟩⟩
theorem Row.move (h : Row w base ok v l) (hm : ∀ k, ok k → w'.heap[k]? = w.heap[k]?) : Row w' base ok v l := by
  obtain ⟨A, c, h1, h2, h3, h4⟩ := h
  refine ⟨A, c, h1, h2, h3, h4.imp id ?_⟩
  rintro ⟨g, off, cs, e, hb, ho, hh, hc⟩
  exact ⟨g, off, cs, e, hb, ho, (hm g ho).trans hh, hc⟩
theorem Row.mono (h : Row w base ok v l) (hk : ∀ k, ok k → ok' k) : Row w base ok' v l := by
  obtain ⟨A, c, h1, h2, h3, h4⟩ := h
  refine ⟨A, c, h1, h2, h3, h4.imp id ?_⟩
  rintro ⟨g, off, cs, e, hb, ho, hh, hc⟩
  exact ⟨g, off, cs, e, hb, hk g ho, hh, hc⟩
theorem Row.lower (h : Row w base ok v l) (hb : base' ≤ base) : Row w base' ok v l := by
  obtain ⟨A, c, h1, h2, h3, h4⟩ := h
  refine ⟨A, c, h1, h2, h3, h4.imp id ?_⟩
  rintro ⟨g, off, cs, e, hg, ho, hh, hc⟩
  exact ⟨g, off, cs, e, by omega, ho, hh, hc⟩
theorem Row.bound (h : Row w base ok v l) : Row w base (fun k => ok k ∧ base ≤ k ∧ k < w.heap.size ∧ ∃ q, q ∈ [TB] ∧ ∃ cells, w.heap[k]? = some (.cells cells q (0, 0))) v l := by
  obtain ⟨A, c, h1, h2, h3, h4⟩ := h
  refine ⟨A, c, h1, h2, h3, h4.imp id ?_⟩
  rintro ⟨g, off, cs, e, hg, ho, hh, hc⟩
  exact ⟨g, off, cs, e, hg, ⟨ho, hg, (Array.getElem?_eq_some_iff.1 hh).1, TB, by simp, cs, hh⟩, hh, hc⟩
theorem Row.step (h : Row w base ok v l) (hm : ∀ k, ok k → k < w.heap.size → w'.heap[k]? = w.heap[k]?) : Row w' base ok v l :=
  Row.mono (Row.move (Row.bound h) (fun k hk => hm k hk.1 hk.2.2.1)) (fun _ hk => hk.1)
theorem Row.below (h : Row w base ok v l) (hb : Below w.heap.size w w') : Row w' base ok v l := h.step (fun k _ hlt => hb.block k hlt)
theorem Row.reads (h : Row w base ok v l) : ∃ A c, v = .slice A l.length c ∧ l.length ≤ c ∧ kB.C w A l.length l := by
  obtain ⟨A, c, h1, h2, h3, h4⟩ := h
  refine ⟨A, c, h1, h2, Kd.C_of_reads (d := 0) ⟨rfl, h3, fun hn => ?_⟩⟩
  rcases h4 with ⟨_, rfl⟩ | ⟨g, off, cs, e, hg, ho, hh, hc⟩
  · simp at hn
  · refine ⟨_, e, fun j hj => ?_⟩
    have ha : (⟨g, off, none⟩ : Addr).add j = ⟨g, off + j, none⟩ := Addr.add_lit _ _ _
    rw [ha]
    have := hc j _ (List.getElem?_eq_getElem hj)
    simp [World.cell?, hh, this, List.getD_eq_getElem?_getD, hj]
theorem Row.ofR (h : kB.R TB w base ok v l) : Row w base ok v l := by
  obtain ⟨h0, inner, ho, hr⟩ := h
  have hl := ho.1
  rcases ho.2 with ⟨rfl, h2⟩ | ⟨g, cap, cur, rfl, hg, hh, hle, hm, hs, ht⟩
  · have : l = [] := by
      exact List.eq_nil_of_length_eq_zero h2
    subst this
    exact Row.nil _ _ _
  · refine ⟨some ⟨g, 0, none⟩, cap, rfl, hle, Nat.le_trans hle hm, .inr ⟨g, 0, cur, rfl, hg, h0 g (by simp [Value.ownBlock]), hh, fun j x hj => ?_⟩⟩
    have h3 := hr.2 j x hj
    have h4 : (inner.drop (j * 1)).take 1 = [.int .u8 x] := h3
    have h5 : inner[j]? = some (.int .u8 x) := by
      have := congrArg (fun l => l[0]?) h4
      simpa using this
    rw [← ht, List.getElem?_take] at h5
    split at h5
    · rw [Nat.zero_add]
      simpa using h5
    · cases h5
end
/-- A value that is bytes, read only. -/
def kData : Kd (List Int) where
  sz := 1
  E := [TB]
  K := fun w xs cs => ∃ A c, cs = [.slice A xs.length c] ∧ xs.length ≤ c ∧ kB.C w A xs.length xs
  M := fun w base ok xs cs => ∃ v, cs = [v] ∧ Row w base ok v xs
  K_len := by
    rintro w x cs ⟨A, c, rfl, _⟩
    rfl
  K_one := by
    rintro w x cs ⟨A, c, rfl, _⟩ u hu
    rw [List.mem_singleton.1 hu]
    rfl
  K_below := by
    rintro w w1 x cs hb ⟨A, c, rfl, hl, hr⟩
    exact ⟨A, c, rfl, hl, Kd.C_below hr hb⟩
  K_of_M := by
    rintro w base ok x cs ⟨v, rfl, h⟩
    obtain ⟨A, c, rfl, hl, hr⟩ := h.reads
    exact ⟨A, c, rfl, hl, hr⟩
  M_mono := by
    rintro w base ok ok' x cs hok ⟨v, rfl, h⟩
    exact ⟨v, rfl, h.mono hok⟩
  M_bound := by
    rintro w base ok x cs ⟨v, rfl, h⟩
    exact ⟨v, rfl, h.bound⟩
  M_move := by
    rintro w w1 base ok x cs hm ⟨v, rfl, h⟩
    exact ⟨v, rfl, h.move hm⟩
  M_lower := by
    rintro w base base' ok x cs hb ⟨v, rfl, h⟩
    exact ⟨v, rfl, h.lower hb⟩
abbrev Pg := Adr × List Int × Bool
def kPage : Kd Pg := Kd.pair kAddr (Kd.pair kData Kd.bool)
structure InR (a : Adr) : Prop where
  a0 : 0 ≤ a.1
  a1 : a.1 < 4096
  b0 : 0 ≤ a.2
  b1 : a.2 < 4096
/-- A shape that a device may have. -/
structure ShapeOk (s : Int × Int × Int) : Prop where
  a0 : 1 ≤ s.1
  a1 : s.1 ≤ 16
  b0 : 1 ≤ s.2.1
  b1 : s.2.1 ≤ 64
  c0 : 16 ≤ s.2.2
  c1 : s.2.2 ≤ 256
/-- Old blocks but those of S are as they were; the streams are as they were. -/
structure Upd (S : Nat → Prop) (w w' : World) : Prop where
  os : w'.os = w.os
  tape : w'.tape = w.tape
  output : w'.output = w.output
  size : w.heap.size ≤ w'.heap.size
  block : ∀ k, k < w.heap.size → ¬ S k → w'.heap[k]? = w.heap[k]?
section
variable {S S' S2 : Nat → Prop} {w w1 w2 : World}
theorem Upd.refl (S : Nat → Prop) (w : World) : Upd S w w := ⟨rfl, rfl, rfl, Nat.le_refl _, fun _ _ _ => rfl⟩
theorem Upd.mono (h : Upd S w w1) (hs : ∀ k, S k → k < w.heap.size → S' k) : Upd S' w w1 := ⟨h.os, h.tape, h.output, h.size, fun k hk hn => h.block k hk (fun hS => hn (hs k hS hk))⟩
theorem Upd.trans (h : Upd S w w1) (k : Upd S2 w1 w2) (hs : ∀ k, S2 k → k < w.heap.size → S k) : Upd S w w2 :=
  ⟨k.os.trans h.os, k.tape.trans h.tape, k.output.trans h.output, Nat.le_trans h.size k.size, fun i hi hn => (k.block i (Nat.lt_of_lt_of_le hi h.size) (fun h2 => hn (hs i h2 hi))).trans (h.block i hi hn)⟩
theorem Upd.of_below {B : Nat} (h : Below B w w1) (S : Nat → Prop) (hS : ∀ k, ¬ S k → k < w.heap.size → k < B) : Upd S w w1 := ⟨h.os, h.tape, h.output, h.size, fun k hk hn => h.block k (hS k hn hk)⟩
theorem Upd.ofBelow (h : Below w.heap.size w w1) (S : Nat → Prop) : Upd S w w1 := ⟨h.os, h.tape, h.output, h.size, fun k hk _ => h.block k hk⟩
theorem Upd.below {B : Nat} (h : Upd S w w1) (hB : B ≤ w.heap.size) (hS : ∀ k, S k → B ≤ k) : Below B w w1 := ⟨h.os, h.tape, h.output, h.size, fun k hk => h.block k (by omega) (fun hk' => by have := hS k hk'; omega)⟩
theorem Upd.grown {row : Option Nat} (h : w.grownBy w1 row) (hr : ∀ k, row = some k → S k) : Upd S w w1 := ⟨h.os, h.tape, h.output, h.size, fun k hk hn => h.block k hk (fun e => hn (hr k e.symm))⟩
theorem Upd.setCell (w : World) {p : Addr} (hp : S p.block) (u : Value) : Upd S w (w.setCell p u) := ⟨rfl, rfl, rfl, by simp [World.setCell], fun k _ hn => Below.heap_setCell w p u k (fun e => hn (e ▸ hp))⟩
theorem Upd.alloc (S : Nat → Prop) (w : World) (o : Obj) : Upd S w (w.alloc o) := Upd.ofBelow (below_alloc (Below.refl _ _) o) S
theorem Upd.drewN (S : Nat → Prop) (w : World) (n : Nat) : Upd S w (w.drewN n) := Upd.ofBelow (pw_below_drewN (Below.refl _ _) n) S
theorem Upd.noneBelow (h : Upd (fun _ => False) w w1) : Below w.heap.size w w1 := ⟨h.os, h.tape, h.output, h.size, fun k hk => h.block k hk id⟩
theorem Upd.blk (h : Upd S w w1) {g : Nat} {o : Obj} (hb : w.heap[g]? = some o) (hn : ¬ S g) : w1.heap[g]? = some o := (h.block g (Array.getElem?_eq_some_iff.1 hb).1 hn).trans hb
end
theorem blt {w : World} {g : Nat} {o : Obj} (hb : w.heap[g]? = some o) : g < w.heap.size := (Array.getElem?_eq_some_iff.1 hb).1
theorem bcell {w : World} {g : Nat} {cs : Array Value} {t : TypeId} {fr : Nat × Nat} (h : w.heap[g]? = some (.cells cs t fr)) (i : Nat) : w.cell? ⟨g, i, none⟩ = cs[i]? := by
  unfold World.cell?
  simp [h]
theorem bfrozen {w : World} {g : Nat} {cs : Array Value} {t : TypeId} (h : w.heap[g]? = some (.cells cs t (0, 0))) (i : Nat) : w.frozen? ⟨g, i, none⟩ = false := by
  unfold World.frozen?
  simp [h]
theorem bset {w : World} {g : Nat} {cs : Array Value} {t : TypeId} (h : w.heap[g]? = some (.cells cs t (0, 0))) (i : Nat) (u : Value) : (w.setCell ⟨g, i, none⟩ u).heap[g]? = some (.cells (cs.setIfInBounds i u) t (0, 0)) := by
  simp [World.setCell, Array.getElem?_modify, h]
theorem typ_ne {w : World} {g g' : Nat} {cs cs' : Array Value} {t t' : TypeId} {fr fr' : Nat × Nat} (h : w.heap[g]? = some (.cells cs t fr)) (h' : w.heap[g']? = some (.cells cs' t' fr')) (ht : t ≠ t') : g ≠ g' := by
  rintro rfl
  rw [h] at h'
  injection h' with h'
  injection h' with _ h2
  exact ht h2
theorem map_ne {w : World} {g g' : Nat} {cs : Array Value} {t : TypeId} {fr : Nat × Nat} {es : Array MapEntry} {c : Nat} (h : w.heap[g]? = some (.cells cs t fr)) (h' : w.heap[g']? = some (.map es c)) : g ≠ g' := by
  rintro rfl
  rw [h] at h'
  injection h' with h'
  cases h'
/-! ### The program's device -/
structure PD where
  s : Int × Int × Int
  mp : List (Adr × List Int)
  dirty : List Adr
abbrev TA : TypeId := 70
abbrev TP : TypeId := 72
abbrev TD : TypeId := 101
abbrev TX : TypeId := 68
abbrev TM : TypeId := 99
def Ents (N0 : Nat) (ok : Nat → Prop) (w : World) : List MapEntry → List (Adr × List Int) → Prop
  | [], [] => True
  | e :: es, q :: qs => (e.key = kv q.1 ∧ InR q.1 ∧ Row w N0 ok e.val q.2) ∧ Ents N0 ok w es qs
  | _, _ => False
/-- Pointer p is a device with D, its blocks among ok, all from N0 on; m: its map's block, v: its dirty row. -/
structure DevAt (N0 : Nat) (p : Nat) (D : PD) (ok : Nat → Prop) (w : World) (m : Nat) (v : Value) (es : Array MapEntry) (ck : Nat) : Prop where
  base : N0 ≤ p
  okp : ok p
  blk : w.heap[p]? = some (.cells #[.int .i64 D.s.1, .int .i64 D.s.2.1, .int .i64 D.s.2.2, .map (some m), v] TD (0, 0))
  okm : ok m
  basem : N0 ≤ m
  map : w.heap[m]? = some (.map es ck)
  ents : Ents N0 ok w es.toList D.mp
  dirty : kAddr.R TA w N0 ok v D.dirty
  shape : ShapeOk D.s
  inr : ∀ a ∈ D.dirty, InR a
  nodup : D.mp.Pairwise (fun x y => x.1 ≠ y.1)
  lens : ∀ q ∈ D.mp, q.2.length = D.s.2.2.toNat
def DevIs (N0 : Nat) (p : Nat) (D : PD) (ok : Nat → Prop) (w : World) : Prop := ∃ m v es ck, DevAt N0 p D ok w m v es ck
/-- Pointer x is the document's device. -/
structure RefIs (N0 : Nat) (x : Nat) (s : Int × Int × Int) (ps : List Pg) (ok : Nat → Prop) (w : World) : Prop where
  base : N0 ≤ x
  okx : ok x
  blk : ∃ v, w.heap[x]? = some (.cells #[.int .i64 s.1, .int .i64 s.2.1, .int .i64 s.2.2, v] TX (0, 0)) ∧ kPage.R TP w N0 ok v ps
section
variable {N0 p x : Nat} {D : PD} {s : Int × Int × Int} {ps : List Pg} {ok ok' : Nat → Prop} {w w' : World}
theorem Ents.imp {N0 : Nat} {ok ok' : Nat → Prop} {w w' : World} (hR : ∀ v xs, Row w N0 ok v xs → Row w' N0 ok' v xs) : ∀ {es : List MapEntry} {qs : List (Adr × List Int)}, Ents N0 ok w es qs → Ents N0 ok' w' es qs
  | [], [], _ => trivial
  | _ :: _, _ :: _, ⟨⟨h1, h2, h3⟩, h4⟩ => ⟨⟨h1, h2, hR _ _ h3⟩, Ents.imp hR h4⟩
  | [], _ :: _, h => h.elim
  | _ :: _, [], h => h.elim
theorem DevIs.step (h : DevIs N0 p D ok w) (hm : ∀ k, ok k → k < w.heap.size → w'.heap[k]? = w.heap[k]?) : DevIs N0 p D ok w' := by
  obtain ⟨m, v, es, ck, h⟩ := h
  exact ⟨m, v, es, ck, h.base, h.okp, (hm p h.okp (blt h.blk)).trans h.blk, h.okm, h.basem, (hm m h.okm (blt h.map)).trans h.map, h.ents.imp (fun _ _ hr => hr.step hm), Kd.R_step h.dirty hm, h.shape, h.inr, h.nodup, h.lens⟩
theorem DevIs.mono (h : DevIs N0 p D ok w) (hk : ∀ k, ok k → ok' k) : DevIs N0 p D ok' w := by
  obtain ⟨m, v, es, ck, h⟩ := h
  exact ⟨m, v, es, ck, h.base, hk _ h.okp, h.blk, hk _ h.okm, h.basem, h.map, h.ents.imp (fun _ _ hr => hr.mono hk), Kd.R_mono h.dirty hk, h.shape, h.inr, h.nodup, h.lens⟩
theorem DevIs.bound (h : DevIs N0 p D ok w) : DevIs N0 p D (fun k => ok k ∧ N0 ≤ k ∧ k < w.heap.size) w := by
  obtain ⟨m, v, es, ck, h⟩ := h
  exact ⟨m, v, es, ck, h.base, ⟨h.okp, h.base, blt h.blk⟩, h.blk, ⟨h.okm, h.basem, blt h.map⟩, h.basem, h.map,
    h.ents.imp (fun _ _ hr => hr.bound.mono (fun _ hk => ⟨hk.1, hk.2.1, hk.2.2.1⟩)), Kd.R_mono (Kd.R_bound h.dirty) (fun _ hk => ⟨hk.1, hk.2.1, hk.2.2.1⟩), h.shape, h.inr, h.nodup, h.lens⟩
theorem DevIs.below (h : DevIs N0 p D ok w) (hb : Below w.heap.size w w') : DevIs N0 p D ok w' := h.step (fun k _ hlt => hb.block k hlt)
theorem DevIs.upd {S : Nat → Prop} (h : DevIs N0 p D ok w) (hu : Upd S w w') (hd : ∀ k, ok k → ¬ S k) : DevIs N0 p D ok w' := h.step (fun k hk hlt => hu.block k hlt (hd k hk))
theorem RefIs.step (h : RefIs N0 x s ps ok w) (hm : ∀ k, ok k → k < w.heap.size → w'.heap[k]? = w.heap[k]?) : RefIs N0 x s ps ok w' := by
  obtain ⟨h1, h2, v, h3, h4⟩ := h
  exact ⟨h1, h2, v, (hm x h2 (blt h3)).trans h3, Kd.R_step h4 hm⟩
theorem RefIs.mono (h : RefIs N0 x s ps ok w) (hk : ∀ k, ok k → ok' k) : RefIs N0 x s ps ok' w := by
  obtain ⟨h1, h2, v, h3, h4⟩ := h
  exact ⟨h1, hk _ h2, v, h3, Kd.R_mono h4 hk⟩
theorem RefIs.bound (h : RefIs N0 x s ps ok w) : RefIs N0 x s ps (fun k => ok k ∧ N0 ≤ k ∧ k < w.heap.size) w := by
  obtain ⟨h1, h2, v, h3, h4⟩ := h
  exact ⟨h1, ⟨h2, h1, blt h3⟩, v, h3, Kd.R_mono (Kd.R_bound h4) (fun _ hk => ⟨hk.1, hk.2.1, hk.2.2.1⟩)⟩
theorem RefIs.below (h : RefIs N0 x s ps ok w) (hb : Below w.heap.size w w') : RefIs N0 x s ps ok w' := h.step (fun k _ hlt => hb.block k hlt)
theorem RefIs.upd {S : Nat → Prop} (h : RefIs N0 x s ps ok w) (hu : Upd S w w') (hd : ∀ k, ok k → ¬ S k) : RefIs N0 x s ps ok w' := h.step (fun k hk hlt => hu.block k hlt (hd k hk))
end
/-- What is typed so stays where the blocks of that type stay. -/
theorem Row.typed {w w' : World} {base : Nat} {ok : Nat → Prop} {v : Value} {l : List Int} (h : Row w base ok v l) (hm : ∀ k cs, w.heap[k]? = some (.cells cs TB (0, 0)) → ok k → w'.heap[k]? = w.heap[k]?) : Row w' base ok v l :=
  Row.mono (Row.move (Row.bound h) (fun k hk => by
    obtain ⟨h1, _, _, q, hq, cs, hc⟩ := hk
    obtain rfl : q = TB := by simpa using hq
    exact hm k cs hc h1)) (fun _ hk => hk.1)
theorem R_typed {α : Type} {d : Kd α} {e base : Nat} {w w' : World} {ok : Nat → Prop} {v : Value} {xs : List α} (h : d.R e w base ok v xs) (hm : ∀ k cs q, q ∈ e :: d.E → w.heap[k]? = some (.cells cs q (0, 0)) → ok k → w'.heap[k]? = w.heap[k]?) : d.R e w' base ok v xs :=
  Kd.R_mono (Kd.R_move (Kd.R_bound h) (fun k hk => by
    obtain ⟨h1, _, _, q, hq, cs, hc⟩ := hk
    exact hm k cs q hq hc h1)) (fun _ hk => hk.1)
theorem A_typed {base : Nat} {w w' : World} {ok : Nat → Prop} {v : Value} {xs : List Adr} (h : kAddr.R TA w base ok v xs) (hm : ∀ k cs, w.heap[k]? = some (.cells cs TA (0, 0)) → ok k → w'.heap[k]? = w.heap[k]?) : kAddr.R TA w' base ok v xs :=
  R_typed h (fun k cs q hq hc ho => by
    have : q = TA := by simpa [kAddr, Kd.pair, Kd.int, Kd.scalar] using hq
    subst this
    exact hm k cs hc ho)
theorem not_typ {w : World} {g k : Nat} {cs cs' : Array Value} {t t' : TypeId} {fr fr' : Nat × Nat} (h : w.heap[g]? = some (.cells cs t fr)) (ht : t' ≠ t) (h' : w.heap[k]? = some (.cells cs' t' fr')) : k ≠ g := typ_ne h' h ht
/-- The blocks of ok that are no rows of bytes: those that may be written. -/
def Mut (ok : Nat → Prop) (w : World) : Nat → Prop := fun k => ok k ∧ ∀ cs fr, w.heap[k]? ≠ some (.cells cs TB fr)
theorem Upd.transM {ok ok2 : Nat → Prop} {w w1 w2 : World} (h : Upd (Mut ok w) w w1) (k : Upd (Mut ok2 w1) w1 w2) (hs : ∀ k, ok2 k → k < w.heap.size → ok k) : Upd (Mut ok w) w w2 :=
  h.trans k (fun j hj hlt => by
    by_cases hm : Mut ok w j
    · exact hm
    · refine ⟨hs j hj.1 hlt, fun cs fr e => hj.2 cs fr ?_⟩
      rw [h.block j hlt hm]
      exact e)
theorem Upd.toM {ok : Nat → Prop} {w w1 : World} (h : Upd (Mut ok w) w w1) : Upd ok w w1 := h.mono (fun _ hk _ => hk.1)
theorem mut_of {ok : Nat → Prop} {w : World} {k : Nat} {cs : Array Value} {t : TypeId} {fr : Nat × Nat} (ho : ok k) (h : w.heap[k]? = some (.cells cs t fr)) (ht : t ≠ TB) : Mut ok w k := ⟨ho, fun cs' fr' e => by
  rw [h] at e
  injection e with e
  injection e with _ e2
  exact ht e2⟩
theorem mut_map {ok : Nat → Prop} {w : World} {k : Nat} {es : Array MapEntry} {ck : Nat} (ho : ok k) (h : w.heap[k]? = some (.map es ck)) : Mut ok w k := ⟨ho, fun cs' fr' e => by
  rw [h] at e
  cases e⟩
theorem DevAt.mutp {N0 p : Nat} {D : PD} {ok : Nat → Prop} {w : World} {m : Nat} {v : Value} {es : Array MapEntry} {ck : Nat} (h : DevAt N0 p D ok w m v es ck) : Mut ok w p := mut_of h.okp h.blk (by decide)
theorem DevAt.mutm {N0 p : Nat} {D : PD} {ok : Nat → Prop} {w : World} {m : Nat} {v : Value} {es : Array MapEntry} {ck : Nat} (h : DevAt N0 p D ok w m v es ck) : Mut ok w m := mut_map h.okm h.map
/-- A device stays while another one, that shares at most rows of bytes with it, is written. -/
theorem DevIs.updM {N0 p : Nat} {D : PD} {ok ok2 : Nat → Prop} {w w' : World} (h : DevIs N0 p D ok w) (hu : Upd (Mut ok2 w) w w') (hd : ∀ k, ok k → ok2 k → ∃ cs fr, w.heap[k]? = some (.cells cs TB fr)) : DevIs N0 p D ok w' :=
  h.step (fun k hk hlt => hu.block k hlt (fun hm => by
    obtain ⟨cs, fr, hc⟩ := hd k hk hm.1
    exact hm.2 cs fr hc))
theorem RefIs.updM {N0 x : Nat} {s : Int × Int × Int} {ps : List Pg} {ok ok2 : Nat → Prop} {w w' : World} (h : RefIs N0 x s ps ok w) (hu : Upd (Mut ok2 w) w w') (hd : ∀ k, ok k → ok2 k → ∃ cs fr, w.heap[k]? = some (.cells cs TB fr)) : RefIs N0 x s ps ok w' :=
  h.step (fun k hk hlt => hu.block k hlt (fun hm => by
    obtain ⟨cs, fr, hc⟩ := hd k hk hm.1
    exact hm.2 cs fr hc))
/-! ### The map -/
theorem laidOut : laidOutB Try.prog = true := by kernel_rfl
theorem addr_law : Keyed Try.prog TA := Keyed.of_law (deep_law_laid laidOut (m := 2) (by omega) (of_decide_eq_true (by kernel_rfl)) (by kernel_rfl) (by rw [Try.underlying70]))
end Go.Proofs.Ytkmanjfmffdcbaa.Fl
