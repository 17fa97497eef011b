/- The two devices side by side in one memory: each call on one leaves the other. -/
import Derived.Test.YtkmanjfmffdcbaaFlSim2
namespace Go.Proofs.Ytkmanjfmffdcbaa.Fl
open Go.RowKit Go.Proofs.YtkmanjfmffdcbaaW.PrintWords Go.Proofs.YtkmanjfmffdcbaaW.PrintMore Go.Maps
set_option linter.unusedSimpArgs false
set_option linter.unusedVariables false
structure DeedT where
  op : Int
  a : Int
  b : Int
  l : List Int
  P : PlanT
structure DCell (w : World) (ad : Addr) (i : Nat) (d : DeedT) (A : Option Addr) (c : Nat) : Prop where
  c0 : w.cell? (ad.add (i * 7)) = some (.int .i64 d.op)
  c1 : w.cell? ⟨(ad.add (i * 7)).block, (ad.add (i * 7)).off + 1, none⟩ = some (.int .i64 d.a)
  c2 : w.cell? ⟨(ad.add (i * 7)).block, (ad.add (i * 7)).off + 2, none⟩ = some (.int .i64 d.b)
  c3 : w.cell? ⟨(ad.add (i * 7)).block, (ad.add (i * 7)).off + 3, none⟩ = some (.slice A d.l.length c)
  c4 : w.cell? ⟨(ad.add (i * 7)).block, (ad.add (i * 7)).off + 4, none⟩ = some (.int .u64 d.P.keep)
  c5 : w.cell? ⟨(ad.add (i * 7)).block, (ad.add (i * 7)).off + 5, none⟩ = some (.int .i64 d.P.torn)
  c6 : w.cell? ⟨(ad.add (i * 7)).block, (ad.add (i * 7)).off + 6, none⟩ = some (.int .i64 d.P.cut)
  row : kB.C w A d.l.length d.l
def DRow (w : World) (A : Option Addr) (ds : List DeedT) : Prop := ∀ (i : Nat) (d : DeedT), ds[i]? = some d → ∃ ad A1 c1, A = some ad ∧ DCell w ad i d A1 c1
theorem DCell.below {w w' : World} {ad : Addr} {i : Nat} {d : DeedT} {A : Option Addr} {c : Nat} (h : DCell w ad i d A c) (hb : Below w.heap.size w w') : DCell w' ad i d A c :=
  have f : ∀ {a : Addr} {v : Value}, w.cell? a = some v → w'.cell? a = some v := fun h => (hb.cell (blt_of_cell h)).trans h
  ⟨f h.c0, f h.c1, f h.c2, f h.c3, f h.c4, f h.c5, f h.c6, Kd.C_below h.row hb⟩
theorem DRow.below {w w' : World} {A : Option Addr} {ds : List DeedT} (h : DRow w A ds) (hb : Below w.heap.size w w') : DRow w' A ds := fun i d hi => by
  obtain ⟨ad, A1, c1, h1, h2⟩ := h i d hi
  exact ⟨ad, A1, c1, h1, h2.below hb⟩
/-- The two in one memory, all above N0, no block of the one a block of the other. -/
def Two (K : Nat → Prop) (N0 p x : Nat) (D : PD) (s : Int × Int × Int) (ps : List Pg) (w : World) : Prop :=
  ∃ okD okX : Nat → Prop, DevIs N0 p D okD w ∧ RefIs N0 x s ps okX w ∧ (∀ k, okD k → okX k → False) ∧ (∀ k, okD k → N0 ≤ k) ∧ (∀ k, okX k → N0 ≤ k) ∧ N0 ≤ w.heap.size ∧ (∀ k, K k → k < w.heap.size ∧ (¬ okD k ∧ ¬ okX k ∨ ∃ cs fr, w.heap[k]? = some (.cells cs TB fr)))
def Kept (K : Nat → Prop) (w w' : World) : Prop := ∀ k, K k → w'.heap[k]? = w.heap[k]?
section
variable {K : Nat → Prop} {N0 p x : Nat} {D D' : PD} {s : Int × Int × Int} {ps ps' : List Pg} {w w' : World} {f : FuncId} {args : Array Value} {res : Ending}
theorem upd_below {ok : Nat → Prop} (hu : Upd (Mut ok w) w w') (h0 : N0 ≤ w.heap.size) (hk : ∀ k, ok k → N0 ≤ k) : Below N0 w w' := hu.below h0 (fun k h => hk k h.1)
theorem Two.dev (h : Two K N0 p x D s ps w) (hc : ∀ ok, DevIs N0 p D ok w → Calls Try.prog f args w fun e w' => e = res ∧ DevIs N0 p D' (fun k => ok k ∨ w.heap.size ≤ k) w' ∧ Upd (Mut ok w) w w') :
    Calls Try.prog f args w fun e w' => e = res ∧ Two K N0 p x D' s ps w' ∧ Below N0 w w' ∧ Kept K w w' := by
  obtain ⟨okD, okX, hD, hX, hd, h1, h2, h0, hK⟩ := h
  refine (hc okD hD).mono fun e w1 ⟨he, hD1, hu⟩ => ⟨he, ⟨_, _, hD1, (hX.bound).upd hu ?_, ?_, ?_, ?_, ?_, ?_⟩, upd_below hu h0 h1, fun k hk => hu.block k (hK k hk).1 (fun h => (hK k hk).2.elim (fun h2 => h2.1 h.1) (fun ⟨cs, fr, e⟩ => h.2 cs fr e))⟩
  · exact fun k hk hm => hd k hm.1 hk.1
  · exact fun k hk hx => hk.elim (fun h => hd k h hx.1) (fun h => by have := hx.2.2; omega)
  · exact fun k hk => hk.elim (h1 k) (fun h => Nat.le_trans h0 h)
  · exact fun k hk => hk.2.1
  · exact Nat.le_trans h0 hu.size
  · exact fun k hk => ⟨Nat.lt_of_lt_of_le (hK k hk).1 hu.size, (hK k hk).2.elim (fun h2 => .inl ⟨fun h => h.elim h2.1 (fun h => by have := (hK k hk).1; omega), fun h => h2.2 h.1⟩) (fun ⟨cs, fr, e⟩ => .inr ⟨cs, fr, (hu.block k (hK k hk).1 (fun h => h.2 cs fr e)).trans e⟩)⟩
theorem Two.ref (h : Two K N0 p x D s ps w) (hc : ∀ ok, RefIs N0 x s ps ok w → Calls Try.prog f args w fun e w' => e = res ∧ RefIs N0 x s ps' (fun k => ok k ∨ w.heap.size ≤ k) w' ∧ Upd (Mut ok w) w w') :
    Calls Try.prog f args w fun e w' => e = res ∧ Two K N0 p x D s ps' w' ∧ Below N0 w w' ∧ Kept K w w' := by
  obtain ⟨okD, okX, hD, hX, hd, h1, h2, h0, hK⟩ := h
  refine (hc okX hX).mono fun e w1 ⟨he, hX1, hu⟩ => ⟨he, ⟨_, _, (hD.bound).upd hu ?_, hX1, ?_, ?_, ?_, ?_, ?_⟩, upd_below hu h0 h2, fun k hk => hu.block k (hK k hk).1 (fun h => (hK k hk).2.elim (fun h2 => h2.2 h.1) (fun ⟨cs, fr, e⟩ => h.2 cs fr e))⟩
  · exact fun k hk hm => hd k hk.1 hm.1
  · exact fun k hk hx => hx.elim (fun h => hd k hk.1 h) (fun h => by have := hk.2.2; omega)
  · exact fun k hk => hk.2.1
  · exact fun k hk => hk.elim (h2 k) (fun h => Nat.le_trans h0 h)
  · exact Nat.le_trans h0 hu.size
  · exact fun k hk => ⟨Nat.lt_of_lt_of_le (hK k hk).1 hu.size, (hK k hk).2.elim (fun h2 => .inl ⟨fun h => h2.1 h.1, fun h => h.elim h2.2 (fun h => by have := (hK k hk).1; omega)⟩) (fun ⟨cs, fr, e⟩ => .inr ⟨cs, fr, (hu.block k (hK k hk).1 (fun h => h.2 cs fr e)).trans e⟩)⟩
theorem Two.below (h : Two K N0 p x D s ps w) (hb : Below w.heap.size w w') : Two K N0 p x D s ps w' := by
  obtain ⟨okD, okX, hD, hX, hd, h1, h2, h0, hK⟩ := h
  exact ⟨okD, okX, hD.below hb, hX.below hb, hd, h1, h2, Nat.le_trans h0 hb.size, fun k hk => ⟨Nat.lt_of_lt_of_le (hK k hk).1 hb.size, (hK k hk).2.imp id (fun ⟨cs, fr, e⟩ => ⟨cs, fr, (hb.block k (hK k hk).1).trans e⟩)⟩⟩
/-- What is new beside the two is kept. -/
theorem Two.keep (h : Two K N0 p x D s ps w) (hb : Below w.heap.size w w') : Two (fun k => K k ∨ (w.heap.size ≤ k ∧ k < w'.heap.size)) N0 p x D s ps w' := by
  obtain ⟨okD, okX, hD, hX, hd, h1, h2, h0, hK⟩ := h
  refine ⟨_, _, hD.bound.below hb, hX.bound.below hb, fun k h1 h2 => hd k h1.1 h2.1, fun k h => h1 k h.1, fun k h => h2 k h.1, Nat.le_trans h0 hb.size, fun k hk => ?_⟩
  rcases hk with hk | hk
  · exact ⟨Nat.lt_of_lt_of_le (hK k hk).1 hb.size, (hK k hk).2.imp (fun h2 => ⟨fun h => h2.1 h.1, fun h => h2.2 h.1⟩) (fun ⟨cs, fr, e⟩ => ⟨cs, fr, (hb.block k (hK k hk).1).trans e⟩)⟩
  · exact ⟨hk.2, .inl ⟨fun h => by have := h.2.2; omega, fun h => by have := h.2.2; omega⟩⟩
theorem Two.less {K' : Nat → Prop} (h : Two K N0 p x D s ps w) (hk : ∀ k, K' k → K k) : Two K' N0 p x D s ps w := by
  obtain ⟨okD, okX, hD, hX, hd, h1, h2, h0, hK⟩ := h
  exact ⟨okD, okX, hD, hX, hd, h1, h2, h0, fun k h => hK k (hk k h)⟩
theorem Two.free (h : Two K N0 p x D s ps w) : Two (fun _ => False) N0 p x D s ps w := h.less (fun _ h => h.elim)
theorem Two.drew (h : Two K N0 p x D s ps w) : Two K N0 p x D s ps w.drew := h.below ((Below.refl _ w).drew)
theorem Two.size (h : Two K N0 p x D s ps w) : N0 ≤ w.heap.size := by
  obtain ⟨okD, okX, hD, hX, hd, h1, h2, h0, hK⟩ := h
  exact h0
theorem Two.shape (h : Two K N0 p x D s ps w) : ShapeOk D.s := by
  obtain ⟨okD, okX, ⟨_, _, _, _, hD⟩, hX, hd, h1, h2, h0, hK⟩ := h
  exact hD.shape
theorem Two.nodup (h : Two K N0 p x D s ps w) : Nodup D.mp := by
  obtain ⟨okD, okX, hD, hX, hd, h1, h2, h0, hK⟩ := h
  exact hD.nodup
theorem Two.write (h : Two K N0 p x D s ps w) (a b : Int) (A : Option Addr) (c : Nat) (l : List Int) (hl : kB.C w A l.length l) (hm : D.dirty.length < 1000000) :
    Calls Try.prog 34 #[.pointer (some ⟨p, 0, none⟩), .int .i64 a, .int .i64 b, .slice A l.length c] w fun e w' => e = .returned (.int .i64 (writeE D a b l)) ∧ Two K N0 p x (writeD D a b l) s ps w' ∧ Below N0 w w' ∧ Kept K w w' :=
  h.dev (fun ok hD => Write_any hD a b A c l hl hm)
theorem Two.rwrite (h : Two K N0 p x D s ps w) (hs : ShapeOk s) (a b : Int) (A : Option Addr) (c : Nat) (l : List Int) (hl : kB.C w A l.length l) (hm : ps.length < 1000000) :
    Calls Try.prog 35 #[.pointer (some ⟨x, 0, none⟩), .int .i64 a, .int .i64 b, .slice A l.length c] w fun e w' => e = .returned (.int .i64 (rwE s ps a b l)) ∧ Two K N0 p x D s (rwP s ps a b l) w' ∧ Below N0 w w' ∧ Kept K w w' :=
  h.ref (fun ok hX => RWrite_any hX hs hm a b A c l hl)
theorem Two.sync (h : Two K N0 p x D s ps w) :
    Calls Try.prog 31 #[.pointer (some ⟨p, 0, none⟩)] w fun e w' => e = .returned (.tuple #[]) ∧ Two K N0 p x { D with dirty := [] } s ps w' ∧ Below N0 w w' ∧ Kept K w w' :=
  h.dev (fun ok hD => (Sync_any hD).mono fun e w' ⟨h1, h2, h3⟩ => ⟨h1, h2.mono (fun _ h => .inl h), h3⟩)
theorem Two.rsync (h : Two K N0 p x D s ps w) (hm : ps.length < 1000000) :
    Calls Try.prog 32 #[.pointer (some ⟨x, 0, none⟩)] w fun e w' => e = .returned (.tuple #[]) ∧ Two K N0 p x D s (syncP ps) w' ∧ Below N0 w w' ∧ Kept K w w' :=
  h.ref (fun ok hX => (RSync_any hX hm).mono fun e w' ⟨h1, h2, h3⟩ => ⟨h1, h2.mono (fun _ h => .inl h), h3⟩)
theorem Two.erase (h : Two K N0 p x D s ps w) (a : Int) (hm : D.dirty.length < 1000000) :
    Calls Try.prog 41 #[.pointer (some ⟨p, 0, none⟩), .int .i64 a] w fun e w' => e = .returned (.int .i64 (eraseE D a)) ∧ Two K N0 p x (erasedD D a) s ps w' ∧ Below N0 w w' ∧ Kept K w w' :=
  h.dev (fun ok hD => Erase_any hD a hm)
theorem Two.rerase (h : Two K N0 p x D s ps w) (a : Int) (hm : ps.length < 1000000) :
    Calls Try.prog 66 #[.pointer (some ⟨x, 0, none⟩), .int .i64 a] w fun e w' => e = .returned (.tuple #[]) ∧ Two K N0 p x D s (eraseP a ps) w' ∧ Below N0 w w' ∧ Kept K w w' :=
  h.ref (fun ok hX => RErase_any hX hm a)
theorem Two.crash (h : Two K N0 p x D s ps w) (P : PlanT) (hP : PlanOk P) (hm : D.dirty.length < 1000000) (hdn : D.dirty.Pairwise (· ≠ ·)) (hdk : ∀ a ∈ D.dirty, (look a D.mp).isSome = true) :
    Calls Try.prog 36 #[.pointer (some ⟨p, 0, none⟩), .agg #[.int .u64 P.keep, .int .i64 P.torn, .int .i64 P.cut]] w fun e w' => e = .returned (.tuple #[]) ∧ Two K N0 p x (crashD D P) s ps w' ∧ Below N0 w w' ∧ Kept K w w' :=
  h.dev (fun ok hD => Crash_any hD P hP.k0 hP.k1 hm hdn hdk)
theorem Two.rcrash (h : Two K N0 p x D s ps w) (hs : ShapeOk s) (P : PlanT) (hP : PlanOk P) (hm : ps.length < 1000000) (hlen : ∀ q ∈ ps, q.2.1.length = s.2.2.toNat) :
    Calls Try.prog 37 #[.pointer (some ⟨x, 0, none⟩), .agg #[.int .u64 P.keep, .int .i64 P.torn, .int .i64 P.cut]] w fun e w' => e = .returned (.tuple #[]) ∧ Two K N0 p x D s (rcTo s.2.2 P ps).1 w' ∧ Below N0 w w' ∧ Kept K w w' :=
  h.ref (fun ok hX => RCrash_any hX hs hm hlen P hP.k0)
theorem Two.rhas (h : Two K N0 p x D s ps w) (a b : Int) : Calls Try.prog 65 #[.pointer (some ⟨x, 0, none⟩), .int .i64 a, .int .i64 b] w fun e w' => e = .returned (.bool (hasB s a b)) ∧ w = w' := by
  obtain ⟨okD, okX, hD, hX, _⟩ := h
  exact RHas_any hX a b
end
end Go.Proofs.Ytkmanjfmffdcbaa.Fl
