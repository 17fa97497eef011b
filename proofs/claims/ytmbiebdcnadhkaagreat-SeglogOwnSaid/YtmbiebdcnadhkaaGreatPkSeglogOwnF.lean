/- The parts of this proof, one after the other (wip/tools/packall.py, shake.py). -/
import Derived.Test.YtmbiebdcnadhkaaGreatPkSeglogOwnE
import Derived.IntWalk
import Derived.Test.YtmbiebdcnadhkaaGreatPkSeglogOwnC
import Derived.Lib.MinMax
set_option linter.unusedVariables false
set_option linter.unusedSimpArgs false
namespace Go.Proofs.YtmbiebdcnadhkaaGreat.Fl
open Go.RowKit Go.Proofs.YtmbiebdcnadhkaaGreatW.PrintWords Go.Proofs.YtmbiebdcnadhkaaGreatW.PrintMore Go.Maps
theorem set6 {B : Nat} {w X : World} {g : Nat} (h : Below B w X) (hg : B ≤ g) (c0 c1 c2 c3 c4 c5 : Value) : Below B w ((((((X.setCell ⟨g, 0, none⟩ c0).setCell ⟨g, 1, none⟩ c1).setCell ⟨g, 2, none⟩ c2).setCell ⟨g, 3, none⟩ c3).setCell ⟨g, 4, none⟩ c4).setCell ⟨g, 5, none⟩ c5) :=
 (((((h.setCell hg c0).setCell hg c1).setCell hg c2).setCell hg c3).setCell hg c4).setCell hg c5
theorem set6_blk {X : World} {g : Nat} {T : TypeId} {o0 o1 o2 o3 o4 o5 : Value} (h : X.heap[g]? = some (.cells #[o0, o1, o2, o3, o4, o5] T (0, 0))) (c0 c1 c2 c3 c4 c5 : Value) :
  ((((((X.setCell ⟨g, 0, none⟩ c0).setCell ⟨g, 1, none⟩ c1).setCell ⟨g, 2, none⟩ c2).setCell ⟨g, 3, none⟩ c3).setCell ⟨g, 4, none⟩ c4).setCell ⟨g, 5, none⟩ c5).heap[g]? = some (.cells #[c0, c1, c2, c3, c4, c5] T (0, 0)) :=
 bset (bset (bset (bset (bset (bset h 0 c0) 1 c1) 2 c2) 3 c3) 4 c4) 5 c5
def EndE (w : World) (e : En) (v : Value) (Y : World) : Prop := Y.heap[w.heap.size + 1]? = some (.cells #[.int .i64 e.a, .int .i64 e.b, .int .u64 e.seq, .int .i64 e.pages, .int .u8 e.kind, v] TE (0, 0)) ∧ Dat Y w.heap.size (fun k => w.heap.size ≤ k) v e.data ∧ Below w.heap.size w Y
theorem EndE.alloc {w X : World} {e : En} {v : Value} (h : EndE w e v X) (o : Obj) : EndE w e v (X.alloc o) :=
 ⟨(Below.heap_alloc _ _ _ (blt h.1)).trans h.1, h.2.1.below (below_alloc (Below.refl _ _) _), below_alloc h.2.2 _⟩
theorem EndE.drew {w X : World} {e : En} {v : Value} (h : EndE w e v X) : EndE w e v X.drew :=
 ⟨h.1, h.2.1.below ((Below.refl _ X).drew), h.2.2.drew⟩
theorem EndE.put {w X : World} {o0 o1 o2 o3 o4 o5 v : Value} (e : En) (h : X.heap[w.heap.size + 1]? = some (.cells #[o0, o1, o2, o3, o4, o5] TE (0, 0))) (hb : Below w.heap.size w X) (hd : Dat X w.heap.size (fun k => w.heap.size ≤ k) v e.data) :
  EndE w e v ((((((X.setCell ⟨w.heap.size + 1, 0, none⟩ (.int .i64 e.a)).setCell ⟨w.heap.size + 1, 1, none⟩ (.int .i64 e.b)).setCell ⟨w.heap.size + 1, 2, none⟩ (.int .u64 e.seq)).setCell ⟨w.heap.size + 1, 3, none⟩ (.int .i64 e.pages)).setCell ⟨w.heap.size + 1, 4, none⟩ (.int .u8 e.kind)).setCell ⟨w.heap.size + 1, 5, none⟩ v) := by
 refine ⟨set6_blk h _ _ _ _ _ _, hd.typed (fun k cs hk _ => ?_), set6 hb (by omega) _ _ _ _ _ _⟩
 have hne : k ≠ w.heap.size + 1 := not_typ h (by decide) hk
 rw [Below.heap_setCell _ _ _ _ hne, Below.heap_setCell _ _ _ _ hne, Below.heap_setCell _ _ _ _ hne, Below.heap_setCell _ _ _ _ hne, Below.heap_setCell _ _ _ _ hne, Below.heap_setCell _ _ _ _ hne]
section
variable {N0 p : Nat} {D : PD} {w : World} {ok : Nat → Prop}
end
end Go.Proofs.YtmbiebdcnadhkaaGreat.Fl
namespace Go.Proofs.YtmbiebdcnadhkaaGreat.Fl
open Go.RowKit Go.Proofs.YtmbiebdcnadhkaaGreatW.PrintWords Go.Proofs.YtmbiebdcnadhkaaGreatW.PrintMore Go.Maps
theorem own_ne {w : World} {B : Nat} {ok : Nat → Prop} {v : Value} {l : List En} (h : kEnt.R TE w B ok v l) {k : Nat} (hk : ¬ ok k) : some k ≠ v.ownBlock := fun e => hk (h.1 k e.symm)
section
variable {N0 p : Nat} {D : PD} {w : World} {ok : Nat → Prop}
end
end Go.Proofs.YtmbiebdcnadhkaaGreat.Fl
namespace Go.Proofs.YtmbiebdcnadhkaaGreat.Fl
structure Sound (D : PD) : Prop where
 sh : ShapeOk D.s
 lens : ∀ q ∈ D.mp, q.2.length = D.s.2.2.toNat
theorem DevIs.sound {N0 p : Nat} {D : PD} {ok : Nat → Prop} {w : World} (h : DevIs N0 p D ok w) : Sound D := by
 obtain ⟨m, v, es, ck, h⟩ := h
 exact ⟨h.shape, h.lens⟩
section
variable {D : PD} {a b : Int} {l : List Int}
theorem writeE_zero (h : hasB D.s a b = true) (hl : (l.length : Int) ≤ D.s.2.2) (hu : usedB D a b = false) : writeE D a b l = 0 := by
 unfold writeE
 rw [if_neg (by rw [h]; decide), if_neg (by omega), if_neg (by rw [hu]; decide)]
theorem got_write (h : hasB D.s a b = true) (hl : (l.length : Int) ≤ D.s.2.2) (hu : usedB D a b = false) (c d : Int) :
  gotD (writeD D a b l) c d = if c = a ∧ d = b then full D.s.2.2.toNat l else gotD D c d := by
 have h0 := writeE_zero h hl hu
 unfold gotD
 rw [writeD_s]
 unfold writeD
 rw [if_pos h0]
 unfold readD numB
 simp only
 by_cases hc : c = a ∧ d = b
 ·obtain ⟨rfl, rfl⟩ := hc
  rw [if_pos h, look_put, if_pos rfl, if_pos ⟨rfl, rfl⟩, Option.getD_some, full_full (by omega)]
 ·have hne : ¬ ((c, d) = (a, b)) := fun e => hc ⟨congrArg Prod.fst e, congrArg Prod.snd e⟩
  rw [look_put, if_neg hne, if_neg hc]
theorem used_write (h : hasB D.s a b = true) (hl : (l.length : Int) ≤ D.s.2.2) (hu : usedB D a b = false) (c d : Int) :
  usedB (writeD D a b l) c d = (decide (c = a ∧ d = b) || usedB D c d) := by
 have h0 := writeE_zero h hl hu
 unfold usedB
 rw [writeD_s]
 unfold writeD
 rw [if_pos h0]
 simp only
 by_cases hc : c = a ∧ d = b
 ·obtain ⟨rfl, rfl⟩ := hc
  rw [look_put, if_pos rfl, h]
  simp
 ·have hne : ¬ ((c, d) = (a, b)) := fun e => hc ⟨congrArg Prod.fst e, congrArg Prod.snd e⟩
  rw [look_put, if_neg hne, decide_eq_false hc]
  rfl
def FreeRun (D : PD) (a b : Int) (rs : List (List Int)) : Prop := ∀ i : Nat, i < rs.length → hasB D.s a (b + (i : Int)) = true ∧ usedB D a (b + (i : Int)) = false
theorem FreeRun.head {r : List Int} {rs : List (List Int)} (h : FreeRun D a b (r :: rs)) : hasB D.s a b = true ∧ usedB D a b = false := by
 have := h 0 (by simp)
 simpa using this
theorem FreeRun.tail {r : List Int} {rs : List (List Int)} (h : FreeRun D a b (r :: rs)) (hl : (r.length : Int) ≤ D.s.2.2) : FreeRun (writeD D a b r) a (b + 1) rs := fun i hi => by
 have h1 := h (i + 1) (by simp; omega)
 rw [writeD_s, used_write h.head.1 hl h.head.2]
 rw [show b + 1 + (i : Int) = b + ((i + 1 : Nat) : Int) by omega, h1.2, Bool.or_false]
 exact ⟨h1.1, decide_eq_false (fun hh => by omega)⟩
theorem got_wr : ∀ (rs : List (List Int)) (b : Int) (D : PD), FreeRun D a b rs → (∀ r ∈ rs, (r.length : Int) ≤ D.s.2.2) → ∀ c d : Int, gotD (wrD a b rs D) c d = if c = a ∧ b ≤ d ∧ d < b + rs.length then full D.s.2.2.toNat (rs.getD (d - b).toNat []) else gotD D c d
 | [], b, D, _, _, c, d => by
  rw [if_neg (fun h => by simp at h; omega)]
  rfl
 | r :: rs, b, D, h, hl, c, d => by
  have hr := hl r (by simp)
  show gotD (wrD a (b + 1) rs (writeD D a b r)) c d = _
  rw [got_wr rs (b + 1) (writeD D a b r) (h.tail hr) (fun q hq => by rw [writeD_s]; exact hl q (by simp [hq])), writeD_s, got_write h.head.1 hr h.head.2]
  by_cases h1 : c = a ∧ b + 1 ≤ d ∧ d < b + 1 + rs.length
  ·rw [if_pos h1, if_pos ⟨h1.1, by omega, by simp; omega⟩]
   obtain ⟨k, hk⟩ := Int.eq_ofNat_of_zero_le (show 0 ≤ d - (b + 1) by omega)
   rw [hk, show d - b = ((k + 1 : Nat) : Int) by omega]
   rfl
  ·rw [if_neg h1]
   by_cases h2 : c = a ∧ d = b
   ·rw [if_pos h2, if_pos ⟨h2.1, by omega, by simp; omega⟩, h2.2, Int.sub_self]
    rfl
   ·rw [if_neg h2, if_neg]
    rintro ⟨x1, x2, x3⟩
    simp at x3
    exact h1 ⟨x1, by omega, by omega⟩
theorem used_wr : ∀ (rs : List (List Int)) (b : Int) (D : PD), FreeRun D a b rs → (∀ r ∈ rs, (r.length : Int) ≤ D.s.2.2) → ∀ c d : Int, usedB (wrD a b rs D) c d = (decide (c = a ∧ b ≤ d ∧ d < b + rs.length) || usedB D c d)
 | [], b, D, _, _, c, d => by
  rw [decide_eq_false (fun h => by simp at h; omega)]
  rfl
 | r :: rs, b, D, h, hl, c, d => by
  have hr := hl r (by simp)
  show usedB (wrD a (b + 1) rs (writeD D a b r)) c d = _
  rw [used_wr rs (b + 1) (writeD D a b r) (h.tail hr) (fun q hq => by rw [writeD_s]; exact hl q (by simp [hq])), used_write h.head.1 hr h.head.2, ← Bool.or_assoc, ← Bool.decide_or]
  congr 1
  refine decide_eq_decide.2 ⟨?_, ?_⟩
  ·rintro (⟨x1, x2, x3⟩ | ⟨x1, x2⟩)
   ·exact ⟨x1, by omega, by simp; omega⟩
   ·exact ⟨x1, by omega, by simp; omega⟩
  ·rintro ⟨x1, x2, x3⟩
   simp at x3
   by_cases hd : d = b
   ·exact .inr ⟨x1, hd⟩
   ·exact .inl ⟨x1, by omega, by omega⟩
end
def parts (s : Int × Int × Int) (kd sq : Int) (l : List Int) : List (List Int) := chunkL s.2.2.toNat (rec kd sq l)
theorem nb_pos {s : Int × Int × Int} (hs : ShapeOk s) : 16 ≤ s.2.2.toNat ∧ s.2.2.toNat ≤ 256 ∧ ((s.2.2.toNat : Nat) : Int) = s.2.2 := by
 have := hs.c0
 have := hs.c1
 omega
theorem parts_len {s : Int × Int × Int} (hs : ShapeOk s) (kd sq : Int) (l : List Int) : (parts s kd sq l).length = kpg s l.length := by
 unfold parts kpg
 rw [chunk_len (by have := nb_pos hs; omega), rec_len]
theorem parts_le {s : Int × Int × Int} (hs : ShapeOk s) {kd sq : Int} {l r : List Int} (h : r ∈ parts s kd sq l) : (r.length : Int) ≤ s.2.2 := by
 have h1 := chunk_le (by have := nb_pos hs; omega) r h
 have := nb_pos hs
 omega
structure RecOk (kd sq : Int) (l : List Int) : Prop where
 kd : KindOk kd
 sq : SeqOk sq
 byt : Byt l
 len : l.length ≤ 4096
theorem appE_zero {D : PD} (a b : Int) (n : Nat) : (appE D a b n).2 = 0 ↔ (hasB D.s a b = true ∧ n ≤ 4096 ∧ b + (kpg D.s n : Int) ≤ D.s.2.1 ∧ anyUsedD a b (kpg D.s n) D = false) := by
 unfold appE
 by_cases h1 : hasB D.s a b = false
 ·rw [if_pos h1, h1]; simp
 ·rw [if_neg h1]
  by_cases h2 : 4096 < n
  ·rw [if_pos h2]; simp; omega
  ·rw [if_neg h2]
   by_cases h3 : D.s.2.1 < b + (kpg D.s n : Int)
   ·rw [if_pos h3]; simp; omega
   ·rw [if_neg h3]
    by_cases h4 : anyUsedD a b (kpg D.s n) D = true
    ·rw [if_pos h4, h4]; simp
    ·rw [if_neg h4]
     simp only [Bool.not_eq_false] at h1
     simp only [Bool.not_eq_true] at h4
     simp [h1, h4]; omega
theorem appE_one {D : PD} {a b : Int} {n : Nat} (h : (appE D a b n).2 = 0) : appE D a b n = ((kpg D.s n : Int), 0) := by
 obtain ⟨h1, h2, h3, h4⟩ := (appE_zero a b n).1 h
 unfold appE
 rw [if_neg (by rw [h1]; decide), if_neg (by omega), if_neg (by omega), if_neg (by rw [h4]; decide)]
theorem app_run {D : PD} (hs : ShapeOk D.s) {a b kd sq : Int} {l : List Int} (h : (appE D a b l.length).2 = 0) : FreeRun D a b (parts D.s kd sq l) := by
 obtain ⟨h1, h2, h3, h4⟩ := (appE_zero a b l.length).1 h
 intro i hi
 rw [parts_len hs] at hi
 have h5 := (hasB_iff _ _ _).1 h1
 refine ⟨(hasB_iff _ _ _).2 ⟨h5.1, h5.2.1, by omega, by omega⟩, ?_⟩
 unfold anyUsedD at h4
 rw [List.any_eq_false] at h4
 have := h4 i (by simpa using hi)
 simpa using this
theorem appD_ok {D : PD} {a b : Int} {n : Nat} {bs : List Int} (h : (appE D a b n).2 = 0) : appD D a b n bs = wrD a b (chunkL D.s.2.2.toNat bs) D := by unfold appD; rw [if_pos h]
theorem appD_s (D : PD) (a b : Int) (n : Nat) (bs : List Int) : (appD D a b n bs).s = D.s := by
 unfold appD
 split
 ·exact wrD_s _ _ _ _
 ·rfl
structure Holds (D : PD) (a q kd sq : Int) (l : List Int) : Prop where
 ok : RecOk kd sq l
 has : hasB D.s a q = true
 room : q + (kpg D.s l.length : Int) ≤ D.s.2.1
 got : ∀ i : Nat, i < kpg D.s l.length → gotD D a (q + (i : Int)) = full D.s.2.2.toNat ((parts D.s kd sq l).getD i [])
theorem app_got {D : PD} (hs : ShapeOk D.s) {a b kd sq : Int} {l : List Int} (h : (appE D a b l.length).2 = 0) {c d : Int} (hcd : ¬ (c = a ∧ b ≤ d ∧ d < b + (kpg D.s l.length : Int))) : gotD (appD D a b l.length (rec kd sq l)) c d = gotD D c d := by
 rw [appD_ok h]
 have := got_wr (parts D.s kd sq l) b D (app_run hs h) (fun r hr => parts_le hs hr) c d
 unfold parts at this
 rw [this, if_neg]
 have hl := parts_len hs kd sq l
 unfold parts at hl
 rw [hl]
 exact hcd
theorem app_used {D : PD} (hs : ShapeOk D.s) {a b kd sq : Int} {l : List Int} (h : (appE D a b l.length).2 = 0) (c d : Int) : usedB (appD D a b l.length (rec kd sq l)) c d = (decide (c = a ∧ b ≤ d ∧ d < b + (kpg D.s l.length : Int)) || usedB D c d) := by
 rw [appD_ok h]
 have := used_wr (parts D.s kd sq l) b D (app_run hs h) (fun r hr => parts_le hs hr) c d
 have hl := parts_len hs kd sq l
 unfold parts at this hl
 rw [this, hl]
theorem Holds.keep {D : PD} (hs : ShapeOk D.s) {a b kd sq : Int} {l : List Int} (h : (appE D a b l.length).2 = 0) {c q kd2 sq2 : Int} {l2 : List Int} (hh : Holds D c q kd2 sq2 l2) (hd : c ≠ a ∨ q + (kpg D.s l2.length : Int) ≤ b) : Holds (appD D a b l.length (Fl.rec kd sq l)) c q kd2 sq2 l2 := by
 refine ⟨hh.ok, by rw [appD_s]; exact hh.has, by rw [appD_s]; exact hh.room, fun i hi => ?_⟩
 rw [appD_s] at hi ⊢
 rw [app_got hs h (by omega)]
 exact hh.got i hi
def Chain (D : PD) (a sq : Int) : Int → List (Int × List Int) → Int → Prop
 | q, [], e => q = e
 | q, r :: rs, e => Holds D a q r.1 sq r.2 ∧ r.1 ≠ 1 ∧ Chain D a sq (q + (kpg D.s r.2.length : Int)) rs e
theorem Chain.keep {D : PD} (hs : ShapeOk D.s) {a b kd sq sq2 : Int} {l : List Int} (h : (appE D a b l.length).2 = 0) {c : Int} : ∀ {rs : List (Int × List Int)} {q e : Int}, Chain D c sq2 q rs e → c ≠ a ∨ e ≤ b → Chain (appD D a b l.length (rec kd sq l)) c sq2 q rs e
 | [], _, _, hc, _ => hc
 | r :: rs, q, e, ⟨h1, h2, h3⟩, hd => by
  have he : ∀ {rs : List (Int × List Int)} {q e : Int}, Chain D c sq2 q rs e → q ≤ e := by
   intro rs
   induction rs with
   | nil => intro q e h; exact Int.le_of_eq h
   | cons r rs ih => intro q e h; have := ih h.2.2; omega
  have hle := he h3
  have hd2 : c ≠ a ∨ q + (kpg D.s r.2.length : Int) ≤ b := by
   rcases hd with hd | hd
   ·exact .inl hd
   ·exact .inr (by omega)
  have h4 := Chain.keep hs h h3 hd (kd := kd) (sq := sq)
  refine ⟨h1.keep hs h hd2, h2, ?_⟩
  rw [appD_s]
  exact h4
end Go.Proofs.YtmbiebdcnadhkaaGreat.Fl
namespace Go.Proofs.YtmbiebdcnadhkaaGreat.Fl
open Go.RowKit Go.Proofs.YtmbiebdcnadhkaaGreatW.PrintWords Go.Proofs.YtmbiebdcnadhkaaGreatW.PrintMore Go.Maps
def Solo (N0 p : Nat) (K : Nat → Prop) (D : PD) (w : World) : Prop :=
 ∃ ok : Nat → Prop, DevIs N0 p D ok w ∧ (∀ k, ok k → N0 ≤ k) ∧ N0 ≤ w.heap.size ∧ (∀ k, K k → k < w.heap.size ∧ (¬ ok k ∨ ∃ cs fr, w.heap[k]? = some (.cells cs TB fr)))
theorem solo_frame (N0 p : Nat) : DevFrame N0 p (Solo N0 p) where
 dev := fun h => by
  obtain ⟨ok, hD, _⟩ := h
  exact ⟨ok, hD⟩
 keep := fun {K D w w'} h hb => by
  obtain ⟨ok, hD, h1, h0, hK⟩ := h
  refine ⟨_, hD.bound.below hb, fun k h => h1 k h.1, Nat.le_trans h0 hb.size, fun k hk => ?_⟩
  rcases hk with hk | hk
  ·exact ⟨Nat.lt_of_lt_of_le (hK k hk).1 hb.size, (hK k hk).2.imp (fun h2 h => h2 h.1) (fun ⟨cs, fr, e⟩ => ⟨cs, fr, (hb.block k (hK k hk).1).trans e⟩)⟩
  ·exact ⟨hk.2, .inl (fun h => by have := h.2.2; omega)⟩
 less := fun h hk => by
  obtain ⟨ok, hD, h1, h0, hK⟩ := h
  exact ⟨ok, hD, h1, h0, fun k h => hK k (hk k h)⟩
 upd := fun {K D D' w f args res} h hc => by
  obtain ⟨ok, hD, h1, h0, hK⟩ := h
  refine (hc ok hD).mono fun e w1 ⟨he, hD1, hu⟩ => ⟨he, ⟨_, hD1, ?_, ?_, ?_⟩, upd_below hu h0 h1, fun k hk => hu.block k (hK k hk).1 (fun h => (hK k hk).2.elim (fun h2 => h2 h.1) (fun ⟨cs, fr, e⟩ => h.2 cs fr e))⟩
  ·exact fun k hk => hk.elim (h1 k) (fun h => Nat.le_trans h0 h)
  ·exact Nat.le_trans h0 hu.size
  ·exact fun k hk => ⟨Nat.lt_of_lt_of_le (hK k hk).1 hu.size, (hK k hk).2.elim (fun h2 => .inl (fun h => h.elim h2 (fun h => by have := (hK k hk).1; omega))) (fun ⟨cs, fr, e⟩ => .inr ⟨cs, fr, (hu.block k (hK k hk).1 (fun h => h.2 cs fr e)).trans e⟩)⟩
 size := fun h => by
  obtain ⟨ok, hD, h1, h0, hK⟩ := h
  exact h0
 lt := fun h k hk => by
  obtain ⟨ok, hD, h1, h0, hK⟩ := h
  exact (hK k hk).1
theorem Solo.new {N0 p : Nat} {D : PD} {w w1 : World} (hN : N0 ≤ w.heap.size) (hD : DevIs N0 p D (fun k => w.heap.size ≤ k) w1) (hb : Below w.heap.size w w1) : Solo N0 p (fun _ => False) D w1 :=
 ⟨_, hD, fun k hk => Nat.le_trans hN hk, Nat.le_trans hN hb.size, fun _ h => h.elim⟩
theorem DevFrame.sound {N0 p : Nat} {F : (Nat → Prop) → PD → World → Prop} (hF : DevFrame N0 p F) {K : Nat → Prop} {D : PD} {w : World} (h : F K D w) : Sound D := by
 obtain ⟨ok, hD⟩ := hF.dev h
 exact hD.sound
theorem writeE_inv {D : PD} {a b : Int} {l : List Int} (h : writeE D a b l = 0) : hasB D.s a b = true ∧ (l.length : Int) ≤ D.s.2.2 ∧ usedB D a b = false := by
 unfold writeE at h
 by_cases h1 : hasB D.s a b = false
 ·rw [if_pos h1] at h; cases h
 ·rw [if_neg h1] at h
  by_cases h2 : D.s.2.2 < (l.length : Int)
  ·rw [if_pos h2] at h; cases h
  ·rw [if_neg h2] at h
   by_cases h3 : usedB D a b = true
   ·rw [if_pos h3] at h; cases h
   ·exact ⟨by simpa using h1, by omega, by simpa using h3⟩
theorem BytD.write {D : PD} (h : BytD D) (a b : Int) {l : List Int} (hl : Byt l) : BytD (writeD D a b l) := by
 by_cases h0 : writeE D a b l = 0
 ·obtain ⟨h1, h2, h3⟩ := writeE_inv h0
  intro c d
  rw [got_write h1 h2 h3]
  split
  ·exact Byt.full hl
  ·exact h c d
 ·unfold writeD
  rw [if_neg h0]
  exact h
theorem C_one7 {w : World} {g : Nat} (h : w.cell? ⟨g, 0, none⟩ = some (.int .u8 7)) : kB.C w (some ⟨g, 0, none⟩) [(7 : Int)].length [7] := by
 refine Kd.C_of_reads (d := 0) ⟨rfl, by simp, fun _ => ⟨_, rfl, fun j hj => ?_⟩⟩
 have : j = 0 := by simp at hj; exact hj
 subst this
 exact h
end Go.Proofs.YtmbiebdcnadhkaaGreat.Fl
namespace Go.Proofs.YtmbiebdcnadhkaaGreat.Fl
open Go.RowKit Go.Proofs.YtmbiebdcnadhkaaGreatW.PrintWords Go.Proofs.YtmbiebdcnadhkaaGreatW.PrintMore Go.Maps
theorem anyUsed_true {a b : Int} {k i : Nat} {ps : List Pg} (hi : i < k) (h : 0 ≤ findI a (b + (i : Int)) ps) : anyUsed a b k ps = true := by
 unfold anyUsed
 rw [List.any_eq_true]
 exact ⟨i, by simpa using hi, by simpa using h⟩
theorem anyUsed_false {a b : Int} {k : Nat} {ps : List Pg} (h : ∀ i : Nat, i < k → findI a (b + (i : Int)) ps < 0) : anyUsed a b k ps = false := by
 unfold anyUsed
 rw [List.any_eq_false]
 intro i hi
 have := h i (by simpa using hi)
 simp
 omega
theorem ref_cells {N0 x : Nat} {s : Int × Int × Int} {ps : List Pg} {ok : Nat → Prop} {w : World} (h : RefIs N0 x s ps ok w) : w.cell? ⟨x, 0, none⟩ = some (.int .i64 s.1) ∧ w.cell? ⟨x, 1, none⟩ = some (.int .i64 s.2.1) ∧ w.cell? ⟨x, 2, none⟩ = some (.int .i64 s.2.2) := by
 obtain ⟨_, _, v, hx, _⟩ := h
 exact ⟨bcell hx 0, bcell hx 1, bcell hx 2⟩
section
variable {N0 x : Nat} {s : Int × Int × Int} {G : (Nat → Prop) → List Pg → World → Prop} {K : Nat → Prop} {ps : List Pg} {w : World} {A : Option Addr} {c : Nat} {l : List Int} {kind seq : Int}
theorem RefFrame.write (hG : RefFrame N0 x s G) (h : G K ps w) (hs : ShapeOk s) (a b : Int) (A : Option Addr) (c : Nat) (l : List Int) (hl : kB.C w A l.length l) (hm : ps.length < 1000000) :
  Calls Tryz.prog 70 #[.pointer (some ⟨x, 0, none⟩), .int .i64 a, .int .i64 b, .slice A l.length c] w fun e w' => e = .returned (.int .i64 (rwE s ps a b l)) ∧ G K (rwP s ps a b l) w' ∧ Below N0 w w' ∧ Kept K w w' :=
 hG.upd h (fun ok hX => RWrite_any hX hs hm a b A c l hl)
set_option maxHeartbeats 4000000 in
set_option maxRecDepth 100000 in
theorem RAppend_G (hG : RefFrame N0 x s G) (h : G K ps w) (hsh : ShapeOk s) (a b : Int) (hk : KindOk kind) (hs : SeqOk seq) (hl : Byt l) (hC : kB.C w A l.length l) (hc : l.length ≤ c) (hm : l.length < 1000000) (hd : ps.length < 900000) :
  Calls Tryz.prog 96 #[.pointer (some ⟨x, 0, none⟩), .int .i64 a, .int .i64 b, .int .u64 seq, .int .u8 kind, .slice A l.length c] w fun e w' => e = .returned (.tuple #[.int .i64 (appR s ps a b l.length).1, .int .i64 (appR s ps a b l.length).2]) ∧ G K (appP s ps a b l.length (rec kind seq l)) w' ∧ Below N0 w w' ∧ Kept K w w' := by
 have hex := hG.ref h
 obtain ⟨ok, hX⟩ := hex
 have hhas := RHas_any hX a b
 have hcells := fun (X : World) (hX' : Below w.heap.size w X) => ref_cells (hX.below hX')
 have hfind := fun (X : World) (hX' : Below w.heap.size w X) (y : Int) => RFind_any (hX.below hX') (by omega) a y
 obtain ⟨n, hn⟩ : ∃ n, n = l.length := ⟨_, rfl⟩
 have en := fun (w : World) (a : Option Addr) (n c : Nat) => Lib.run_eql_slice_nil (P := Tryz.prog) w 25 TB a n c 0 0 Tryz.underlying25
 have HG := Lib.hid hG
 have HH := Aside0.mk h
 have HN := Lib.hid hn
 have HST := Lib.hid (fun (X : World) (hX : Below w.heap.size w X) => hG.still h hX)
 have HOK := Lib.hid hsh
 have HDD := Lib.hid hd
 have nm : (n : Int) < 1000000 := by omega
 rw [← hn] at hc hm
 rw [← hn]
 cases hb : hasB s a b with
 | false =>
  have hE : appR s ps a b n = (0, 6) := by unfold appR; rw [hb]; rfl
  have hA : appP s ps a b n (rec kind seq l) = ps := by unfold appP; rw [hE]; rfl
  rw [hE, hA]
  rw [hb] at hhas
  have HHAS := Lib.hid hhas
  clear hb hE hA hG h hn hsh hX hhas hcells hfind hd hk hs hl hC hc hm en
  go_enter Tryz.func96, Tryz.ntmps96
  go_wp2_with (go_at_call 100; (with_reducible refine HHAS.out.mono ?_); rintro e w1 ⟨rfl, rfl⟩)
  go_ret2
  exact ⟨rfl, HST.out _ (Below.refl _ _)⟩
 | true =>
  rw [hb] at hhas
  have HHAS := Lib.hid hhas
  have HHB := Lib.hid hb
  have hab := (hasB_iff _ _ _).1 hb
  have b0 : 0 ≤ b := hab.2.2.1
  have b1 : b < 64 := by have := hab.2.2.2; have := hsh.b1; omega
  by_cases hlen : n ≤ 4096
  ·have hfr := fun (X : World) (hX' : Below w.heap.size w X) => Frame_ok (w := X) (A := A) (c := c) hk hs hl (Kd.C_below hC hX') (by rw [← hn]; exact hc) (by rw [← hn]; exact hlen)
   rw [← hn] at hfr
   have hpg := fun (X : World) => RPages_ok n s hsh hlen X
   have hkb := kpg_bd hsh hlen
   obtain ⟨k, hkd⟩ : ∃ k, k = kpg s n := ⟨_, rfl⟩
   rw [← hkd] at hpg hkb
   obtain ⟨nb, hnb⟩ := Int.eq_ofNat_of_zero_le (show 0 ≤ s.2.2 by have := hsh.c0; omega)
   have hnb0 : 16 ≤ nb := by have := hsh.c0; omega
   have hnb1 : nb ≤ 256 := by have := hsh.c1; omega
   obtain ⟨R0, hR0⟩ : ∃ R0, R0 = rec kind seq l := ⟨_, rfl⟩
   have hRl : R0.length = n + 16 := by rw [hR0, rec_len, hn]
   have hcl : (chunkL nb R0).length = k := by
    rw [chunk_len (by omega), hRl, hkd, kpg, hnb]
    rfl
   rw [← hR0] at hfr
   rw [hnb] at hpg hcells
   have hnbt : s.2.2.toNat = nb := by rw [hnb]; rfl
   have hcell2 : ∀ X ok, RefIs N0 x s ps ok X → True := fun _ _ _ => trivial
   clear hcell2
   have hgc : ∀ (ps' : List Pg) (K' : Nat → Prop) (X : World), G K' ps' X → X.cell? ⟨x, 2, none⟩ = some (.int .i64 (nb : Int)) := fun ps' K' X hg => by
    obtain ⟨ok, hx⟩ := hG.ref hg
    have := (ref_cells hx).2.2
    rwa [hnb] at this
   have hrow : ∀ i r, (chunkL nb R0)[i]? = some r → i * nb < n + 16 ∧ r = (R0.drop (i * nb)).take nb := fun i r hi => by
    obtain ⟨h1, h2⟩ := chunk_get (by omega) i R0 r hi
    exact ⟨by omega, h2⟩
   have HFR := Lib.hid hfr
   have HPG := Lib.hid hpg
   have HCE := Lib.hid hcells
   have HGC := Lib.hid hgc
   have HROW := Lib.hid hrow
   have HCL := Lib.hid hcl
   have HNB := Lib.hid hnbt
   have HKD := Lib.hid hkd
   have HRL := Lib.hid hRl
   have HFD := Lib.hid hfind
   have k1 : 1 ≤ k := hkb.1
   have k257 : k ≤ 257 := hkb.2
   obtain ⟨y0, y1, y2⟩ := hcells w (Below.refl _ _)
   obtain ⟨S1, hS1⟩ : ∃ S1, S1 = s.2.1 := ⟨_, rfl⟩
   have s1a : 1 ≤ S1 := by rw [hS1]; exact hsh.b0
   have s1b : S1 ≤ 64 := by rw [hS1]; exact hsh.b1
   have HS1 := Lib.hid hS1
   rw [← hS1] at y1
   rw [← hR0]
   clear hG h hn hsh hX hhas hcells hfind hd hk hs hl hC hc hm hfr hpg hkb hkd hnb hR0 hRl hcl hnbt hgc hrow hab hb hS1 y0
   have HCE1 := Lib.hid (show ∀ X : World, Below w.heap.size w X → X.cell? ⟨x, 1, none⟩ = some (.int .i64 S1) ∧ X.cell? ⟨x, 2, none⟩ = some (.int .i64 (nb : Int)) from fun X hX => by
    have := HCE.out X hX
    rw [← HS1.out] at this
    exact this.2)
   by_cases hroom : S1 < b + (k : Int)
   ·have hE : appR s ps a b n = (0, 5) := by
     unfold appR
     rw [if_neg (by rw [HHB.out]; decide), if_neg (by omega), if_pos (by have := HKD.out; have := HS1.out; omega)]
    have hA : appP s ps a b n R0 = ps := by unfold appP; rw [hE]; rfl
    rw [hE, hA]
    have d1 : decide (S1 < b + (k : Int)) = true := by simpa using hroom
    clear hE hA hroom
    go_enter Tryz.func96, Tryz.ntmps96
    go_wp2_with (first
     | (go_at_call 100; (with_reducible refine HHAS.out.mono ?_); rintro e w1 ⟨rfl, rfl⟩)
     | (go_at_call 118; (with_reducible refine (HFR.out _ (Below.refl _ _)).mono ?_); rintro e w2 ⟨ad, c2, rfl, hc2, hC2, hrw, hb⟩; have HB2 := Aside0.mk hb; obtain ⟨z1, z2⟩ := HCE1.out _ hb; clear hb hC2 hc2 hrw)
     | (go_at_call 95; (with_reducible refine (HPG.out _).mono ?_); rintro e w3 ⟨rfl, hb⟩; have HB3 := Aside0.mk (HB2.out.trans (hb.mono HB2.out.size)); obtain ⟨x1, x2⟩ := HCE1.out _ HB3.out; clear hb))
    go_ret2
    exact ⟨rfl, HST.out _ HB3.out⟩
   ·have d1 : decide (S1 < b + (k : Int)) = false := by simpa using hroom
    have HRM := Lib.hid hroom
    clear hroom
    go_enter Tryz.func96, Tryz.ntmps96
    go_wp2_with (first
     | (go_at_call 100; (with_reducible refine HHAS.out.mono ?_); rintro e w1 ⟨rfl, rfl⟩)
     | (go_at_call 118; (with_reducible refine (HFR.out _ (Below.refl _ _)).mono ?_); rintro e w2 ⟨ad, c2, rfl, hc2, hC2, hrw, hb⟩; have HC2 := Aside0.mk hrw; have HCC := Lib.hid hc2; have HB2 := Aside0.mk hb; obtain ⟨z1, z2⟩ := HCE1.out _ hb; clear hb hC2 hc2 hrw)
     | (go_at_call 95; (with_reducible refine (HPG.out _).mono ?_); rintro e w3 ⟨rfl, hb⟩; have HC3 := Aside0.mk (HC2.out.below hb); have HB3 := Aside0.mk (HB2.out.trans (hb.mono HB2.out.size)); obtain ⟨x1, x2⟩ := HCE1.out _ HB3.out; clear hb))
    clear d1 en y1 y2 z1 z2 x1 x2
    go_loopw [16] (fun v16 wr => ∃ i : Nat, i ≤ k ∧ v16 = .int .i64 (i : Int) ∧ Below w3.heap.size w3 wr ∧ ∀ j : Nat, j < i → findI a (b + (j : Int)) ps < 0) (fun v16 _ => k - (intOf v16).toNat)
    case atStart => exact ⟨0, Nat.zero_le _, rfl, Below.refl _ _, fun j hj => by omega⟩
    case round =>
     obtain ⟨i, hi, rfl, hbi, hpre⟩ := hrel
     have HI := Aside0.mk hbi
     have HPRE := Lib.hid hpre
     have HBW := Aside0.mk (HB3.out.trans (hbi.mono HB3.out.size))
     clear hbi hpre
     by_cases hlt : i < k
     ·have i0 : (0 : Int) ≤ (i : Int) := by omega
      have i2 : (i : Int) < (k : Int) := by omega
      have i3 : (i : Int) < 257 := by omega
      have hfd := HFD.out _ HBW.out (b + (i : Int))
      obtain ⟨F, hF⟩ : ∃ F, F = findI a (b + (i : Int)) ps := ⟨_, rfl⟩
      rw [← hF] at hfd
      have HFI := Lib.hid hF
      have HFDI := Lib.hid hfd
      clear hF hfd
      by_cases hu : 0 ≤ F
      ·have hE : appR s ps a b n = (0, 7) := by
        unfold appR
        rw [if_neg (by rw [HHB.out]; decide), if_neg (by omega), if_neg (by have := HRM.out; have := HS1.out; have := HKD.out; omega), if_pos (by rw [← HKD.out]; exact anyUsed_true hlt (by rw [← HFI.out]; exact hu))]
       have hA : appP s ps a b n R0 = ps := by unfold appP; rw [hE]; rfl
       have HE := Lib.hid hE
       have HA := Lib.hid hA
       have d2 : decide (0 ≤ F) = true := by simpa using hu
       clear hE hA hu
       go_wp2_with (go_at_call 64; (with_reducible refine HFDI.out.mono ?_); rintro e w4 ⟨rfl, hb⟩; have HB4 := Aside0.mk (HBW.out.trans (hb.mono HBW.out.size)); clear hb)
       go_ret2
       rw [HE.out, HA.out]
       exact ⟨rfl, HST.out _ HB4.out⟩
      ·have d2 : decide (0 ≤ F) = false := by simpa using hu
       have HU := Lib.hid hu
       clear hu
       go_wp2_with (go_at_call 64; (with_reducible refine HFDI.out.mono ?_); rintro e w4 ⟨rfl, hb⟩; have HB4 := Aside0.mk (HI.out.trans (hb.mono HI.out.size)); clear hb)
       refine ⟨⟨i + 1, by omega, by go_num, HB4.out, fun j hj => ?_⟩, by simp [intOf]; omega⟩
       rcases Nat.lt_or_ge j i with h2 | h2
       ·exact HPRE.out j h2
       ·obtain rfl : j = i := by omega
        have := HU.out
        have := HFI.out
        omega
     ·obtain rfl : i = k := by omega
      have hE : appR s ps a b n = ((i : Int), 0) := by
       unfold appR
       rw [if_neg (by rw [HHB.out]; decide), if_neg (by omega), if_neg (by have := HRM.out; have := HS1.out; have := HKD.out; omega), if_neg (by rw [← HKD.out, anyUsed_false HPRE.out]; decide), ← HKD.out]
      have hA : appP s ps a b n R0 = wrP s a b (chunkL nb R0) ps := by unfold appP; rw [hE, if_pos rfl, HNB.out]
      have HE := Lib.hid hE
      have HA := Lib.hid hA
      obtain ⟨wa, rfl⟩ : ∃ wa : World, wa = wr := ⟨_, rfl⟩
      have HCA := Aside0.mk (HC3.out.below HI.out)
      have HK0 := Aside0.mk (HG.out.keep HH.out HBW.out)
      clear hE hA hlt
      go_wp2
      go_loopw [17] (fun v17 wr => ∃ j : Nat, j ≤ i ∧ v17 = .int .i64 (j : Int) ∧ G (fun k => K k ∨ (w.heap.size ≤ k ∧ k < wa.heap.size)) (wrP s a b ((chunkL nb R0).take j) ps) wr ∧ Below N0 wa wr ∧ Kept (fun k => K k ∨ (w.heap.size ≤ k ∧ k < wa.heap.size)) wa wr) (fun v17 _ => i - (intOf v17).toNat)
      case atStart => exact ⟨0, Nat.zero_le _, rfl, HK0.out, Below.refl _ _, fun _ _ => rfl⟩
      case round =>
       obtain ⟨j, hj, rfl, hf, hbj, hkj⟩ := hrel
       have HGJ := Aside0.mk hf
       have HBJ := Aside0.mk hbj
       have HKJ := Lib.hid hkj
       clear hf hbj hkj
       by_cases hltj : j < i
       ·obtain ⟨r, hr⟩ : ∃ r, (chunkL nb R0)[j]? = some r := ⟨_, List.getElem?_eq_getElem (by have := HCL.out; omega)⟩
        obtain ⟨hp1, hp2⟩ := HROW.out j r hr
        have hrow := HCA.out.step (w' := wr) (fun k h1 h2 => HKJ.out k (.inr ⟨h1, h2⟩))
        obtain ⟨Ax, cx, ex, hcx, hCx⟩ := hrow.reads
        injection ex with ex1 ex2 ex3
        subst ex1 ex3
        have hx2 := HGC.out _ _ _ HGJ.out
        obtain ⟨P, hP⟩ : ∃ P, P = j * nb := ⟨_, rfl⟩
        have hjk : j * nb ≤ 257 * 256 := Nat.mul_le_mul (by omega) hnb1
        have hPi : (j : Int) * (nb : Int) = (P : Int) := by rw [hP]; simp
        have hQi : ((j : Int) + 1) * (nb : Int) = (P : Int) + (nb : Int) := by rw [Int.add_mul, hPi, Int.one_mul]
        have hps : (wrP s a b ((chunkL nb R0).take j) ps).length < 1000000 := by
         have h1 := wrP_len s a ((chunkL nb R0).take j) b ps
         have h2 := HDD.out
         rw [List.length_take] at h1
         omega
        have hnx : rwP s (wrP s a b ((chunkL nb R0).take j) ps) a (b + (j : Int)) r = wrP s a b ((chunkL nb R0).take (j + 1)) ps := by
         rw [List.take_add_one, hr]
         show _ = wrP s a b ((chunkL nb R0).take j ++ [r]) ps
         rw [wrP_snoc, List.length_take, Nat.min_eq_left (by have := HCL.out; omega)]
        have j0 : (0 : Int) ≤ (j : Int) := by omega
        have j2 : (j : Int) < (i : Int) := by omega
        have j3 : (j : Int) < 257 := by omega
        have p0 : (0 : Int) ≤ (P : Int) := by omega
        have p1 : (P : Int) ≤ 65792 := by omega
        have hcc := HCC.out
        have hPn : P < n + 16 := by rw [hP]; exact hp1
        by_cases hq : n + 16 < P + nb
        ·have hmid := Kd.C_mid (lo := P) (hi := n + 16) (c := c2) hCx (by omega) (by have := HRL.out; omega) (by have := HRL.out; omega)
         have hz : P * kB.sz = P := Nat.mul_one P
         have hre : (R0.take (n + 16)).drop P = r := by
          rw [hp2, ← hP, List.take_of_length_le (by have := HRL.out; omega), List.take_of_length_le (by rw [List.length_drop]; have := HRL.out; omega)]
         rw [hre, if_neg (by omega), hz] at hmid
         have hrlen : r.length = n + 16 - P := by rw [← hre, List.length_drop, List.length_take]; have := HRL.out; omega
         have hw := HG.out.write HGJ.out HOK.out a (b + (j : Int)) (some (ad.add P)) (c2 - P) r hmid hps
         rw [hnx, hrlen] at hw
         have HW := Lib.hid hw
         have d3 : decide ((n : Int) + 16 < (P : Int) + (nb : Int)) = true := by simp; omega
         have d4 : (P : Int) ≤ (n : Int) + 16 := by omega
         have d5 : (n : Int) + 16 ≤ (c2 : Int) := by omega
         clear hr hp1 hp2 hrow hCx hcx hP hjk hps hnx hmid hz hre hrlen hw ex2
         go_wp2_with (go_at_call 70; (with_reducible refine HW.out.mono ?_); rintro e w8 ⟨rfl, hf8, hb8, hk8⟩; have HF8 := Aside0.mk hf8; have HB8 := Aside0.mk hb8; have HK8 := Lib.hid hk8; clear hf8 hb8 hk8)
         exact ⟨⟨j + 1, by omega, by go_num, HF8.out, HBJ.out.trans HB8.out, fun k hk => (HK8.out k hk).trans (HKJ.out k hk)⟩, by simp [intOf]; omega⟩
        ·have hmid := Kd.C_mid (lo := P) (hi := P + nb) (c := c2) hCx (by omega) (by have := HRL.out; omega) (by have := HRL.out; omega)
         have hz : P * kB.sz = P := Nat.mul_one P
         have hre : (R0.take (P + nb)).drop P = r := by
          rw [hp2, ← hP, List.drop_take]
          congr 1
          omega
         rw [hre, if_neg (by omega), hz] at hmid
         have hrlen : r.length = nb := by rw [← hre, List.length_drop, List.length_take]; have := HRL.out; omega
         have hw := HG.out.write HGJ.out HOK.out a (b + (j : Int)) (some (ad.add P)) (c2 - P) r hmid hps
         rw [hnx, hrlen] at hw
         have HW := Lib.hid hw
         have d3 : decide ((n : Int) + 16 < (P : Int) + (nb : Int)) = false := by simp; omega
         have d4 : (P : Int) + (nb : Int) ≤ (n : Int) + 16 := by omega
         have d5 : (n : Int) + 16 ≤ (c2 : Int) := by omega
         clear hr hp1 hp2 hrow hCx hcx hP hjk hps hnx hmid hz hre hrlen hw ex2
         go_wp2_with (go_at_call 70; (with_reducible refine HW.out.mono ?_); rintro e w8 ⟨rfl, hf8, hb8, hk8⟩; have HF8 := Aside0.mk hf8; have HB8 := Aside0.mk hb8; have HK8 := Lib.hid hk8; clear hf8 hb8 hk8)
         exact ⟨⟨j + 1, by omega, by go_num, HF8.out, HBJ.out.trans HB8.out, fun k hk => (HK8.out k hk).trans (HKJ.out k hk)⟩, by simp [intOf]; omega⟩
       ·obtain rfl : j = i := by omega
        have hfin : G K (wrP s a b (chunkL nb R0) ps) wr := by
         have h1 := HG.out.less HGJ.out (K' := K) (fun k hk => .inl hk)
         rwa [List.take_of_length_le (by have := HCL.out; omega)] at h1
        have HFIN := Aside0.mk hfin
        clear hfin
        go_wp2
        go_ret2
        rw [HE.out, HA.out]
        refine ⟨rfl, HFIN.out, (HBW.out.mono (HG.out.size HH.out)).trans HBJ.out, fun k hk => (HKJ.out k (.inl hk)).trans (HBW.out.block k (HG.out.lt HH.out k hk))⟩
  ·have hE : appR s ps a b n = (0, 10) := by
    unfold appR
    rw [if_neg (by rw [hb]; decide), if_pos (by omega)]
   have hA : appP s ps a b n (rec kind seq l) = ps := by unfold appP; rw [hE]; rfl
   have hfr := fun (X : World) => Frame_no (w := X) (A := A) (c := c) (l := l) (kind := kind) (seq := seq) (by rw [← hn]; omega)
   rw [← hn] at hfr
   have HFR := Lib.hid hfr
   rw [hE, hA]
   clear hb hE hA hG h hn hsh hX hhas hcells hfind hd hk hs hl hC hc hm hfr hab hlen
   go_enter Tryz.func96, Tryz.ntmps96
   go_wp2_with (first
    | (go_at_call 100; (with_reducible refine HHAS.out.mono ?_); rintro e w1 ⟨rfl, rfl⟩)
    | (go_at_call 118; (with_reducible refine (HFR.out _).mono ?_); rintro e w2 ⟨rfl, rfl⟩))
   go_ret2
   exact ⟨rfl, HST.out _ (Below.refl _ _)⟩
end
end Go.Proofs.YtmbiebdcnadhkaaGreat.Fl
namespace Go.Proofs.YtmbiebdcnadhkaaGreat.Fl
open Go.RowKit Go.Proofs.YtmbiebdcnadhkaaGreatW.PrintWords Go.Proofs.YtmbiebdcnadhkaaGreatW.PrintMore Go.Maps
structure RecT where
 seg : Int
 page : Int
 seq : Int
 kind : Int
 l : List Int
structure RCell (w : World) (ad : Addr) (i : Nat) (r : RecT) (A : Option Addr) (c : Nat) : Prop where
 c0 : w.cell? (ad.add (i * 5)) = some (.int .i64 r.seg)
 c1 : w.cell? ⟨(ad.add (i * 5)).block, (ad.add (i * 5)).off + 1, none⟩ = some (.int .i64 r.page)
 c2 : w.cell? ⟨(ad.add (i * 5)).block, (ad.add (i * 5)).off + 2, none⟩ = some (.int .u64 r.seq)
 c3 : w.cell? ⟨(ad.add (i * 5)).block, (ad.add (i * 5)).off + 3, none⟩ = some (.int .u8 r.kind)
 c4 : w.cell? ⟨(ad.add (i * 5)).block, (ad.add (i * 5)).off + 4, none⟩ = some (.slice A r.l.length c)
 row : kB.C w A r.l.length r.l
 cap : r.l.length ≤ c
def RRow (w : World) (A : Option Addr) (rs : List RecT) : Prop := ∀ (i : Nat) (r : RecT), rs[i]? = some r → ∃ ad A1 c1, A = some ad ∧ RCell w ad i r A1 c1
theorem RCell.below {w w' : World} {ad : Addr} {i : Nat} {r : RecT} {A : Option Addr} {c : Nat} (h : RCell w ad i r A c) (hb : Below w.heap.size w w') : RCell w' ad i r A c :=
 have f : ∀ {a : Addr} {v : Value}, w.cell? a = some v → w'.cell? a = some v := fun h => (hb.cell (blt_of_cell h)).trans h
 ⟨f h.c0, f h.c1, f h.c2, f h.c3, f h.c4, Kd.C_below h.row hb, h.cap⟩
theorem RRow.below {w w' : World} {A : Option Addr} {rs : List RecT} (h : RRow w A rs) (hb : Below w.heap.size w w') : RRow w' A rs := fun i d hi => by
 obtain ⟨ad, A1, c1, h1, h2⟩ := h i d hi
 exact ⟨ad, A1, c1, h1, h2.below hb⟩
theorem appP_len {s : Int × Int × Int} (hs : ShapeOk s) (ps : List Pg) (a b : Int) (n : Nat) {bs : List Int} (hb : bs.length = n + 16) : (appP s ps a b n bs).length ≤ ps.length + 257 := by
 unfold appP
 split
 ·rename_i h
  have h1 := wrP_len s a (chunkL s.2.2.toNat bs) b ps
  have h2 := chunk_len (n := s.2.2.toNat) (by have := nb_pos hs; omega) bs
  have h3 : n ≤ 4096 := by
   unfold appR at h
   by_cases h1 : hasB s a b = false
   ·rw [if_pos h1] at h; cases h
   ·rw [if_neg h1] at h
    by_cases h2 : 4096 < n
    ·rw [if_pos h2] at h; cases h
    ·omega
  have h4 := kpg_bd hs h3
  unfold kpg at h4
  rw [hb] at h2
  omega
 ·omega
theorem BytP.app {s : Int × Int × Int} (hs : ShapeOk s) {ps : List Pg} (h : BytP ps) (a b : Int) (n : Nat) {bs : List Int} (hb : Byt bs) : BytP (appP s ps a b n bs) := by
 unfold appP
 split
 ·exact h.wr a _ b ps (chunk_byt (by have := nb_pos hs; omega) hb)
 ·exact h
end Go.Proofs.YtmbiebdcnadhkaaGreat.Fl
namespace Go.Proofs.YtmbiebdcnadhkaaGreat.Fl
open Go.RowKit Go.Proofs.YtmbiebdcnadhkaaGreatW.PrintWords Go.Proofs.YtmbiebdcnadhkaaGreatW.PrintMore Go.Maps
end Go.Proofs.YtmbiebdcnadhkaaGreat.Fl
namespace Go.Proofs.YtmbiebdcnadhkaaGreat.Fl
open Go.RowKit Go.Proofs.YtmbiebdcnadhkaaGreatW.PrintWords Go.Proofs.YtmbiebdcnadhkaaGreatW.PrintMore Go.Maps
section
variable {N0 x : Nat} {s : Int × Int × Int} {ps : List Pg} {w : World} {ok : Nat → Prop}
end
end Go.Proofs.YtmbiebdcnadhkaaGreat.Fl
namespace Go.Proofs.YtmbiebdcnadhkaaGreat.Fl
open Go.RowKit Go.Proofs.YtmbiebdcnadhkaaGreatW.PrintWords Go.Proofs.YtmbiebdcnadhkaaGreatW.PrintMore Go.Maps
section
variable {N0 x : Nat} {s : Int × Int × Int} {ps : List Pg} {w : World} {ok : Nat → Prop}
end
end Go.Proofs.YtmbiebdcnadhkaaGreat.Fl
namespace Go.Proofs.YtmbiebdcnadhkaaGreat.Fl
open Go.RowKit Go.Proofs.YtmbiebdcnadhkaaGreatW.PrintWords Go.Proofs.YtmbiebdcnadhkaaGreatW.PrintMore Go.Maps
section
variable {N0 x : Nat} {s : Int × Int × Int} {ps : List Pg} {w : World} {ok : Nat → Prop}
end
end Go.Proofs.YtmbiebdcnadhkaaGreat.Fl
namespace Go.Proofs.YtmbiebdcnadhkaaGreat.Fl
open Go.RowKit Go.Proofs.YtmbiebdcnadhkaaGreatW.PrintWords Go.Proofs.YtmbiebdcnadhkaaGreatW.PrintMore Go.Maps
end Go.Proofs.YtmbiebdcnadhkaaGreat.Fl
namespace Go.Proofs.YtmbiebdcnadhkaaGreat.Fl
open Go.RowKit Go.Proofs.YtmbiebdcnadhkaaGreatW.PrintWords Go.Proofs.YtmbiebdcnadhkaaGreatW.PrintMore Go.Maps
end Go.Proofs.YtmbiebdcnadhkaaGreat.Fl
namespace Go.Proofs.YtmbiebdcnadhkaaGreat.Fl
open Go.RowKit Go.Proofs.YtmbiebdcnadhkaaGreatW.PrintWords Go.Proofs.YtmbiebdcnadhkaaGreatW.PrintMore Go.Maps
structure ECell (w : World) (g i : Nat) (e : En) (A : Option Addr) (c : Nat) : Prop where
 c0 : w.cell? ⟨g, i * 6, none⟩ = some (.int .i64 e.a)
 c1 : w.cell? ⟨g, i * 6 + 1, none⟩ = some (.int .i64 e.b)
 c2 : w.cell? ⟨g, i * 6 + 2, none⟩ = some (.int .u64 e.seq)
 c3 : w.cell? ⟨g, i * 6 + 3, none⟩ = some (.int .i64 e.pages)
 c4 : w.cell? ⟨g, i * 6 + 4, none⟩ = some (.int .u8 e.kind)
 c5 : w.cell? ⟨g, i * 6 + 5, none⟩ = some (.slice A e.data.length c)
 row : kB.C w A e.data.length e.data
 cap : e.data.length ≤ c
def ERow (w : World) (A : Option Addr) (l : List En) : Prop := ∀ (i : Nat) (e : En), l[i]? = some e → ∃ g A1 c1, A = some ⟨g, 0, none⟩ ∧ ECell w g i e A1 c1
theorem ECell.below {w w' : World} {g i : Nat} {e : En} {A : Option Addr} {c : Nat} (h : ECell w g i e A c) (hb : Below w.heap.size w w') : ECell w' g i e A c :=
 have f : ∀ {a : Addr} {v : Value}, w.cell? a = some v → w'.cell? a = some v := fun h => (hb.cell (blt_of_cell h)).trans h
 ⟨f h.c0, f h.c1, f h.c2, f h.c3, f h.c4, f h.c5, Kd.C_below h.row hb, h.cap⟩
theorem ERow.below {w w' : World} {A : Option Addr} {l : List En} (h : ERow w A l) (hb : Below w.heap.size w w') : ERow w' A l := fun i e hi => by
 obtain ⟨g, A1, c1, h1, h2⟩ := h i e hi
 exact ⟨g, A1, c1, h1, h2.below hb⟩
theorem ERow.take {w : World} {A : Option Addr} {l : List En} (h : ERow w A l) (k : Nat) : ERow w A (l.take k) := fun i e hi => by
 rw [List.getElem?_take] at hi
 split at hi
 ·exact h i e hi
 ·cases hi
def cleanD (D : PD) (a : Int) : Bool := hasB D.s a 0 && (List.range D.s.2.1.toNat).all fun i => !usedB D a (i : Int)
section
variable {N0 p : Nat} {D : PD} {w : World} {ok : Nat → Prop}
set_option maxHeartbeats 2000000 in
set_option maxRecDepth 100000 in
theorem Clean_any (hD : DevIs N0 p D ok w) (a : Int) : Calls Tryz.prog 67 #[.pointer (some ⟨p, 0, none⟩), .int .i64 a] w fun e w' => e = .returned (.bool (cleanD D a)) ∧ Below w.heap.size w w' := by
 have hs : ShapeOk D.s := by
  obtain ⟨m, v, es, ck, hD⟩ := hD
  exact hD.shape
 have hth := there_any hD a 0
 have hshape := fun (X : World) (hX : Below w.heap.size w X) => Shape_any (hD.below hX)
 have hus := fun (X : World) (hX : Below w.heap.size w X) (y : Int) => Used_any (hD.below hX) a y
 obtain ⟨n, hn⟩ := Int.eq_ofNat_of_zero_le (show 0 ≤ D.s.2.1 by have := hs.b0; omega)
 have hn1 : n ≤ 64 := by have := hs.b1; omega
 have hcl : cleanD D a = (hasB D.s a 0 && (List.range n).all fun i => !usedB D a (i : Int)) := by unfold cleanD; rw [hn]; rfl
 rw [hcl]
 rw [hn] at hshape
 have HTH := Lib.hid hth
 have HSHP := Lib.hid hshape
 have HUS := Lib.hid hus
 clear hth hshape hus hs hD hcl hn
 cases hb : hasB D.s a 0 with
 | false =>
  have HTE := Lib.hid (show hasE D.s a 0 = 6 by unfold hasE; rw [hb]; rfl)
  clear hb
  go_enter Tryz.func67, Tryz.ntmps67
  go_wp2_with (go_at_call 88; (with_reducible refine HTH.out.mono ?_); rw [HTE.out]; rintro e w1 ⟨rfl, hb⟩; have HB1 := Aside0.mk hb; clear hb)
  go_ret
  exact ⟨rfl, HB1.out⟩
 | true =>
  have HTE := Lib.hid (show hasE D.s a 0 = 0 by unfold hasE; rw [hb]; rfl)
  clear hb
  go_enter Tryz.func67, Tryz.ntmps67
  have rs := fun (X : World) => run_shape2 X D.s.1 (n : Int) D.s.2.2
  go_wp2_with (first
   | (go_at_call 88; (with_reducible refine HTH.out.mono ?_); rw [HTE.out]; rintro e w1 ⟨rfl, hb⟩; have HB1 := Aside0.mk hb; clear hb)
   | (go_at_call 58; (with_reducible refine (HSHP.out _ HB1.out).mono ?_); rintro e w2 ⟨rfl, hb2⟩; have HB2 := Aside0.mk (HB1.out.trans (hb2.mono HB1.out.size)); clear hb2))
  go_loopw [5, 13] (fun v5 v13 wr => ∃ k : Nat, k ≤ n ∧ v13 = .int .i64 (k : Int) ∧ ((List.range k).all fun i => !usedB D a (i : Int)) = true ∧ Below w.heap.size w wr) (fun _ v13 _ => n - (intOf v13).toNat)
  case atStart => exact ⟨0, Nat.zero_le _, rfl, rfl, HB2.out⟩
  case round =>
   obtain ⟨k, hk, rfl, hal, hb⟩ := hrel
   have HBW := Aside0.mk hb
   have HAL := Lib.hid hal
   clear hb hal
   by_cases hlt : k < n
   ·have k0 : (0 : Int) ≤ (k : Int) := by omega
    have k2 : (k : Int) < (n : Int) := by omega
    cases hu : usedB D a (k : Int) with
    | true =>
     have HU := Lib.hid hu
     have HF := Lib.hid (show ((List.range n).all fun i => !usedB D a (i : Int)) = false by
      rw [List.all_eq_false]
      exact ⟨k, List.mem_range.2 hlt, by rw [hu]; decide⟩)
     clear hu
     go_wp2_with (go_at_call 63; (with_reducible refine (HUS.out _ HBW.out _).mono ?_); rw [HU.out]; rintro e w3 ⟨rfl, rfl⟩)
     go_ret
     rw [HF.out]
     exact ⟨rfl, HBW.out⟩
    | false =>
     have HU := Lib.hid hu
     clear hu
     go_wp2_with (go_at_call 63; (with_reducible refine (HUS.out _ HBW.out _).mono ?_); rw [HU.out]; rintro e w3 ⟨rfl, rfl⟩)
     exact ⟨⟨k + 1, by omega, by go_num, by rw [List.range_succ, List.all_append, HAL.out]; simp [HU.out], HBW.out⟩, by simp [intOf]; omega⟩
   ·obtain rfl : k = n := by omega
    go_wp2
    go_ret
    rw [HAL.out]
    exact ⟨rfl, HBW.out⟩
end
end Go.Proofs.YtmbiebdcnadhkaaGreat.Fl
namespace Go.Proofs.YtmbiebdcnadhkaaGreat.Fl
open Go.RowKit Go.Proofs.YtmbiebdcnadhkaaGreatW.PrintWords Go.Proofs.YtmbiebdcnadhkaaGreatW.PrintMore Go.Maps
section
variable {D : PD} {s : Int × Int × Int} {ps : List Pg}
end
end Go.Proofs.YtmbiebdcnadhkaaGreat.Fl
namespace Go.Proofs.YtmbiebdcnadhkaaGreat.Fl
open Go.RowKit Go.Proofs.YtmbiebdcnadhkaaGreatW.PrintWords Go.Proofs.YtmbiebdcnadhkaaGreatW.PrintMore Go.Maps
structure Snap (D E : PD) (v : Int → Int → Prop) : Prop where
 sh : E.s = D.s
 used : ∀ c d, usedB E c d = true ↔ (usedB D c d = true ∧ v c d)
 got : ∀ c d, usedB E c d = true → gotD E c d = gotD D c d
theorem used_has {D : PD} {c d : Int} (h : usedB D c d = true) : hasB D.s c d = true := by
 unfold usedB at h
 rw [Bool.and_eq_true] at h
 exact h.1
theorem got_len {D : PD} (hs : Sound D) {c d : Int} (h : hasB D.s c d = true) : (gotD D c d).length = D.s.2.2.toNat := by
 unfold gotD readD numB
 rw [if_pos h, full_length (look_len hs.lens _)]
theorem Snap.step {D E : PD} {v : Int → Int → Prop} (hs : Sound D) (h : Snap D E v) {a b : Int} (hu : usedB D a b = true) (hv : ¬ v a b) : Snap D (writeD E a b (gotD D a b)) (fun c d => v c d ∨ (c = a ∧ d = b)) := by
 have hh := used_has hu
 have hl := got_len hs hh
 have hle : ((gotD D a b).length : Int) ≤ E.s.2.2 := by rw [hl, h.sh]; have := hs.sh.c0; omega
 have hh2 : hasB E.s a b = true := by rw [h.sh]; exact hh
 have hu2 : usedB E a b = false := by
  cases he : usedB E a b with
  | false => rfl
  | true => exact absurd ((h.used a b).1 he).2 hv
 refine ⟨by rw [writeD_s]; exact h.sh, fun c d => ?_, fun c d hcd => ?_⟩
 ·rw [used_write hh2 hle hu2, Bool.or_eq_true, decide_eq_true_iff, h.used]
  constructor
  ·rintro (⟨rfl, rfl⟩ | ⟨h1, h2⟩)
   ·exact ⟨hu, .inr ⟨rfl, rfl⟩⟩
   ·exact ⟨h1, .inl h2⟩
  ·rintro ⟨h1, h2 | h2⟩
   ·exact .inr ⟨h1, h2⟩
   ·exact .inl h2
 ·rw [got_write hh2 hle hu2]
  split
  ·rename_i he
   rw [he.1, he.2, h.sh]
   exact full_self hl
  ·rename_i he
   rw [used_write hh2 hle hu2, Bool.or_eq_true, decide_eq_true_iff] at hcd
   exact h.got c d (hcd.resolve_left he)
def TInv (w : World) (z : Nat) (D : PD) (n : Nat) (v : Int → Int → Prop) (wr : World) : Prop :=
 ∃ E ps okx, RefIs w.heap.size (z + 1) D.s ps okx wr ∧ Sim E D.s ps ∧ BytP ps ∧ Snap D E v ∧ ps.length ≤ n ∧ (∀ k, okx k → z < k) ∧ wr.heap[z]? = some (.cells #[.int .i64 D.s.1, .int .i64 D.s.2.1, .int .i64 D.s.2.2] 23 (0, 0)) ∧ Below w.heap.size w wr
theorem TInv.below {w : World} {z : Nat} {D : PD} {n : Nat} {v : Int → Int → Prop} {wr X : World} (h : TInv w z D n v wr) (hb : Below wr.heap.size wr X) : TInv w z D n v X := by
 obtain ⟨E, ps, okx, h1, h2, h3, h4, h5, h6, h7, h8⟩ := h
 exact ⟨E, ps, okx, h1.below hb, h2, h3, h4, h5, h6, (hb.block _ (blt h7)).trans h7, h8.trans (hb.mono h8.size)⟩
theorem TInv.cells {w : World} {z : Nat} {D : PD} {n : Nat} {v : Int → Int → Prop} {wr : World} (h : TInv w z D n v wr) : wr.cell? ⟨z, 0, none⟩ = some (.int .i64 D.s.1) ∧ wr.cell? ⟨z, 1, none⟩ = some (.int .i64 D.s.2.1) ∧ wr.cell? ⟨z, 2, none⟩ = some (.int .i64 D.s.2.2) := by
 obtain ⟨E, ps, okx, h1, h2, h3, h4, h5, h6, h7, h8⟩ := h
 exact ⟨bcell h7 0, bcell h7 1, bcell h7 2⟩
theorem TInv.put {w : World} {z : Nat} {D : PD} {n : Nat} {v : Int → Int → Prop} {wr : World} (hs : Sound D) (hby : BytD D) (hz : w.heap.size ≤ z) (h : TInv w z D n v wr) (hn : n < 1000000) {a b : Int} (hu : usedB D a b = true) (hv : ¬ v a b) {A : Option Addr} {c : Nat} (hC : kB.C wr A (gotD D a b).length (gotD D a b)) :
  Calls Tryz.prog 70 #[.pointer (some ⟨z + 1, 0, none⟩), .int .i64 a, .int .i64 b, .slice A (gotD D a b).length c] wr fun e w' => ∃ r, e = .returned (.int .i64 r) ∧ TInv w z D (n + 1) (fun c d => v c d ∨ (c = a ∧ d = b)) w' := by
 obtain ⟨E, ps, okx, h1, h2, h3, h4, h5, h6, h7, h8⟩ := h
 refine (RWrite_any h1 hs.sh (by omega) a b A c _ hC).mono fun e w' ⟨he, hX, hup⟩ => ⟨_, he, _, _, _, hX, h2.write a b _, h3.write a b (hby a b), h4.step hs hu hv, ?_, ?_, ?_, ?_⟩
 ·have := rwP_len D.s ps a b (gotD D a b); omega
 ·rintro k (hk | hk)
  ·exact h6 k hk
  ·have := blt h7; omega
 ·exact (hup.block z (blt h7) (fun hm => by have := h6 z hm.1; omega)).trans h7
 ·exact h8.trans (upd_below hup h8.size (fun k hk => by have := h6 k hk; omega))
section
variable {N0 p : Nat} {D : PD} {w : World} {ok : Nat → Prop}
end
end Go.Proofs.YtmbiebdcnadhkaaGreat.Fl
namespace Go.Proofs.YtmbiebdcnadhkaaGreat.Fl
open Go.RowKit Go.Proofs.YtmbiebdcnadhkaaGreatW.PrintWords Go.Proofs.YtmbiebdcnadhkaaGreatW.PrintMore Go.Maps
section
variable {N0 N1 x y : Nat} {s : Int × Int × Int} {ps qs : List Pg} {w : World} {okX okY : Nat → Prop}
end
end Go.Proofs.YtmbiebdcnadhkaaGreat.Fl
namespace Go.Proofs.YtmbiebdcnadhkaaGreat.Fl
theorem Holds.move {D E : PD} (hs : E.s = D.s) {a q kd sq : Int} {l : List Int} (h : Holds D a q kd sq l) (hg : ∀ d, q ≤ d → d < q + (kpg D.s l.length : Int) → gotD E a d = gotD D a d) : Holds E a q kd sq l := by
 refine ⟨h.ok, by rw [hs]; exact h.has, by rw [hs]; exact h.room, fun i hi => ?_⟩
 rw [hs] at hi ⊢
 rw [hg _ (by omega) (by omega)]
 exact h.got i hi
theorem Chain.le {D : PD} {c sq : Int} : ∀ {rs : List (Int × List Int)} {q e : Int}, Chain D c sq q rs e → q ≤ e
 | [], _, _, h => Int.le_of_eq h
 | r :: rs, q, e, h => by have := Chain.le h.2.2; omega
theorem Chain.move {D E : PD} (hs : E.s = D.s) {a sq : Int} : ∀ {rs : List (Int × List Int)} {q e : Int}, Chain D a sq q rs e → (∀ d, q ≤ d → d < e → gotD E a d = gotD D a d) → Chain E a sq q rs e
 | [], _, _, h, _ => h
 | r :: rs, q, e, ⟨h1, h2, h3⟩, hg => by
  have hle := Chain.le h3
  refine ⟨h1.move hs (fun d h4 h5 => hg d h4 (by omega)), h2, ?_⟩
  rw [hs]
  exact Chain.move hs h3 (fun d h4 h5 => hg d (by omega) h5)
section
variable {D : PD} {P : PlanT}
end
end Go.Proofs.YtmbiebdcnadhkaaGreat.Fl
namespace Go.Proofs.YtmbiebdcnadhkaaGreat.Fl
open Go.RowKit Go.Proofs.YtmbiebdcnadhkaaGreatW.PrintWords Go.Proofs.YtmbiebdcnadhkaaGreatW.PrintMore Go.Maps
abbrev RecV := RecT × Option Addr × Nat
section
variable {N0 p : Nat} {K : Nat → Prop} {D : PD} {w w1 : World} {v v1 : Value} {want : List RecV}
end
end Go.Proofs.YtmbiebdcnadhkaaGreat.Fl
namespace Go.Proofs.YtmbiebdcnadhkaaGreat.Fl
open Go.RowKit Go.Proofs.YtmbiebdcnadhkaaGreatW.PrintWords Go.Proofs.YtmbiebdcnadhkaaGreatW.PrintMore Go.Maps
theorem kpg_zero {s : Int × Int × Int} (hs : ShapeOk s) : kpg s 0 = 1 := by
 obtain ⟨c, hc⟩ := Int.eq_ofNat_of_zero_le (show 0 ≤ s.2.2 by have := hs.c0; omega)
 have h0 := hs.c0
 unfold kpg
 rw [hc] at h0 ⊢
 simp only [Int.toNat_natCast]
 rw [show 0 + 16 + c - 1 = c + 15 by omega, Nat.add_div_left _ (by omega), Nat.div_eq_of_lt (by omega)]
end Go.Proofs.YtmbiebdcnadhkaaGreat.Fl
namespace Go.Proofs.YtmbiebdcnadhkaaGreat.Fl
open Go.RowKit Go.Proofs.YtmbiebdcnadhkaaGreatW.PrintWords Go.Proofs.YtmbiebdcnadhkaaGreatW.PrintMore Go.Maps
structure LG where
 st : List Int
 op : Int
 pg : Int
 nx : Int
abbrev TL : TypeId := 96
def logC (p : Nat) (g : LG) : List Value := .pointer (some ⟨p, 0, none⟩) :: (g.st.map (fun x => Value.int .i64 x) ++ [.int .i64 g.op, .int .i64 g.pg, .int .u64 g.nx])
structure LogIs (q p : Nat) (g : LG) (w : World) : Prop where
 len : g.st.length = 16
 blk : w.heap[q]? = some (.cells (logC p g).toArray TL (0, 0))
section
variable {q p : Nat} {g : LG} {w w' : World}
theorem LogIs.below (h : LogIs q p g w) (hb : Below w.heap.size w w') : LogIs q p g w' := ⟨h.len, (hb.block _ (blt h.blk)).trans h.blk⟩
theorem LogIs.c0 (h : LogIs q p g w) : w.cell? ⟨q, 0, none⟩ = some (.pointer (some ⟨p, 0, none⟩)) := by rw [bcell h.blk]; rfl
theorem LogIs.cst (h : LogIs q p g w) {i : Nat} {x : Int} (hx : g.st[i]? = some x) : w.cell? ⟨q, 1 + i, none⟩ = some (.int .i64 x) := by
 rw [Nat.add_comm 1 i]
 have hl := (List.getElem?_eq_some_iff.1 hx).1
 rw [bcell h.blk]
 simp only [logC, List.getElem?_toArray, List.getElem?_cons_succ]
 rw [List.getElem?_append_left (by simpa using hl), List.getElem?_map, hx]
 rfl
theorem LogIs.c17 (h : LogIs q p g w) : w.cell? ⟨q, 17, none⟩ = some (.int .i64 g.op) := by
 rw [bcell h.blk]
 simp only [logC, List.getElem?_toArray, List.getElem?_cons_succ]
 rw [List.getElem?_append_right (by simp [h.len])]
 simp [h.len]
theorem LogIs.c18 (h : LogIs q p g w) : w.cell? ⟨q, 18, none⟩ = some (.int .i64 g.pg) := by
 rw [bcell h.blk]
 simp only [logC, List.getElem?_toArray, List.getElem?_cons_succ]
 rw [List.getElem?_append_right (by simp [h.len])]
 simp [h.len]
theorem LogIs.c19 (h : LogIs q p g w) : w.cell? ⟨q, 19, none⟩ = some (.int .u64 g.nx) := by
 rw [bcell h.blk]
 simp only [logC, List.getElem?_toArray, List.getElem?_cons_succ]
 rw [List.getElem?_append_right (by simp [h.len])]
 simp [h.len]
set_option maxHeartbeats 1000000 in
set_option maxRecDepth 100000 in
theorem Lok_any (h : LogIs q p g w) : Calls Tryz.prog 46 #[.pointer (some ⟨q, 0, none⟩)] w fun e w' => e = .returned (.bool true) ∧ w = w' := by
 have k0 := h.c0
 clear h
 go_enter Tryz.func46, Tryz.ntmps46
 go_wp2
 go_ret
 exact ⟨rfl, rfl⟩
set_option maxHeartbeats 1000000 in
set_option maxRecDepth 100000 in
theorem LDevice_any (h : LogIs q p g w) : Calls Tryz.prog 18 #[.pointer (some ⟨q, 0, none⟩)] w fun e w' => e = .returned (.pointer (some ⟨p, 0, none⟩)) ∧ w = w' := by
 have k0 := h.c0
 have HO := Lib.hid (Lok_any h)
 clear h
 go_enter Tryz.func18, Tryz.ntmps18
 go_wp2_with (go_at_call 46; (with_reducible refine HO.out.mono ?_); rintro e w1 ⟨rfl, rfl⟩)
 go_ret
 exact ⟨rfl, rfl⟩
set_option maxHeartbeats 1000000 in
set_option maxRecDepth 100000 in
theorem LNext_any (h : LogIs q p g w) : Calls Tryz.prog 16 #[.pointer (some ⟨q, 0, none⟩)] w fun e w' => e = .returned (.int .u64 g.nx) ∧ w = w' := by
 have k0 := h.c19
 have HO := Lib.hid (Lok_any h)
 clear h
 go_enter Tryz.func16, Tryz.ntmps16
 go_wp2_with (go_at_call 46; (with_reducible refine HO.out.mono ?_); rintro e w1 ⟨rfl, rfl⟩)
 go_ret
 exact ⟨rfl, rfl⟩
end
end Go.Proofs.YtmbiebdcnadhkaaGreat.Fl
namespace Go.Proofs.YtmbiebdcnadhkaaGreat.Fl
open Go.RowKit Go.Proofs.YtmbiebdcnadhkaaGreatW.PrintWords Go.Proofs.YtmbiebdcnadhkaaGreatW.PrintMore Go.Maps
theorem tk1 {α : Type} {l : List α} {i : Nat} {x : α} : l.toArray.setIfInBounds i x = (l.set i x).toArray := by simp
theorem tk2 {α : Type} {l : List α} {a x : α} : (a :: l).set 0 x = x :: l := rfl
theorem tk3 {α : Type} {l : List α} {a x : α} {i : Nat} : (a :: l).set (i + 1) x = a :: l.set i x := rfl
section
variable {P : Program} {ops : Array Oper} {Q : Exit → Act → World → Prop} {md : Region.Mode} {S : World → Prop} {oi : Oper} {v : Value} {fuel : Nat} {listed : Array Bool} {a : Act} {w : World}
theorem tkY (i : Nat) (h : wpAnyH P md ops Q S fuel (listed.setIfInBounds i true) (a.put oi.dst v) w)
  (hi : ops[i]? = some oi := by (simp only [List.getElem?_toArray, List.getElem?_cons_succ, List.getElem?_cons_zero]; rfl))
  (hs : Region.noSelect ops = true := by kernel_rfl) (hf : Region.free md ops listed i = true := by kernel_rfl) (hr : (Region.ready md ops listed).contains i = true := by kernel_rfl)
  (hw : Region.wanted oi (yielded ops a.tmps) = true := by rfl)
  (hy : ∀ w, S w → (execOp a.eval oi).run P w = .ok (.value v) w := by (intro w hSw; (try dsimp only at hSw); go_simp; (try (with_reducible rfl))))
  (hQ : ∀ c a w, Q (.panic c) (a.put oi.dst v) w → Q (.panic c) a w := by exact fun _ _ _ h => h) (hS : S w := by assumption) : wpAnyH P md ops Q S (fuel + 1) listed a w :=
 wpAnyH_take hi hs hf hr hQ (Or.inl ⟨hw, hy⟩) hS h
theorem tkN (i : Nat) (h : wpAnyH P md ops Q S fuel (listed.setIfInBounds i true) (a.put oi.dst undef) w)
  (hi : ops[i]? = some oi := by (simp only [List.getElem?_toArray, List.getElem?_cons_succ, List.getElem?_cons_zero]; rfl))
  (hs : Region.noSelect ops = true := by kernel_rfl) (hf : Region.free md ops listed i = true := by kernel_rfl) (hr : (Region.ready md ops listed).contains i = true := by kernel_rfl)
  (hw : Region.wanted oi (yielded ops a.tmps) = false := by rfl)
  (hQ : ∀ c a w, Q (.panic c) (a.put oi.dst undef) w → Q (.panic c) a w := by exact fun _ _ _ h => h) (hS : S w := by assumption) : wpAnyH P md ops Q S (fuel + 1) listed a w :=
 wpAnyH_take hi hs hf hr hQ (Or.inr ⟨hw, rfl⟩) hS h
end
end Go.Proofs.YtmbiebdcnadhkaaGreat.Fl
namespace Go.Proofs.YtmbiebdcnadhkaaGreat.Fl
open Go.RowKit Go.Proofs.YtmbiebdcnadhkaaGreatW.PrintWords Go.Proofs.YtmbiebdcnadhkaaGreatW.PrintMore Go.Maps
def openV (g : LG) : Int × Int := if g.op < 0 then (-1, 0) else (g.op, g.pg)
section
variable {q p N0 : Nat} {g : LG} {w w' : World} {D : PD} {ok : Nat → Prop}
set_option maxHeartbeats 1000000 in
set_option maxRecDepth 100000 in
theorem LOpen_any (h : LogIs q p g w) : Calls Tryz.prog 10 #[.pointer (some ⟨q, 0, none⟩)] w fun e w' => e = .returned (.tuple #[.int .i64 (openV g).1, .int .i64 (openV g).2]) ∧ Below w.heap.size w w' := by
 have k0 := h.c17
 have k1 := h.c18
 have HO := Lib.hid (Lok_any h)
 clear h
 by_cases h0 : g.op < 0
 ·have hv : openV g = (-1, 0) := if_pos h0
  have e1 : decide (g.op < 0) = true := decide_eq_true h0
  rw [hv]
  clear hv
  go_enter Tryz.func10, Tryz.ntmps10
  go_wp2_with (go_at_call 46; (with_reducible refine HO.out.mono ?_); rintro e w1 ⟨rfl, rfl⟩)
  go_ret2
  exact ⟨rfl, Below.refl _ _⟩
 ·have hv : openV g = (g.op, g.pg) := if_neg h0
  have e1 : decide (g.op < 0) = false := decide_eq_false h0
  rw [hv]
  clear hv
  go_enter Tryz.func10, Tryz.ntmps10
  go_wp2_with (go_at_call 46; (with_reducible refine HO.out.mono ?_); rintro e w1 ⟨rfl, rfl⟩)
  go_region_held3 (fun w' => w'.cell? ⟨q, 17, none⟩ = some (.int .i64 g.op) ∧ w'.cell? ⟨q, 18, none⟩ = some (.int .i64 g.pg)) (go_keep) (fail)
  go_wp2
  go_ret2
  exact ⟨rfl, below_drew (Below.refl _ _)⟩
set_option maxHeartbeats 1000000 in
set_option maxRecDepth 100000 in
theorem Lhas_any (h : LogIs q p g w) (hD : DevIs N0 p D ok w) (a : Int) : Calls Tryz.prog 49 #[.pointer (some ⟨q, 0, none⟩), .int .i64 a] w fun e w' => e = .returned (.bool (fitsB a 0 (D.s.1 - 1))) ∧ Below w.heap.size w w' := by
 have hs : ShapeOk D.s := by
  obtain ⟨m, v, es, ck, hD⟩ := hD
  exact hD.shape
 have k0 := h.c0
 have HO := Lib.hid (Lok_any h)
 have HS := Lib.hid (Shape_any hD)
 have rs := fun (X : World) => run_shape1 X D.s.1 D.s.2.1 D.s.2.2
 have a0 := hs.a0
 have a1 := hs.a1
 have hw : IntKind.i64.wrap (D.s.1 - 1) = D.s.1 - 1 := IntWalk.i64_in _ (by omega)
 clear h hs hD
 go_enter Tryz.func49, Tryz.ntmps49
 go_wp2_with (first
  | (go_at_call 46; (with_reducible refine HO.out.mono ?_); rintro e w1 ⟨rfl, rfl⟩)
  | (go_at_call 58; (with_reducible refine HS.out.mono ?_); rintro e w2 ⟨rfl, hb⟩; have HB := Aside0.mk hb; clear hb)
  | (go_at_call 91; (with_reducible refine (Fits_any _ _ _ _).mono ?_); rintro e w3 ⟨rfl, rfl⟩))
 go_ret
 exact ⟨rfl, HB.out⟩
def stateV (s : Int × Int × Int) (g : LG) (a : Int) : Int := if fitsB a 0 (s.1 - 1) = true then g.st.getD a.toNat 0 else 2
set_option maxHeartbeats 1000000 in
set_option maxRecDepth 100000 in
theorem LState_any (h : LogIs q p g w) (hD : DevIs N0 p D ok w) (a : Int) : Calls Tryz.prog 14 #[.pointer (some ⟨q, 0, none⟩), .int .i64 a] w fun e w' => e = .returned (.int .i64 (stateV D.s g a)) ∧ Below w.heap.size w w' := by
 have hs : ShapeOk D.s := by
  obtain ⟨m, v, es, ck, hD⟩ := hD
  exact hD.shape
 have hh := Lhas_any h hD a
 have a1 := hs.a1
 unfold stateV
 cases hf : fitsB a 0 (D.s.1 - 1) with
 | false =>
  rw [hf] at hh
  have HH := Lib.hid hh
  clear h hs hD hh hf
  rw [if_neg (by decide)]
  go_enter Tryz.func14, Tryz.ntmps14
  go_wp2_with (go_at_call 49; (with_reducible refine HH.out.mono ?_); rintro e w1 ⟨rfl, hb⟩; have HB := Aside0.mk hb; clear hb)
  go_ret
  exact ⟨rfl, HB.out⟩
 | true =>
  have hfa := hf
  unfold fitsB at hfa
  rw [decide_eq_true_iff] at hfa
  obtain ⟨n, rfl⟩ := Int.eq_ofNat_of_zero_le hfa.1
  have hlen := h.len
  obtain ⟨x, hx⟩ : ∃ x, g.st[n]? = some x := ⟨_, List.getElem?_eq_getElem (by omega)⟩
  have hxv : g.st.getD (n : Int).toNat 0 = x := by rw [Int.toNat_natCast, List.getD_eq_getElem?_getD, hx]; rfl
  have hc := fun (X : World) (hb : Below w.heap.size w X) => (h.below hb).cst hx
  rw [hf] at hh
  have HH := Lib.hid hh
  have HC := Lib.hid hc
  have n0 : (0 : Int) ≤ (n : Int) := by omega
  have n1 : (n : Int) < 16 := by omega
  rw [if_pos rfl, hxv]
  clear h hs hD hh hf hc hx hxv hfa hlen
  go_enter Tryz.func14, Tryz.ntmps14
  go_wp2_with (go_at_call 49; (with_reducible refine HH.out.mono ?_); rintro e w1 ⟨rfl, hb⟩; have kc := HC.out _ hb; have HB := Aside0.mk hb; clear hb)
  go_ret
  exact ⟨rfl, HB.out⟩
end
end Go.Proofs.YtmbiebdcnadhkaaGreat.Fl
namespace Go.Proofs.YtmbiebdcnadhkaaGreat.Fl
open Go.RowKit Go.Proofs.YtmbiebdcnadhkaaGreatW.PrintWords Go.Proofs.YtmbiebdcnadhkaaGreatW.PrintMore Go.Maps
def cnt (a : Int) (l : List Int) : Nat := (l.filter (fun x => x == a)).length
theorem cnt_le (a : Int) (l : List Int) : cnt a l ≤ l.length := List.length_filter_le _ _
theorem cnt_take {a : Int} {l : List Int} {k : Nat} {x : Int} (h : l[k]? = some x) : cnt a (l.take (k + 1)) = cnt a (l.take k) + if x = a then 1 else 0 := by
 unfold cnt
 rw [List.take_add_one, h, Option.toList_some, List.filter_append, List.length_append]
 by_cases hx : x = a
 ·simp [hx]
 ·simp [hx]
section
variable {q p N0 : Nat} {g : LG} {w w' : World} {D : PD} {ok : Nat → Prop}
set_option maxHeartbeats 1000000 in
set_option maxRecDepth 100000 in
theorem LCount_any (h : LogIs q p g w) (hD : DevIs N0 p D ok w) (a : Int) : Calls Tryz.prog 15 #[.pointer (some ⟨q, 0, none⟩), .int .i64 a] w fun e w' => e = .returned (.int .i64 (cnt a (g.st.take D.s.1.toNat) : Int)) ∧ Below w.heap.size w w' := by
 have hs : ShapeOk D.s := by
  obtain ⟨m, v, es, ck, hD⟩ := hD
  exact hD.shape
 have a0 := hs.a0
 have a1 := hs.a1
 obtain ⟨n, hn⟩ := Int.eq_ofNat_of_zero_le (show 0 ≤ D.s.1 by omega)
 have hh := fun (X : World) (hb : Below w.heap.size w X) (y : Int) => Lhas_any (h.below hb) (hD.below hb) y
 have hc := fun (X : World) (hb : Below w.heap.size w X) (i : Nat) (x : Int) (hx : g.st[i]? = some x) => (h.below hb).cst hx
 have hlen := h.len
 rw [hn] at hh a0 a1 ⊢
 rw [Int.toNat_natCast]
 have HH := Lib.hid hh
 have HC := Lib.hid hc
 clear hh hc h hD hs hn
 go_enter Tryz.func15, Tryz.ntmps15
 go_wp2
 go_loopw [5, 6] (fun v5 v6 wr => ∃ k : Nat, k ≤ n ∧ v6 = .int .i64 (k : Int) ∧ v5 = .int .i64 (cnt a (g.st.take k) : Int) ∧ Below w.heap.size w wr) (fun _ v6 _ => n - (intOf v6).toNat)
 case atStart => exact ⟨0, Nat.zero_le _, rfl, rfl, Below.refl _ _⟩
 case round =>
  obtain ⟨k, hk, rfl, rfl, hb⟩ := hrel
  have HB := Aside0.mk hb
  clear hb
  have hcl := cnt_le a (g.st.take k)
  rw [List.length_take] at hcl
  by_cases hlt : k < n
  ·have hf : fitsB (k : Int) 0 ((n : Int) - 1) = true := by unfold fitsB; rw [decide_eq_true_iff]; omega
   have HF := Lib.hid hf
   obtain ⟨x, hx⟩ : ∃ x, g.st[k]? = some x := ⟨_, List.getElem?_eq_getElem (by omega)⟩
   have hct := cnt_take (a := a) hx
   have HX := Lib.hid hx
   have HCT := Lib.hid hct
   have k0 : (0 : Int) ≤ (k : Int) := by omega
   have k1 : (k : Int) < 16 := by omega
   obtain ⟨cv, hcv⟩ : ∃ cv, cv = cnt a (g.st.take k) := ⟨_, rfl⟩
   rw [← hcv] at hcl ⊢
   have HCV := Lib.hid hcv
   clear hf hx hct hcv
   by_cases hxa : x = a
   ·have e1 : (x == a) = true := by simpa using hxa
    have hxa2 := Lib.hid hxa
    clear hxa
    go_wp2_with (go_at_call 49; (with_reducible refine (HH.out _ HB.out _).mono ?_); rw [HF.out]; rintro e w1 ⟨rfl, hb⟩; have kc := HC.out _ (HB.out.trans (hb.mono HB.out.size)) k x HX.out; have HB1 := Aside0.mk (HB.out.trans (hb.mono HB.out.size)); clear hb)
    exact ⟨⟨k + 1, by omega, by go_num, by rw [HCT.out, if_pos hxa2.out, HCV.out]; push_cast; rfl, HB1.out⟩, by simp [intOf]; omega⟩
   ·have e1 : (x == a) = false := by simpa using hxa
    have hxa2 := Lib.hid hxa
    clear hxa
    go_wp2_with (go_at_call 49; (with_reducible refine (HH.out _ HB.out _).mono ?_); rw [HF.out]; rintro e w1 ⟨rfl, hb⟩; have kc := HC.out _ (HB.out.trans (hb.mono HB.out.size)) k x HX.out; have HB1 := Aside0.mk (HB.out.trans (hb.mono HB.out.size)); clear hb)
    exact ⟨⟨k + 1, by omega, by go_num, by rw [HCT.out, if_neg hxa2.out, HCV.out]; rfl, HB1.out⟩, by simp [intOf]; omega⟩
  ·obtain rfl : k = n := by omega
   have hf : fitsB (k : Int) 0 ((k : Int) - 1) = false := by unfold fitsB; rw [decide_eq_false_iff_not]; omega
   have HF := Lib.hid hf
   clear hf
   go_wp2_with (go_at_call 49; (with_reducible refine (HH.out _ HB.out _).mono ?_); rw [HF.out]; rintro e w1 ⟨rfl, hb⟩; have HB1 := Aside0.mk (HB.out.trans (hb.mono HB.out.size)); clear hb)
   go_ret
   exact ⟨rfl, HB1.out⟩
end
end Go.Proofs.YtmbiebdcnadhkaaGreat.Fl
namespace Go.Proofs.YtmbiebdcnadhkaaGreat.Fl
open Go.RowKit Go.Proofs.YtmbiebdcnadhkaaGreatW.PrintWords Go.Proofs.YtmbiebdcnadhkaaGreatW.PrintMore Go.Maps
section
variable {q p N0 : Nat} {g : LG} {w w' : World} {D : PD} {ok : Nat → Prop}
theorem LogIs.frozen (h : LogIs q p g w) (j : Nat) : w.frozen? ⟨q, j, none⟩ = false := bfrozen h.blk _
theorem setCell_blk {o : Array Value} {T : TypeId} (h : w.heap[q]? = some (.cells o T (0, 0))) (j : Nat) (v : Value) : (w.setCell ⟨q, j, none⟩ v).heap[q]? = some (.cells (o.setIfInBounds j v) T (0, 0)) := by
 simp [World.setCell, Array.getElem?_modify, h]
theorem LogIs.setSt (h : LogIs q p g w) {i : Nat} (hi : i < 16) (x : Int) : LogIs q p { g with st := g.st.set i x } (w.setCell ⟨q, 1 + i, none⟩ (.int .i64 x)) := by
 refine ⟨by simp [h.len], (setCell_blk h.blk _ _).trans ?_⟩
 congr 2
 simp only [List.setIfInBounds_toArray]
 congr 1
 rw [Nat.add_comm 1 i]
 simp only [logC, List.set_cons_succ]
 rw [List.set_append_left _ _ (by simp [h.len]; omega), ← List.map_set]
theorem LogIs.setOp (h : LogIs q p g w) (x : Int) : LogIs q p { g with op := x } (w.setCell ⟨q, 17, none⟩ (.int .i64 x)) := by
 refine ⟨h.len, (setCell_blk h.blk _ _).trans ?_⟩
 congr 2
 simp only [List.setIfInBounds_toArray]
 congr 1
 simp only [logC, List.set_cons_succ]
 rw [List.set_append_right _ _ (by simp [h.len])]
 simp [h.len]
theorem LogIs.setPg (h : LogIs q p g w) (x : Int) : LogIs q p { g with pg := x } (w.setCell ⟨q, 18, none⟩ (.int .i64 x)) := by
 refine ⟨h.len, (setCell_blk h.blk _ _).trans ?_⟩
 congr 2
 simp only [List.setIfInBounds_toArray]
 congr 1
 simp only [logC, List.set_cons_succ]
 rw [List.set_append_right _ _ (by simp [h.len])]
 simp [h.len]
theorem LogIs.setNx (h : LogIs q p g w) (x : Int) : LogIs q p { g with nx := x } (w.setCell ⟨q, 19, none⟩ (.int .u64 x)) := by
 refine ⟨h.len, (setCell_blk h.blk _ _).trans ?_⟩
 congr 2
 simp only [List.setIfInBounds_toArray]
 congr 1
 simp only [logC, List.set_cons_succ]
 rw [List.set_append_right _ _ (by simp [h.len])]
 simp [h.len]
def sealG (g : LG) : LG := if g.op < 0 then g else { st := g.st.set g.op.toNat 2, op := -1, pg := 0, nx := g.nx }
theorem seal_post {w3 : World} (h : LogIs q p g w') {n : Nat} (hn : n < 16) (hop : g.op = (n : Int)) (hu : Upd (fun k => k = q) w w') (he : w3 = ((w'.setCell ⟨q, 1 + n, none⟩ (.int .i64 2)).setCell ⟨q, 17, none⟩ (.int .i64 (-1))).setCell ⟨q, 18, none⟩ (.int .i64 0)) :
  LogIs q p (sealG g) w3 ∧ Upd (fun k => k = q) w w3 := by
 subst he
 have h3 := ((h.setSt hn 2).setOp (-1)).setPg 0
 have hs : sealG g = { st := g.st.set n 2, op := -1, pg := 0, nx := g.nx } := by
  unfold sealG
  rw [if_neg (by omega), hop, Int.toNat_natCast]
 rw [hs]
 refine ⟨h3, hu.trans (((Upd.setCell w' (p := ⟨q, 1 + n, none⟩) (S := fun k => k = q) rfl (.int .i64 2)).trans (Upd.setCell _ (p := ⟨q, 17, none⟩) (S := fun k => k = q) rfl (.int .i64 (-1))) (fun k hk _ => hk)).trans (Upd.setCell _ (p := ⟨q, 18, none⟩) (S := fun k => k = q) rfl (.int .i64 0)) (fun k hk _ => hk)) (fun k hk _ => hk)⟩
set_option maxHeartbeats 1000000 in
set_option maxRecDepth 100000 in
theorem LSeal_any (h : LogIs q p g w) (ho : g.op < 16) : Calls Tryz.prog 11 #[.pointer (some ⟨q, 0, none⟩)] w fun e w' => e = .returned (.tuple #[]) ∧ LogIs q p (sealG g) w' ∧ Upd (fun k => k = q) w w' := by
 have hop := LOpen_any h
 by_cases h0 : g.op < 0
 ·have hv : openV g = (-1, 0) := if_pos h0
  have hs : sealG g = g := if_pos h0
  rw [hv] at hop
  rw [hs]
  have HO := Lib.hid hop
  have HL := Aside0.mk h
  clear h hop hv hs
  go_enter Tryz.func11, Tryz.ntmps11
  go_wp2_with (go_at_call 10; (with_reducible refine HO.out.mono ?_); rintro e w1 ⟨rfl, hb⟩; have HB := Aside0.mk hb; clear hb)
  go_end0
  exact ⟨rfl, HL.out.below HB.out, Upd.ofBelow HB.out _⟩
 ·have hv : openV g = (g.op, g.pg) := if_neg h0
  obtain ⟨n, hn⟩ := Int.eq_ofNat_of_zero_le (show 0 ≤ g.op by omega)
  have hn16 : n < 16 := by omega
  rw [hv, hn] at hop
  simp only at hop
  have hlen := h.len
  obtain ⟨x, hx⟩ : ∃ x, g.st[n]? = some x := ⟨_, List.getElem?_eq_getElem (by omega)⟩
  have hc := fun (X : World) (hb : Below w.heap.size w X) => (show X.cell? ⟨q, 1 + n, none⟩ = some (.int .i64 x) ∧ X.cell? ⟨q, 17, none⟩ = some (.int .i64 g.op) ∧ X.cell? ⟨q, 18, none⟩ = some (.int .i64 g.pg) ∧ X.frozen? ⟨q, 1 + n, none⟩ = false ∧ X.frozen? ⟨q, 17, none⟩ = false ∧ X.frozen? ⟨q, 18, none⟩ = false from ⟨(h.below hb).cst hx, (h.below hb).c17, (h.below hb).c18, (h.below hb).frozen _, (h.below hb).frozen _, (h.below hb).frozen _⟩)
  have HO := Lib.hid hop
  have HL := Aside0.mk h
  have HC := Lib.hid hc
  have HOP := Lib.hid hn
  have n0 : (0 : Int) ≤ (n : Int) := by omega
  have n1 : (n : Int) < 16 := by omega
  have n2 : ¬ 1 + n = 17 := by omega
  have n3 : ¬ 1 + n = 18 := by omega
  have n4 : ¬ 17 = 1 + n := by omega
  have n5 : ¬ 18 = 1 + n := by omega
  clear h hop hv hn hlen hx hc h0 ho
  go_enter Tryz.func11, Tryz.ntmps11
  go_wp2_with (go_at_call 10; (with_reducible refine HO.out.mono ?_); rintro e w1 ⟨rfl, hb⟩; have HB := Aside0.mk hb; obtain ⟨t0, t1, t2, f0, f1, f2⟩ := HC.out _ hb; clear hb)
  go_end0
  exact ⟨rfl, seal_post (HL.out.below HB.out) (by omega) HOP.out (Upd.ofBelow HB.out _) rfl⟩
end
end Go.Proofs.YtmbiebdcnadhkaaGreat.Fl
namespace Go.Proofs.YtmbiebdcnadhkaaGreat.Fl
open Go.RowKit Go.Proofs.YtmbiebdcnadhkaaGreatW.PrintWords Go.Proofs.YtmbiebdcnadhkaaGreatW.PrintMore Go.Maps
def newG (nx : Int) : LG := ⟨List.replicate 16 0, -1, 0, nx⟩
section
variable {q p N0 : Nat} {g : LG} {w w' : World} {D : PD} {ok : Nat → Prop}
set_option maxHeartbeats 1000000 in
set_option maxRecDepth 100000 in
theorem fresh_any (hD : DevIs N0 p D ok w) (h4 : 4 ≤ D.s.1) (nx : Int) : Calls Tryz.prog 65 #[.pointer (some ⟨p, 0, none⟩), .int .u64 nx] w fun e w' => ∃ q, e = .returned (.tuple #[.pointer (some ⟨q, 0, none⟩), .int .i64 0]) ∧ w.heap.size ≤ q ∧ LogIs q p (newG nx) w' ∧ Below w.heap.size w w' := by
 have HS := Lib.hid (Shape_any hD)
 have rs := fun (X : World) => run_shape1 X D.s.1 D.s.2.1 D.s.2.2
 have e1 : (D.s.1 == 0) = false := by simp; omega
 have e2 : decide (D.s.1 < 4) = false := by simp; omega
 clear hD
 go_enter Tryz.func65, Tryz.ntmps65
 go_wp2_with (go_at_call 58; (with_reducible refine HS.out.mono ?_); rintro e w2 ⟨rfl, hb⟩; have HB := Aside0.mk hb; clear hb)
 go_ret2
 exact ⟨_, rfl, HB.out.size, ⟨by simp [newG], blk_new _ _⟩, below_alloc HB.out _⟩
end
end Go.Proofs.YtmbiebdcnadhkaaGreat.Fl
namespace Go.Proofs.YtmbiebdcnadhkaaGreat.Fl
open Go.RowKit Go.Proofs.YtmbiebdcnadhkaaGreatW.PrintWords Go.Proofs.YtmbiebdcnadhkaaGreatW.PrintMore Go.Maps
theorem delTo_nil (a : Int) : ∀ k, delTo a k [] = []
 | 0 => rfl
 | k + 1 => by unfold delTo; rw [delTo_nil a k]; rfl
theorem erased_nil (s : Int × Int × Int) (a : Int) : erasedD ⟨s, [], []⟩ a = ⟨s, [], []⟩ := by
 unfold erasedD
 split
 ·unfold eraseD
  simp [delTo_nil, keepF]
 ·rfl
section
variable {q p N0 : Nat} {K : Nat → Prop} {g : LG} {w w' : World} {s : Int × Int × Int}
set_option maxHeartbeats 1000000 in
set_option maxRecDepth 100000 in
theorem LNew_any (h : Solo N0 p K ⟨s, [], []⟩ w) (hs : ShapeOk s) (h4 : 4 ≤ s.1) : Calls Tryz.prog 44 #[.pointer (some ⟨p, 0, none⟩)] w fun e w' => ∃ q, e = .returned (.tuple #[.pointer (some ⟨q, 0, none⟩), .int .i64 0]) ∧ Solo N0 p (fun k => K k ∨ k = q) ⟨s, [], []⟩ w' ∧ LogIs q p (newG 1) w' ∧ Below N0 w w' ∧ Kept K w w' ∧ w.heap.size ≤ q := by
 obtain ⟨ok, hD⟩ := (solo_frame _ _).dev h
 have HF := Lib.hid (fresh_any hD h4 1)
 have HSOLO := Aside0.mk h
 have hsh := fun (X : World) (K' : Nat → Prop) (h' : Solo N0 p K' ⟨s, [], []⟩ X) => (show Calls Tryz.prog 58 #[.pointer (some ⟨p, 0, none⟩)] X fun e w' => e = .returned (.agg #[.int .i64 s.1, .int .i64 s.2.1, .int .i64 s.2.2]) ∧ Below X.heap.size X w' from by
  obtain ⟨ok, hD⟩ := (solo_frame _ _).dev h'
  exact Shape_any hD)
 have her := fun (X : World) (K' : Nat → Prop) (h' : Solo N0 p K' ⟨s, [], []⟩ X) (a : Int) => (solo_frame N0 p).upd h' (fun ok hD => Erase_any hD a (by simp))
 simp only [erased_nil] at her
 have HSH := Lib.hid hsh
 have HER := Lib.hid her
 have a0 := hs.a0
 have a1 := hs.a1
 have rs := fun (X : World) => run_shape1 X s.1 s.2.1 s.2.2
 clear hD hsh her h hs
 go_enter Tryz.func44, Tryz.ntmps44
 go_wp2_with (first
  | (go_at_call 65; (with_reducible refine HF.out.mono ?_); rintro e w1 ⟨q, rfl, hq, hl, hb⟩; have HL1 := Aside0.mk hl; have HB1 := Aside0.mk hb; have hlt := blt hl.blk; have HS1 := Aside0.mk ((solo_frame _ _).less ((solo_frame _ _).keep HSOLO.out hb) (K' := fun k => K k ∨ k = q) (fun k hk => hk.elim .inl (fun e => .inr ⟨by rw [e]; exact hq, by rw [e]; exact hlt⟩))); clear hl hb)
  | (go_at_call 58; (with_reducible refine (HSH.out _ _ HS1.out).mono ?_); rintro e w2 ⟨rfl, hb⟩; have HL2 := Aside0.mk (HL1.out.below hb); have HS2 := Aside0.mk ((solo_frame _ _).below HS1.out hb); have HB2 := Aside0.mk (HB1.out.trans (hb.mono HB1.out.size)); clear hb))
 have hN := (solo_frame _ _).size HSOLO.out
 go_loopw [18] (fun v18 wr => ∃ k : Nat, (k : Int) ≤ s.1 ∧ v18 = .int .i64 (k : Int) ∧ Solo N0 p (fun k => K k ∨ k = q) ⟨s, [], []⟩ wr ∧ LogIs q p (newG 1) wr ∧ Below N0 w wr ∧ Kept K w wr) (fun v18 _ => (s.1 - intOf v18).toNat)
 case atStart => exact ⟨0, by omega, rfl, HS2.out, HL2.out, ⟨HB2.out.os, HB2.out.tape, HB2.out.output, HB2.out.size, fun k hk => HB2.out.block k (by omega)⟩, fun k hk => HB2.out.block k ((solo_frame _ _).lt HSOLO.out k hk)⟩
 case round =>
  obtain ⟨k, hk, rfl, hS, hl, hb, hkp⟩ := hrel
  have HS := Aside0.mk hS
  have HL := Aside0.mk hl
  have HB := Aside0.mk hb
  have HKP := Lib.hid hkp
  clear hS hl hb hkp
  by_cases hlt2 : (k : Int) < s.1
  ·go_wp2_with (go_at_call 50; (with_reducible refine (HER.out _ _ HS.out _).mono ?_); rintro e w3 ⟨rfl, hS, hb, hkp⟩; have HS3 := Aside0.mk hS; have HB3 := Aside0.mk (HB.out.trans hb); have HL3 := Aside0.mk (show LogIs q p (newG 1) w3 from ⟨HL.out.len, (hkp q (.inr rfl)).trans HL.out.blk⟩); have HKP3 := Lib.hid (show Kept K w w3 from fun j hj => (hkp j (.inl hj)).trans (HKP.out j hj)); clear hS hb hkp)
   exact ⟨⟨k + 1, by omega, by go_num, HS3.out, HL3.out, HB3.out, HKP3.out⟩, by simp [intOf]; omega⟩
  ·go_wp2
   go_ret2
   exact ⟨_, rfl, HS.out, HL.out, HB.out, HKP.out, hq⟩
end
end Go.Proofs.YtmbiebdcnadhkaaGreat.Fl
namespace Go.Proofs.YtmbiebdcnadhkaaGreat.Fl
open Go.RowKit Go.Proofs.YtmbiebdcnadhkaaGreatW.PrintWords Go.Proofs.YtmbiebdcnadhkaaGreatW.PrintMore Go.Maps
def FirstAt (l : List Int) (a r : Int) : Prop := (r = -1 ∧ ∀ i, i < l.length → l[i]? ≠ some a) ∨ ∃ n : Nat, r = (n : Int) ∧ n < l.length ∧ l[n]? = some a ∧ ∀ i, i < n → l[i]? ≠ some a
def IndexPost (l : List Int) (a : Int) (w : World) (e : Ending) (w' : World) : Prop := ∃ r, e = .returned (.int .i64 r) ∧ FirstAt l a r ∧ w = w'
section
variable {q p N0 : Nat} {g : LG} {w w' : World}
set_option maxHeartbeats 1000000 in
set_option maxRecDepth 100000 in
theorem LIndex_any (h : LogIs q p g w) (a : Int) : Calls Tryz.prog 99 #[.slice (some ⟨q, 1, none⟩) 16 16, .int .i64 a] w (IndexPost g.st a w) := by
 have hlen := h.len
 have hc := fun (i : Nat) (x : Int) (hx : g.st[i]? = some x) => h.cst hx
 have HC := Lib.hid hc
 clear hc h
 go_enter Tryz.func99, Tryz.ntmps99
 go_wp2
 go_loopw [5, 8] (fun v5 v8 wr => ∃ k : Nat, k ≤ 16 ∧ v8 = .int .i64 (k : Int) ∧ (∀ i, i < k → g.st[i]? ≠ some a) ∧ w = wr) (fun _ v8 _ => 16 - (intOf v8).toNat)
 case atStart => exact ⟨0, Nat.zero_le _, rfl, fun i hi => by omega, rfl⟩
 case round =>
  obtain ⟨k, hk, rfl, hn, rfl⟩ := hrel
  have HN := Lib.hid hn
  clear hn
  by_cases hlt : k < 16
  ·obtain ⟨x, hx⟩ : ∃ x, g.st[k]? = some x := ⟨_, List.getElem?_eq_getElem (by omega)⟩
   have kc := HC.out k x hx
   have HX := Lib.hid hx
   have k0 : (0 : Int) ≤ (k : Int) := by omega
   have k1 : (k : Int) < 16 := by omega
   clear hx
   by_cases hxa : a = x
   ·have e1 : (a == x) = true := by simpa using hxa
    have HXA := Lib.hid hxa
    clear hxa
    go_wp2
    go_ret
    exact ⟨_, rfl, .inr ⟨k, rfl, by omega, by rw [HX.out, HXA.out], HN.out⟩, rfl⟩
   ·have e1 : (a == x) = false := by simpa using hxa
    have HXA := Lib.hid hxa
    clear hxa
    go_wp2
    refine ⟨⟨k + 1, by omega, by go_num, ?_⟩, by simp [intOf]; omega⟩
    refine (show (∀ i, i < k + 1 → g.st[i]? ≠ some a) ∧ True from ⟨fun i hi => ?_, trivial⟩)
    by_cases hik : i = k
    ·rw [hik, HX.out]
     exact fun he => HXA.out (Option.some.inj he).symm
    ·exact HN.out i (by omega)
  ·obtain rfl : k = 16 := by omega
   go_wp2
   go_ret
   exact ⟨_, rfl, .inl ⟨rfl, fun i hi => HN.out i (by omega)⟩, rfl⟩
end
end Go.Proofs.YtmbiebdcnadhkaaGreat.Fl
namespace Go.Proofs.YtmbiebdcnadhkaaGreat.Fl
open Go.RowKit Go.Proofs.YtmbiebdcnadhkaaGreatW.PrintWords Go.Proofs.YtmbiebdcnadhkaaGreatW.PrintMore Go.Maps
def Stores (F : (Nat → Prop) → World → Prop) : Prop := ∀ (K : Nat → Prop) (w : World) (q : Nat) (o : Array Value) (T : TypeId) (j : Nat) (v : Value), F K w → K q → w.heap[q]? = some (.cells o T (0, 0)) → T ≠ TB → F K (w.setCell ⟨q, j, none⟩ v)
theorem not_byte {w : World} {q : Nat} {o : Array Value} {T : TypeId} (hb : w.heap[q]? = some (.cells o T (0, 0))) (hT : T ≠ TB) {cs : Array Value} {fr : Nat × Nat} : w.heap[q]? ≠ some (.cells cs TB fr) := fun h => by
 rw [hb] at h
 injection h with h
 injection h with _ h _
 exact hT h
theorem two_stores (N0 p x : Nat) (D : PD) (s : Int × Int × Int) (ps : List Pg) : Stores (fun K w => Two K N0 p x D s ps w) := fun K w q o T j v h hq hb hT => by
 obtain ⟨okD, okX, hD, hX, hd, h1, h2, h0, hK⟩ := h
 have hno : ¬ okD q ∧ ¬ okX q := (hK q hq).2.elim id (fun ⟨cs, fr, e⟩ => absurd e (not_byte hb hT))
 refine ⟨okD, okX, hD.step (fun k hk _ => Below.heap_setCell w ⟨q, j, none⟩ v k (fun e => hno.1 (by have e2 : k = q := e; rw [← e2]; exact hk))), hX.step (fun k hk _ => Below.heap_setCell w ⟨q, j, none⟩ v k (fun e => hno.2 (by have e2 : k = q := e; rw [← e2]; exact hk))), hd, h1, h2, by simpa [World.setCell] using h0, fun k hk => ⟨by simpa [World.setCell] using (hK k hk).1, (hK k hk).2.imp id (fun ⟨cs, fr, e⟩ => ⟨cs, fr, (Below.heap_setCell w ⟨q, j, none⟩ v k (fun e2 => by rw [e2] at e; exact not_byte hb hT e)).trans e⟩)⟩⟩
end Go.Proofs.YtmbiebdcnadhkaaGreat.Fl
namespace Go.Proofs.YtmbiebdcnadhkaaGreat.Fl
open Go.RowKit Go.Proofs.YtmbiebdcnadhkaaGreatW.PrintWords Go.Proofs.YtmbiebdcnadhkaaGreatW.PrintMore Go.Maps
def lEraseE (s : Int × Int × Int) (g : LG) (a : Int) : Int := if fitsB a 0 (s.1 - 1) = false then 6 else if g.st.getD a.toNat 0 = 1 then 1 else 0
def lEraseG (s : Int × Int × Int) (g : LG) (a : Int) : LG := if lEraseE s g a = 0 then { g with st := g.st.set a.toNat 0 } else g
def lEraseD (D : PD) (g : LG) (a : Int) : PD := if lEraseE D.s g a = 0 then erasedD D a else D
section
variable {N0 p q : Nat} {F : (Nat → Prop) → PD → World → Prop} {K : Nat → Prop} {D : PD} {g : LG} {w : World}
theorem below_self {B : Nat} {w w' : World} (h : Below w.heap.size w w') (hB : B ≤ w.heap.size) : Below B w w' := ⟨h.os, h.tape, h.output, h.size, fun k hk => h.block k (by omega)⟩
theorem kept_below {w w' : World} {K : Nat → Prop} (h : Below w.heap.size w w') (hlt : ∀ k, K k → k < w.heap.size) : Kept K w w' := fun k hk => h.block k (hlt k hk)
set_option maxHeartbeats 1000000 in
set_option maxRecDepth 100000 in
theorem LSync_F (hF : DevFrame N0 p F) (h : F K D w) (hl : LogIs q p g w) (hq : K q) : Calls Tryz.prog 12 #[.pointer (some ⟨q, 0, none⟩)] w fun e w' => e = .returned (.tuple #[]) ∧ F K { D with dirty := [] } w' ∧ LogIs q p g w' ∧ Below N0 w w' ∧ Kept K w w' := by
 have HDV := Lib.hid (LDevice_any hl)
 have hsy := hF.upd h (fun ok hD => (Sync_any hD).mono fun e w' ⟨h1, h2, h3⟩ => ⟨h1, h2.mono (fun k hk => Or.inl hk), h3⟩)
 have HSY := Lib.hid hsy
 have HL := Aside0.mk hl
 clear h hl hsy
 go_enter Tryz.func12, Tryz.ntmps12
 go_wp2_with (first
  | (go_at_call 18; (with_reducible refine HDV.out.mono ?_); rintro e w1 ⟨rfl, rfl⟩)
  | (go_at_call 48; (with_reducible refine HSY.out.mono ?_); rintro e w2 ⟨rfl, hf, hb, hk⟩; have HF := Aside0.mk hf; have HB := Aside0.mk hb; have HK := Lib.hid hk; clear hf hb hk))
 go_end0
 exact ⟨rfl, HF.out, ⟨HL.out.len, (HK.out q hq).trans HL.out.blk⟩, HB.out, HK.out⟩
set_option maxHeartbeats 1000000 in
set_option maxRecDepth 100000 in
theorem LErase_F (hF : DevFrame N0 p F) (hSt : ∀ D, Stores (fun K w => F K D w)) (h : F K D w) (hl : LogIs q p g w) (hq : K q) (hN : N0 ≤ q) (hdl : D.dirty.length < 1000000) (a : Int) : Calls Tryz.prog 13 #[.pointer (some ⟨q, 0, none⟩), .int .i64 a] w fun e w' => e = .returned (.int .i64 (lEraseE D.s g a)) ∧ F K (lEraseD D g a) w' ∧ LogIs q p (lEraseG D.s g a) w' ∧ Below N0 w w' ∧ Kept (fun k => K k ∧ k ≠ q) w w' := by
 obtain ⟨ok, hD⟩ := hF.dev h
 have hs := hD.sound.sh
 have a1 := hs.a1
 have hok := Lok_any hl
 have hhas := Lhas_any hl hD a
 have hsz := hF.size h
 have hlt := fun k hk => hF.lt h k hk
 have HOK := Lib.hid hok
 have HL := Aside0.mk hl
 have HFR := Aside0.mk h
 cases hf : fitsB a 0 (D.s.1 - 1) with
 | false =>
  rw [hf] at hhas
  have he : lEraseE D.s g a = 6 := by unfold lEraseE; rw [if_pos hf]
  have h1 : lEraseD D g a = D := by unfold lEraseD; rw [he]; rfl
  have h2 : lEraseG D.s g a = g := by unfold lEraseG; rw [he]; rfl
  rw [he, h1, h2]
  have HH := Lib.hid hhas
  have HLT := Lib.hid hlt
  clear h hl hD hs hok hhas hlt hf he h1 h2
  go_enter Tryz.func13, Tryz.ntmps13
  go_wp2_with (first
   | (go_at_call 46; (with_reducible refine HOK.out.mono ?_); rintro e w1 ⟨rfl, rfl⟩)
   | (go_at_call 49; (with_reducible refine HH.out.mono ?_); rintro e w2 ⟨rfl, hb⟩; have HB := Aside0.mk hb; clear hb))
  go_ret
  exact ⟨rfl, hF.below HFR.out HB.out, HL.out.below HB.out, below_self HB.out hsz, fun k hk => kept_below HB.out HLT.out k hk.1⟩
 | true =>
  rw [hf] at hhas
  have hfa := hf
  unfold fitsB at hfa
  rw [decide_eq_true_iff] at hfa
  obtain ⟨n, rfl⟩ := Int.eq_ofNat_of_zero_le hfa.1
  have hlen := hl.len
  obtain ⟨x, hx⟩ : ∃ x, g.st[n]? = some x := ⟨_, List.getElem?_eq_getElem (by omega)⟩
  have hxv : g.st.getD (n : Int).toNat 0 = x := by rw [Int.toNat_natCast, List.getD_eq_getElem?_getD, hx]; rfl
  have hc := fun (X : World) (hb : Below w.heap.size w X) => And.intro ((hl.below hb).cst hx) (hl.below hb).c0
  have hev : lEraseE D.s g (n : Int) = if x = 1 then 1 else 0 := by unfold lEraseE; rw [if_neg (by rw [hf]; decide), hxv]
  have HH := Lib.hid hhas
  have HC := Lib.hid hc
  have HLT := Lib.hid hlt
  have n0 : (0 : Int) ≤ (n : Int) := by omega
  have n1 : (n : Int) < 16 := by omega
  have hn16 : n < 16 := by omega
  by_cases hx1 : x = 1
  ·have he : lEraseE D.s g (n : Int) = 1 := by rw [hev, if_pos hx1]
   have h1 : lEraseD D g (n : Int) = D := by unfold lEraseD; rw [he]; rfl
   have h2 : lEraseG D.s g (n : Int) = g := by unfold lEraseG; rw [he]; rfl
   have e1 : (x == 1) = true := by simpa using hx1
   rw [he, h1, h2]
   clear h hl hD hs hok hhas hlt hf he h1 h2 hev hx hxv hc hfa hlen hx1
   go_enter Tryz.func13, Tryz.ntmps13
   go_wp2_with (first
    | (go_at_call 46; (with_reducible refine HOK.out.mono ?_); rintro e w1 ⟨rfl, rfl⟩)
    | (go_at_call 49; (with_reducible refine HH.out.mono ?_); rintro e w2 ⟨rfl, hb⟩; obtain ⟨kc, k0⟩ := HC.out _ hb; have HB := Aside0.mk hb; clear hb))
   go_ret
   exact ⟨rfl, hF.below HFR.out HB.out, HL.out.below HB.out, below_self HB.out hsz, fun k hk => kept_below HB.out HLT.out k hk.1⟩
  ·have he : lEraseE D.s g (n : Int) = 0 := by rw [hev, if_neg hx1]
   have h1 : lEraseD D g (n : Int) = erasedD D (n : Int) := by unfold lEraseD; rw [he]; rfl
   have h2 : lEraseG D.s g (n : Int) = { g with st := g.st.set n 0 } := by unfold lEraseG; rw [he]; rfl
   have e1 : (x == 1) = false := by simpa using hx1
   rw [he, h1, h2]
   have her := fun (X : World) (hX : F K D X) => hF.upd hX (fun ok hD => Erase_any hD (n : Int) hdl)
   have HER := Lib.hid her
   have HX := Lib.hid hx
   clear h hl hD hs hok hhas hlt hf he h1 h2 hev hx hxv hc hfa hlen hx1 her
   go_enter Tryz.func13, Tryz.ntmps13
   go_wp2_with (first
    | (go_at_call 46; (with_reducible refine HOK.out.mono ?_); rintro e w1 ⟨rfl, rfl⟩)
    | (go_at_call 49; (with_reducible refine HH.out.mono ?_); rintro e w2 ⟨rfl, hb⟩; obtain ⟨kc, k0⟩ := HC.out _ hb; have HB := Aside0.mk hb; clear hb)
    | (go_at_call 50; (with_reducible refine (HER.out _ (hF.below HFR.out HB.out)).mono ?_); rintro e w3 ⟨rfl, hf3, hb, hk⟩; have hl3 : LogIs q p g w3 := ⟨HL.out.len, (hk q hq).trans (HL.out.below HB.out).blk⟩; have k3 := hl3.cst HX.out; have z3 := hl3.frozen (1 + n); have HL3 := Aside0.mk hl3; have HF3 := Aside0.mk hf3; have HB3 := Aside0.mk ((below_self HB.out hsz).trans hb); have HK3 := Lib.hid (show Kept K w w3 from fun k h => (hk k h).trans (kept_below HB.out HLT.out k h)); clear hl3 hf3 hb hk kc k0))
   go_ret
   exact ⟨rfl, hSt _ K _ q _ _ _ _ HF3.out hq HL3.out.blk (by decide), HL3.out.setSt hn16 0, HB3.out.setCell (p := ⟨q, 1 + n, none⟩) hN _, fun k hk => (Below.heap_setCell _ ⟨q, 1 + n, none⟩ _ k hk.2).trans (HK3.out k hk.1)⟩
end
end Go.Proofs.YtmbiebdcnadhkaaGreat.Fl
namespace Go.Proofs.YtmbiebdcnadhkaaGreat.Fl
open Go.RowKit Go.Proofs.YtmbiebdcnadhkaaGreatW.PrintWords Go.Proofs.YtmbiebdcnadhkaaGreatW.PrintMore Go.Maps
def Stays (F : (Nat → Prop) → World → Prop) : Prop := ∀ (K : Nat → Prop) (w w' : World) (q : Nat) (o o' : Array Value) (T : TypeId), F K w → K q → w.heap[q]? = some (.cells o T (0, 0)) → w'.heap[q]? = some (.cells o' T (0, 0)) → T ≠ TB → Upd (fun k => k = q) w w' → F K w'
theorem solo_stays (N0 p : Nat) (D : PD) : Stays (fun K w => Solo N0 p K D w) := fun K w w' q o o' T h hq hb hb' hT hu => by
 obtain ⟨ok, hD, h1, h0, hK⟩ := h
 have hno : ¬ ok q := fun hok => (hK q hq).2.elim (fun h => h hok) (fun ⟨cs, fr, e⟩ => not_byte hb hT e)
 refine ⟨_, hD.bound.step (fun k hk hlt => hu.block k hlt (fun e => hno (by rw [← e]; exact hk.1))), fun k hk => h1 k hk.1, Nat.le_trans h0 hu.size, fun k hk => ⟨Nat.lt_of_lt_of_le (hK k hk).1 hu.size, (hK k hk).2.imp (fun h2 h => h2 h.1) (fun ⟨cs, fr, e⟩ => ⟨cs, fr, (hu.block k (hK k hk).1 (fun e2 => by rw [e2] at e; exact not_byte hb hT e)).trans e⟩)⟩⟩
theorem two_stays (N0 p x : Nat) (D : PD) (s : Int × Int × Int) (ps : List Pg) : Stays (fun K w => Two K N0 p x D s ps w) := fun K w w' q o o' T h hq hb hb' hT hu => by
 obtain ⟨okD, okX, hD, hX, hd, h1, h2, h0, hK⟩ := h
 have hno : ¬ okD q ∧ ¬ okX q := (hK q hq).2.elim id (fun ⟨cs, fr, e⟩ => absurd e (not_byte hb hT))
 refine ⟨_, _, hD.bound.step (fun k hk hlt => hu.block k hlt (fun e => hno.1 (by rw [← e]; exact hk.1))), hX.bound.step (fun k hk hlt => hu.block k hlt (fun e => hno.2 (by rw [← e]; exact hk.1))), fun k a b => hd k a.1 b.1, fun k hk => h1 k hk.1, fun k hk => h2 k hk.1, Nat.le_trans h0 hu.size, fun k hk => ⟨Nat.lt_of_lt_of_le (hK k hk).1 hu.size, (hK k hk).2.imp (fun h2 => ⟨fun h => h2.1 h.1, fun h => h2.2 h.1⟩) (fun ⟨cs, fr, e⟩ => ⟨cs, fr, (hu.block k (hK k hk).1 (fun e2 => by rw [e2] at e; exact not_byte hb hT e)).trans e⟩)⟩⟩
section
variable {N0 p q : Nat} {F : (Nat → Prop) → PD → World → Prop} {K : Nat → Prop} {D : PD} {g : LG} {w : World}
theorem LSeal_F (hSt : ∀ D, Stays (fun K w => F K D w)) (h : F K D w) (hl : LogIs q p g w) (hq : K q) (hN : N0 ≤ q) (hN2 : N0 ≤ w.heap.size) (hlt : ∀ k, K k → k < w.heap.size) (ho : g.op < 16) : Calls Tryz.prog 11 #[.pointer (some ⟨q, 0, none⟩)] w fun e w' => e = .returned (.tuple #[]) ∧ F K D w' ∧ LogIs q p (sealG g) w' ∧ Below N0 w w' ∧ Kept (fun k => K k ∧ k ≠ q) w w' :=
 (LSeal_any hl ho).mono fun e w' ⟨h1, h2, h3⟩ => ⟨h1, hSt D K w w' q _ _ _ h hq hl.blk h2.blk (by decide) h3, h2, h3.below hN2 (fun k hk => by rw [hk]; exact hN), fun k hk => h3.block k (hlt k hk.1) hk.2⟩
end
end Go.Proofs.YtmbiebdcnadhkaaGreat.Fl
namespace Go.Proofs.YtmbiebdcnadhkaaGreat.Fl
open Go.RowKit Go.Proofs.YtmbiebdcnadhkaaGreatW.PrintWords Go.Proofs.YtmbiebdcnadhkaaGreatW.PrintMore Go.Maps
theorem sealG_nx (g : LG) : (sealG g).nx = g.nx := by unfold sealG; split <;> rfl
section
variable {N0 p q : Nat} {F : (Nat → Prop) → PD → World → Prop} {K : Nat → Prop} {D : PD} {g : LG} {w : World}
set_option maxHeartbeats 2000000 in
set_option maxRecDepth 100000 in
theorem LTurn_F (hF : DevFrame N0 p F) (hSt : ∀ D, Stays (fun K w => F K D w)) (h : F K D w) (hl : LogIs q p g w) (hq : K q) (hN : N0 ≤ q) (ho : g.op < 16) (hnx : SeqOk g.nx) (hnx2 : g.nx < 1000000) (hnx0 : 0 ≤ g.nx) (hd : D.dirty.length < 900000) {n : Nat} (hn : n < 16) (hfirst : ∀ r, FirstAt (sealG g).st 0 r → r = (n : Int)) :
  Calls Tryz.prog 86 #[.pointer (some ⟨q, 0, none⟩)] w fun e w' => e = .returned (.tuple #[]) ∧ F K (appD D (n : Int) 0 0 (rec 1 g.nx [])) w' ∧ LogIs q p ⟨(sealG g).st.set n 1, (n : Int), 1, g.nx + 1⟩ w' ∧ Below N0 w w' ∧ Kept (fun k => K k ∧ k ≠ q) w w' := by
 have hsh := hF.shape h
 have hse := LSeal_F hSt h hl hq hN (hF.size h) (fun k hk => hF.lt h k hk) ho
 obtain ⟨g1, hg1⟩ : ∃ g1, g1 = sealG g := ⟨_, rfl⟩
 have hgn : g1.nx = g.nx := by rw [hg1]; exact sealG_nx g
 rw [← hg1] at hse hfirst ⊢
 have HSE := Lib.hid hse
 have HFI := Lib.hid hfirst
 have HGN := Lib.hid hgn
 have HSHAPE := Lib.hid hsh
 clear hse hfirst hgn hg1 hsh h hl
 go_enter Tryz.func86, Tryz.ntmps86
 go_wp2_with (first
  | (go_at_call 11; (with_reducible refine HSE.out.mono ?_); rintro e w1 ⟨rfl, hf, hl, hb, hk⟩; have HF1 := Aside0.mk hf; have HL1 := Aside0.mk hl; have HB1 := Aside0.mk hb; have HK1 := Lib.hid hk; have k0 := hl.c0; have k19 := hl.c19; rw [HGN.out] at k19; clear hf hl hb hk)
  | (go_at_call 99; (with_reducible refine (LIndex_any HL1.out 0).mono ?_); rintro e w2 ⟨r, rfl, hr, rfl⟩; obtain rfl := HFI.out r hr; clear hr))
 have hst := fun (X : World) (hX : F K D X) => Start_F hF hX (n : Int) hnx hd
 have hl1d : LogIs q p g1 w1.drew := ⟨HL1.out.len, HL1.out.blk⟩
 have HST := Lib.hid hst
 have HD1 := Aside0.mk (hF.below HF1.out (below_drew (Below.refl _ w1)))
 obtain ⟨x, hx⟩ : ∃ x, g1.st[n]? = some x := ⟨_, List.getElem?_eq_getElem (by have := HL1.out.len; omega)⟩
 have HX := Lib.hid hx
 have HLD := Aside0.mk hl1d
 clear hst hl1d hx
 go_region_held3 (fun w' => w'.cell? ⟨q, 0, none⟩ = some (.pointer (some ⟨p, 0, none⟩)) ∧ w'.cell? ⟨q, 19, none⟩ = some (.int .u64 g.nx)) (first | go_keep | exact ⟨z0, z19⟩)
  (first | (go_at_call 110; (with_reducible refine (HST.out _ HD1.out).mono ?_); rintro e w3 ⟨rfl, hf, hb, hk⟩; have hl3 : LogIs q p g1 w3 := ⟨HL1.out.len, (hk q hq).trans HLD.out.blk⟩; have z0 := hl3.c0; have z19 := hl3.c19; rw [HGN.out] at z19; have HF3 := Aside0.mk hf; have HB3 := Aside0.mk ((⟨HB1.out.os, HB1.out.tape, HB1.out.output, HB1.out.size, HB1.out.block⟩ : Below N0 w w1.drew).trans hb); have HK3 := Lib.hid (show Kept (fun k => K k ∧ k ≠ q) w w3 from fun k h => (hk k h.1).trans (HK1.out k h)); have HL3 := Aside0.mk hl3; clear hf hb hk hl3))
 have t0 := HL3.out.cst HX.out
 have t1 := HL3.out.c17
 have t2 := HL3.out.c18
 have f0 := HL3.out.frozen (1 + n)
 have f1 := HL3.out.frozen 17
 have f2 := HL3.out.frozen 18
 have f3 := HL3.out.frozen 19
 have n0 : (0 : Int) ≤ (n : Int) := by omega
 have n1 : (n : Int) < 16 := by omega
 have n2 : ¬ 1 + n = 17 := by omega
 have n3 : ¬ 1 + n = 18 := by omega
 have n4 : ¬ 17 = 1 + n := by omega
 have n5 : ¬ 18 = 1 + n := by omega
 have n6 : ¬ 1 + n = 19 := by omega
 have n7 : ¬ 19 = 1 + n := by omega
 have n8 : ¬ 1 + n = 0 := by omega
 have n9 : ¬ 0 = 1 + n := by omega
 have hw : IntKind.u64.wrap (g.nx + 1) = g.nx + 1 := IntWalk.u64_in _ (by omega)
 go_wp2_with fail
 have hl4 := (HL3.out.setSt hn 1).setOp (n : Int)
 obtain ⟨w4, hw4⟩ : ∃ w4, w4 = (w3.setCell ⟨q, 1 + n, none⟩ (.int .i64 1)).setCell ⟨q, 17, none⟩ (.int .i64 (n : Int)) := ⟨_, rfl⟩
 rw [← hw4] at hl4 ⊢
 have hu4 : Upd (fun k => k = q) w3 w4 := by
  rw [hw4]
  exact (Upd.setCell w3 (p := ⟨q, 1 + n, none⟩) (S := fun k => k = q) rfl _).trans (Upd.setCell _ (p := ⟨q, 17, none⟩) (S := fun k => k = q) rfl _) (fun k hk _ => hk)
 have hf4 := hSt _ K w3 w4 q _ _ _ HF3.out hq HL3.out.blk hl4.blk (by decide) hu4
 obtain ⟨okd, hD4⟩ := hF.dev hf4
 have hsp : Calls Tryz.prog 58 #[.pointer (some ⟨p, 0, none⟩)] w4 fun e w' => e = .returned (.agg #[.int .i64 D.s.1, .int .i64 D.s.2.1, .int .i64 D.s.2.2]) ∧ Below w4.heap.size w4 w' := by
  have := Shape_any hD4
  rw [appD_s] at this
  exact this
 have hpg : ∀ X : World, Calls Tryz.prog 85 #[.int .i64 0, .int .i64 D.s.2.2] X fun e w' => e = .returned (.int .i64 1) ∧ Below X.heap.size X w' := fun X => by
  have := Pages_ok 0 D.s HSHAPE.out (by omega) X
  rw [kpg_zero HSHAPE.out] at this
  exact this
 have rs := fun (X : World) => run_shape3 X D.s.1 D.s.2.1 D.s.2.2
 have HSP := Lib.hid hsp
 have HPG := Lib.hid hpg
 have HF4 := Aside0.mk hf4
 have HL4 := Aside0.mk hl4
 have HU4 := Aside0.mk hu4
 clear hsp hpg hf4 hl4 hu4 hD4 hw4 t0 t1 t2 f0 f1 f2 f3 z0 z19 k0 k19
 go_wp2_with (first
  | (go_at_call 58; (with_reducible refine HSP.out.mono ?_); rintro e w5 ⟨rfl, hb⟩; have HB5 := Aside0.mk hb; clear hb)
  | (go_at_call 85; (with_reducible refine (HPG.out _).mono ?_); rintro e w6 ⟨rfl, hb⟩; have HB6 := Aside0.mk (HB5.out.trans (hb.mono HB5.out.size)); have hl6 := HL4.out.below HB6.out; have t2 := hl6.c18; have z19 := hl6.c19; simp only [HGN.out] at z19; have f2 := hl6.frozen 18; have f3 := hl6.frozen 19; have HL6 := Aside0.mk hl6; clear hb hl6))
 go_end0
 have h7 := (HL6.out.setPg 1).setNx (g.nx + 1)
 have hu7 : Upd (fun k => k = q) w6 ((w6.setCell ⟨q, 18, none⟩ (.int .i64 1)).setCell ⟨q, 19, none⟩ (.int .u64 (g.nx + 1))) := (Upd.setCell w6 (p := ⟨q, 18, none⟩) (S := fun k => k = q) rfl _).trans (Upd.setCell _ (p := ⟨q, 19, none⟩) (S := fun k => k = q) rfl _) (fun k hk _ => hk)
 have hf7 := hSt _ K w6 _ q _ _ _ (hF.below HF4.out HB6.out) hq HL6.out.blk h7.blk (by decide) hu7
 have hs3 := hF.size HF3.out
 have hs4 := hF.size HF4.out
 have b4 := HB3.out.trans (HU4.out.below hs3 (fun k hk => by rw [hk]; exact hN))
 have b6 := b4.trans (HB6.out.mono hs4)
 have b7 := b6.trans (hu7.below (Nat.le_trans hs4 HB6.out.size) (fun k hk => by rw [hk]; exact hN))
 refine ⟨rfl, hf7, h7, b7, fun k hk => ?_⟩
 have l3 := hF.lt HF3.out k hk.1
 have l4 := hF.lt HF4.out k hk.1
 exact (hu7.block k (Nat.lt_of_lt_of_le l4 HB6.out.size) hk.2).trans ((HB6.out.block k l4).trans ((HU4.out.block k l3 hk.2).trans (HK3.out k hk)))
end
end Go.Proofs.YtmbiebdcnadhkaaGreat.Fl
namespace Go.Proofs.YtmbiebdcnadhkaaGreat.Fl
open Go.RowKit Go.Proofs.YtmbiebdcnadhkaaGreatW.PrintWords Go.Proofs.YtmbiebdcnadhkaaGreatW.PrintMore Go.Maps
section
variable {w : World} {sb db : Nat} {s : Int × Int × Int} {A : Option Addr} {c : Nat} {n : Nat}
set_option maxHeartbeats 1000000 in
set_option maxRecDepth 100000 in
theorem PutFits_any (hs : ShapeOk s) (h0 : w.cell? ⟨sb, 0, none⟩ = some (.int .i64 s.1)) (h1 : w.cell? ⟨sb, 1, none⟩ = some (.int .i64 s.2.1)) (h2 : w.cell? ⟨sb, 2, none⟩ = some (.int .i64 s.2.2)) (h3 : w.cell? ⟨db, 0, none⟩ = some (.slice A n c)) (hn : n ≤ 9223372036854775807) (pg : Int) :
  Calls Tryz.prog 83 #[.int .i64 pg, .pointer (some ⟨sb, 0, none⟩), .pointer (some ⟨db, 0, none⟩)] w fun e w' => e = .returned (.bool (fitsS s pg n)) ∧ Below w.heap.size w w' := by
 have HFT := Lib.hid (Fits_ok s hs pg n hn w)
 clear hs
 go_enter Tryz.func83, Tryz.ntmps83
 go_wp2_with (go_at_call 84; (with_reducible refine HFT.out.mono ?_); rintro e w1 ⟨rfl, hb⟩; have HB := Aside0.mk hb; clear hb)
 go_ret
 exact ⟨rfl, HB.out⟩
end
end Go.Proofs.YtmbiebdcnadhkaaGreat.Fl
