/- The parts of this proof, one after the other (wip/tools/packfl.py). -/
import Derived.Test.YtmbiebdcnadhkaaPkSeglogDoesC
import Derived.IntWalk
import Derived.Test.YtmbiebdcnadhkaaPkSeglogDoesA
import Derived.Lib.MinMax
/- segment.Raw over any device: walked. -/
namespace Go.Proofs.Ytmbiebdcnadhkaa.Fl
open Go.RowKit Go.Proofs.YtmbiebdcnadhkaaW.PrintWords Go.Proofs.YtmbiebdcnadhkaaW.PrintMore Go.Maps
set_option linter.unusedSimpArgs false
set_option linter.unusedVariables false
section
variable {N0 p : Nat} {D : PD} {w : World} {ok : Nat → Prop}
end
end Go.Proofs.Ytmbiebdcnadhkaa.Fl

/- Entries: what is read out of a segment's bytes, and how it lies in cells. No condition. -/
namespace Go.Proofs.Ytmbiebdcnadhkaa.Fl
open Go.RowKit Go.Proofs.YtmbiebdcnadhkaaW.PrintWords Go.Proofs.YtmbiebdcnadhkaaW.PrintMore Go.Maps
set_option linter.unusedSimpArgs false
set_option linter.unusedVariables false
section
variable {w w' : World} {base base' : Nat} {ok ok' : Nat → Prop} {v : Value} {l : List Int}
end
/-- An entry: its place, number, pages, kind and data. -/
structure En where
  a : Int
  b : Int
  seq : Int
  pages : Int
  kind : Int
  data : List Int
/-! ### What a segment's bytes say -/
/-! ### Get and Parse -/
section
variable {w : World} {A : Option Addr} {c : Nat} {l : List Int}
end
end Go.Proofs.Ytmbiebdcnadhkaa.Fl

/- segment.Read over any device: walked. -/
namespace Go.Proofs.Ytmbiebdcnadhkaa.Fl
open Go.RowKit Go.Proofs.YtmbiebdcnadhkaaW.PrintWords Go.Proofs.YtmbiebdcnadhkaaW.PrintMore Go.Maps
set_option linter.unusedSimpArgs false
set_option linter.unusedVariables false
section
variable {N0 p : Nat} {D : PD} {w : World} {ok : Nat → Prop}
end
end Go.Proofs.Ytmbiebdcnadhkaa.Fl

/- segment.Scan over any device: walked. -/
namespace Go.Proofs.Ytmbiebdcnadhkaa.Fl
open Go.RowKit Go.Proofs.YtmbiebdcnadhkaaW.PrintWords Go.Proofs.YtmbiebdcnadhkaaW.PrintMore Go.Maps
set_option linter.unusedSimpArgs false
set_option linter.unusedVariables false
section
variable {N0 p : Nat} {D : PD} {w : World} {ok : Nat → Prop}
end
end Go.Proofs.Ytmbiebdcnadhkaa.Fl

/- Records that lie one behind the other are read as they were put. No program in sight. -/
namespace Go.Proofs.Ytmbiebdcnadhkaa.Fl
set_option linter.unusedSimpArgs false
set_option linter.unusedVariables false
/-- What is known of a device's pages. -/
structure Sound (D : PD) : Prop where
  sh : ShapeOk D.s
  lens : ∀ q ∈ D.mp, q.2.length = D.s.2.2.toNat
theorem DevIs.sound {N0 p : Nat} {D : PD} {ok : Nat → Prop} {w : World} (h : DevIs N0 p D ok w) : Sound D := by
  obtain ⟨m, v, es, ck, h⟩ := h
  exact ⟨h.shape, h.lens⟩
section
variable {D : PD} {a b : Int} {l : List Int}
theorem writeE_zero (h : hasB D.s a b = true) (hl : (l.length : Int) ≤ D.s.2.2) (hu : usedB D a b = false) : writeE D a b l = 0 := by
  unfold writeE
  rw [if_neg (by rw [h]; decide), if_neg (by omega), if_neg (by rw [hu]; decide)]
theorem used_write (h : hasB D.s a b = true) (hl : (l.length : Int) ≤ D.s.2.2) (hu : usedB D a b = false) (c d : Int) :
    usedB (writeD D a b l) c d = (decide (c = a ∧ d = b) || usedB D c d) := by
  have h0 := writeE_zero h hl hu
  unfold usedB
  rw [writeD_s]
  unfold writeD
  rw [if_pos h0]
  simp only
  by_cases hc : c = a ∧ d = b
  · obtain ⟨rfl, rfl⟩ := hc
    rw [look_put, if_pos rfl, h]
    simp
  · have hne : ¬ ((c, d) = (a, b)) := fun e => hc ⟨congrArg Prod.fst e, congrArg Prod.snd e⟩
    rw [look_put, if_neg hne, decide_eq_false hc]
    rfl
/-- Pages that may be written, one behind the other. -/
def FreeRun (D : PD) (a b : Int) (rs : List (List Int)) : Prop := ∀ i : Nat, i < rs.length → hasB D.s a (b + (i : Int)) = true ∧ usedB D a (b + (i : Int)) = false
theorem FreeRun.head {r : List Int} {rs : List (List Int)} (h : FreeRun D a b (r :: rs)) : hasB D.s a b = true ∧ usedB D a b = false := by
  have := h 0 (by simp)
  simpa using this
theorem FreeRun.tail {r : List Int} {rs : List (List Int)} (h : FreeRun D a b (r :: rs)) (hl : (r.length : Int) ≤ D.s.2.2) : FreeRun (writeD D a b r) a (b + 1) rs := fun i hi => by
  have h1 := h (i + 1) (by simp; omega)
  rw [writeD_s, used_write h.head.1 hl h.head.2]
  rw [show b + 1 + (i : Int) = b + ((i + 1 : Nat) : Int) by omega, h1.2, Bool.or_false]
  exact ⟨h1.1, decide_eq_false (fun hh => by omega)⟩
theorem used_wr : ∀ (rs : List (List Int)) (b : Int) (D : PD), FreeRun D a b rs → (∀ r ∈ rs, (r.length : Int) ≤ D.s.2.2) → ∀ c d : Int, usedB (wrD a b rs D) c d = (decide (c = a ∧ b ≤ d ∧ d < b + rs.length) || usedB D c d)
  | [], b, D, _, _, c, d => by
    rw [decide_eq_false (fun h => by simp at h; omega)]
    rfl
  | r :: rs, b, D, h, hl, c, d => by
    have hr := hl r (by simp)
    show usedB (wrD a (b + 1) rs (writeD D a b r)) c d = _
    rw [used_wr rs (b + 1) (writeD D a b r) (h.tail hr) (fun q hq => by rw [writeD_s]; exact hl q (by simp [hq])), used_write h.head.1 hr h.head.2, ← Bool.or_assoc, ← Bool.decide_or]
    congr 1
    refine decide_eq_decide.2 ⟨?_, ?_⟩
    · rintro (⟨x1, x2, x3⟩ | ⟨x1, x2⟩)
      · exact ⟨x1, by omega, by simp; omega⟩
      · exact ⟨x1, by omega, by simp; omega⟩
    · rintro ⟨x1, x2, x3⟩
      simp at x3
      by_cases hd : d = b
      · exact .inr ⟨x1, hd⟩
      · exact .inl ⟨x1, by omega, by omega⟩
end
/-! ### A record that was put -/
/-- A record's bytes in the parts that its pages have. -/
def parts (s : Int × Int × Int) (kd sq : Int) (l : List Int) : List (List Int) := chunkL s.2.2.toNat (rec kd sq l)
theorem nb_pos {s : Int × Int × Int} (hs : ShapeOk s) : 16 ≤ s.2.2.toNat ∧ s.2.2.toNat ≤ 256 ∧ ((s.2.2.toNat : Nat) : Int) = s.2.2 := by
  have := hs.c0
  have := hs.c1
  omega
theorem parts_len {s : Int × Int × Int} (hs : ShapeOk s) (kd sq : Int) (l : List Int) : (parts s kd sq l).length = kpg s l.length := by
  unfold parts kpg
  rw [chunk_len (by have := nb_pos hs; omega), rec_len]
theorem parts_le {s : Int × Int × Int} (hs : ShapeOk s) {kd sq : Int} {l r : List Int} (h : r ∈ parts s kd sq l) : (r.length : Int) ≤ s.2.2 := by
  have h1 := chunk_le (by have := nb_pos hs; omega) r h
  have := nb_pos hs
  omega
structure RecOk (kd sq : Int) (l : List Int) : Prop where
  kd : KindOk kd
  sq : SeqOk sq
  byt : Byt l
  len : l.length ≤ 4096
/-- Where an append succeeds. -/
theorem appE_zero {D : PD} (a b : Int) (n : Nat) : (appE D a b n).2 = 0 ↔ (hasB D.s a b = true ∧ n ≤ 4096 ∧ b + (kpg D.s n : Int) ≤ D.s.2.1 ∧ anyUsedD a b (kpg D.s n) D = false) := by
  unfold appE
  by_cases h1 : hasB D.s a b = false
  · rw [if_pos h1, h1]; simp
  · rw [if_neg h1]
    by_cases h2 : 4096 < n
    · rw [if_pos h2]; simp; omega
    · rw [if_neg h2]
      by_cases h3 : D.s.2.1 < b + (kpg D.s n : Int)
      · rw [if_pos h3]; simp; omega
      · rw [if_neg h3]
        by_cases h4 : anyUsedD a b (kpg D.s n) D = true
        · rw [if_pos h4, h4]; simp
        · rw [if_neg h4]
          simp only [Bool.not_eq_false] at h1
          simp only [Bool.not_eq_true] at h4
          simp [h1, h4]; omega
theorem appE_one {D : PD} {a b : Int} {n : Nat} (h : (appE D a b n).2 = 0) : appE D a b n = ((kpg D.s n : Int), 0) := by
  obtain ⟨h1, h2, h3, h4⟩ := (appE_zero a b n).1 h
  unfold appE
  rw [if_neg (by rw [h1]; decide), if_neg (by omega), if_neg (by omega), if_neg (by rw [h4]; decide)]
theorem app_run {D : PD} (hs : ShapeOk D.s) {a b kd sq : Int} {l : List Int} (h : (appE D a b l.length).2 = 0) : FreeRun D a b (parts D.s kd sq l) := by
  obtain ⟨h1, h2, h3, h4⟩ := (appE_zero a b l.length).1 h
  intro i hi
  rw [parts_len hs] at hi
  have h5 := (hasB_iff _ _ _).1 h1
  refine ⟨(hasB_iff _ _ _).2 ⟨h5.1, h5.2.1, by omega, by omega⟩, ?_⟩
  unfold anyUsedD at h4
  rw [List.any_eq_false] at h4
  have := h4 i (by simpa using hi)
  simpa using this
theorem appD_ok {D : PD} {a b : Int} {n : Nat} {bs : List Int} (h : (appE D a b n).2 = 0) : appD D a b n bs = wrD a b (chunkL D.s.2.2.toNat bs) D := by unfold appD; rw [if_pos h]
theorem appD_s (D : PD) (a b : Int) (n : Nat) (bs : List Int) : (appD D a b n bs).s = D.s := by
  unfold appD
  split
  · exact wrD_s _ _ _ _
  · rfl
/-- A record lies at a page. -/
structure Holds (D : PD) (a q kd sq : Int) (l : List Int) : Prop where
  ok : RecOk kd sq l
  has : hasB D.s a q = true
  room : q + (kpg D.s l.length : Int) ≤ D.s.2.1
  got : ∀ i : Nat, i < kpg D.s l.length → gotD D a (q + (i : Int)) = full D.s.2.2.toNat ((parts D.s kd sq l).getD i [])
theorem app_used {D : PD} (hs : ShapeOk D.s) {a b kd sq : Int} {l : List Int} (h : (appE D a b l.length).2 = 0) (c d : Int) : usedB (appD D a b l.length (rec kd sq l)) c d = (decide (c = a ∧ b ≤ d ∧ d < b + (kpg D.s l.length : Int)) || usedB D c d) := by
  rw [appD_ok h]
  have := used_wr (parts D.s kd sq l) b D (app_run hs h) (fun r hr => parts_le hs hr) c d
  have hl := parts_len hs kd sq l
  unfold parts at this hl
  rw [this, hl]
/-! ### Records one behind the other -/
def Chain (D : PD) (a sq : Int) : Int → List (Int × List Int) → Int → Prop
  | q, [], e => q = e
  | q, r :: rs, e => Holds D a q r.1 sq r.2 ∧ r.1 ≠ 1 ∧ Chain D a sq (q + (kpg D.s r.2.length : Int)) rs e
end Go.Proofs.Ytmbiebdcnadhkaa.Fl

/- A device alone in memory; chapter 14's example: walked. No condition. -/
namespace Go.Proofs.Ytmbiebdcnadhkaa.Fl
open Go.RowKit Go.Proofs.YtmbiebdcnadhkaaW.PrintWords Go.Proofs.YtmbiebdcnadhkaaW.PrintMore Go.Maps
set_option linter.unusedSimpArgs false
set_option linter.unusedVariables false
/-- One device above N0; blocks of K stay as they are when it is written. -/
def Solo (N0 p : Nat) (K : Nat → Prop) (D : PD) (w : World) : Prop :=
  ∃ ok : Nat → Prop, DevIs N0 p D ok w ∧ (∀ k, ok k → N0 ≤ k) ∧ N0 ≤ w.heap.size ∧ (∀ k, K k → k < w.heap.size ∧ (¬ ok k ∨ ∃ cs fr, w.heap[k]? = some (.cells cs TB fr)))
theorem solo_frame (N0 p : Nat) : DevFrame N0 p (Solo N0 p) where
  dev := fun h => by
    obtain ⟨ok, hD, _⟩ := h
    exact ⟨ok, hD⟩
  keep := fun {K D w w'} h hb => by
    obtain ⟨ok, hD, h1, h0, hK⟩ := h
    refine ⟨_, hD.bound.below hb, fun k h => h1 k h.1, Nat.le_trans h0 hb.size, fun k hk => ?_⟩
    rcases hk with hk | hk
    · exact ⟨Nat.lt_of_lt_of_le (hK k hk).1 hb.size, (hK k hk).2.imp (fun h2 h => h2 h.1) (fun ⟨cs, fr, e⟩ => ⟨cs, fr, (hb.block k (hK k hk).1).trans e⟩)⟩
    · exact ⟨hk.2, .inl (fun h => by have := h.2.2; omega)⟩
  less := fun h hk => by
    obtain ⟨ok, hD, h1, h0, hK⟩ := h
    exact ⟨ok, hD, h1, h0, fun k h => hK k (hk k h)⟩
  upd := fun {K D D' w f args res} h hc => by
    obtain ⟨ok, hD, h1, h0, hK⟩ := h
    refine (hc ok hD).mono fun e w1 ⟨he, hD1, hu⟩ => ⟨he, ⟨_, hD1, ?_, ?_, ?_⟩, upd_below hu h0 h1, fun k hk => hu.block k (hK k hk).1 (fun h => (hK k hk).2.elim (fun h2 => h2 h.1) (fun ⟨cs, fr, e⟩ => h.2 cs fr e))⟩
    · exact fun k hk => hk.elim (h1 k) (fun h => Nat.le_trans h0 h)
    · exact Nat.le_trans h0 hu.size
    · exact fun k hk => ⟨Nat.lt_of_lt_of_le (hK k hk).1 hu.size, (hK k hk).2.elim (fun h2 => .inl (fun h => h.elim h2 (fun h => by have := (hK k hk).1; omega))) (fun ⟨cs, fr, e⟩ => .inr ⟨cs, fr, (hu.block k (hK k hk).1 (fun h => h.2 cs fr e)).trans e⟩)⟩
  size := fun h => by
    obtain ⟨ok, hD, h1, h0, hK⟩ := h
    exact h0
  lt := fun h k hk => by
    obtain ⟨ok, hD, h1, h0, hK⟩ := h
    exact (hK k hk).1
theorem Solo.new {N0 p : Nat} {D : PD} {w w1 : World} (hN : N0 ≤ w.heap.size) (hD : DevIs N0 p D (fun k => w.heap.size ≤ k) w1) (hb : Below w.heap.size w w1) : Solo N0 p (fun _ => False) D w1 :=
  ⟨_, hD, fun k hk => Nat.le_trans hN hk, Nat.le_trans hN hb.size, fun _ h => h.elim⟩
theorem DevFrame.sound {N0 p : Nat} {F : (Nat → Prop) → PD → World → Prop} (hF : DevFrame N0 p F) {K : Nat → Prop} {D : PD} {w : World} (h : F K D w) : Sound D := by
  obtain ⟨ok, hD⟩ := hF.dev h
  exact hD.sound
/-! ### Bytes stay bytes -/
/-! ### The example -/
theorem C_one7 {w : World} {g : Nat} (h : w.cell? ⟨g, 0, none⟩ = some (.int .u8 7)) : kB.C w (some ⟨g, 0, none⟩) [(7 : Int)].length [7] := by
  refine Kd.C_of_reads (d := 0) ⟨rfl, by simp, fun _ => ⟨_, rfl, fun j hj => ?_⟩⟩
  have : j = 0 := by simp at hj; exact hj
  subst this
  exact h
end Go.Proofs.Ytmbiebdcnadhkaa.Fl

/- The document's Append: walked, whatever stands round the device. No condition. -/
namespace Go.Proofs.Ytmbiebdcnadhkaa.Fl
open Go.RowKit Go.Proofs.YtmbiebdcnadhkaaW.PrintWords Go.Proofs.YtmbiebdcnadhkaaW.PrintMore Go.Maps
set_option linter.unusedSimpArgs false
set_option linter.unusedVariables false
theorem anyUsed_true {a b : Int} {k i : Nat} {ps : List Pg} (hi : i < k) (h : 0 ≤ findI a (b + (i : Int)) ps) : anyUsed a b k ps = true := by
  unfold anyUsed
  rw [List.any_eq_true]
  exact ⟨i, by simpa using hi, by simpa using h⟩
theorem anyUsed_false {a b : Int} {k : Nat} {ps : List Pg} (h : ∀ i : Nat, i < k → findI a (b + (i : Int)) ps < 0) : anyUsed a b k ps = false := by
  unfold anyUsed
  rw [List.any_eq_false]
  intro i hi
  have := h i (by simpa using hi)
  simp
  omega
theorem ref_cells {N0 x : Nat} {s : Int × Int × Int} {ps : List Pg} {ok : Nat → Prop} {w : World} (h : RefIs N0 x s ps ok w) : w.cell? ⟨x, 0, none⟩ = some (.int .i64 s.1) ∧ w.cell? ⟨x, 1, none⟩ = some (.int .i64 s.2.1) ∧ w.cell? ⟨x, 2, none⟩ = some (.int .i64 s.2.2) := by
  obtain ⟨_, _, v, hx, _⟩ := h
  exact ⟨bcell hx 0, bcell hx 1, bcell hx 2⟩
section
variable {N0 x : Nat} {s : Int × Int × Int} {G : (Nat → Prop) → List Pg → World → Prop} {K : Nat → Prop} {ps : List Pg} {w : World} {A : Option Addr} {c : Nat} {l : List Int} {kind seq : Int}
theorem RefFrame.write (hG : RefFrame N0 x s G) (h : G K ps w) (hs : ShapeOk s) (a b : Int) (A : Option Addr) (c : Nat) (l : List Int) (hl : kB.C w A l.length l) (hm : ps.length < 1000000) :
    Calls Try.prog 61 #[.pointer (some ⟨x, 0, none⟩), .int .i64 a, .int .i64 b, .slice A l.length c] w fun e w' => e = .returned (.int .i64 (rwE s ps a b l)) ∧ G K (rwP s ps a b l) w' ∧ Below N0 w w' ∧ Kept K w w' :=
  hG.upd h (fun ok hX => RWrite_any hX hs hm a b A c l hl)
set_option maxHeartbeats 4000000 in
set_option maxRecDepth 100000 in
theorem RAppend_G (hG : RefFrame N0 x s G) (h : G K ps w) (hsh : ShapeOk s) (a b : Int) (hk : KindOk kind) (hs : SeqOk seq) (hl : Byt l) (hC : kB.C w A l.length l) (hc : l.length ≤ c) (hm : l.length < 1000000) (hd : ps.length < 900000) :
    Calls Try.prog 36 #[.pointer (some ⟨x, 0, none⟩), .int .i64 a, .int .i64 b, .int .u64 seq, .int .u8 kind, .slice A l.length c] w fun e w' => e = .returned (.tuple #[.int .i64 (appR s ps a b l.length).1, .int .i64 (appR s ps a b l.length).2]) ∧ G K (appP s ps a b l.length (rec kind seq l)) w' ∧ Below N0 w w' ∧ Kept K w w' := by
  have hex := hG.ref h
  obtain ⟨ok, hX⟩ := hex
  have hhas := RHas_any hX a b
  have hcells := fun (X : World) (hX' : Below w.heap.size w X) => ref_cells (hX.below hX')
  have hfind := fun (X : World) (hX' : Below w.heap.size w X) (y : Int) => RFind_any (hX.below hX') (by omega) a y
  obtain ⟨n, hn⟩ : ∃ n, n = l.length := ⟨_, rfl⟩
  have en := fun (w : World) (a : Option Addr) (n c : Nat) => Lib.run_eql_slice_nil (P := Try.prog) w 36 TB a n c 0 0 Try.underlying36
  have HG := Lib.hid hG
  have HH := Aside0.mk h
  have HN := Lib.hid hn
  have HST := Lib.hid (fun (X : World) (hX : Below w.heap.size w X) => hG.still h hX)
  have HOK := Lib.hid hsh
  have HDD := Lib.hid hd
  have nm : (n : Int) < 1000000 := by omega
  rw [← hn] at hc hm
  rw [← hn]
  cases hb : hasB s a b with
  | false =>
    have hE : appR s ps a b n = (0, 6) := by unfold appR; rw [hb]; rfl
    have hA : appP s ps a b n (rec kind seq l) = ps := by unfold appP; rw [hE]; rfl
    rw [hE, hA]
    rw [hb] at hhas
    have HHAS := Lib.hid hhas
    clear hb hE hA hG h hn hsh hX hhas hcells hfind hd hk hs hl hC hc hm en
    go_enter Try.func36, Try.ntmps36
    go_wp2_with (go_at_call 40; (with_reducible refine HHAS.out.mono ?_); rintro e w1 ⟨rfl, rfl⟩)
    go_ret2
    exact ⟨rfl, HST.out _ (Below.refl _ _)⟩
  | true =>
    rw [hb] at hhas
    have HHAS := Lib.hid hhas
    have HHB := Lib.hid hb
    have hab := (hasB_iff _ _ _).1 hb
    have b0 : 0 ≤ b := hab.2.2.1
    have b1 : b < 64 := by have := hab.2.2.2; have := hsh.b1; omega
    by_cases hlen : n ≤ 4096
    · have hfr := fun (X : World) (hX' : Below w.heap.size w X) => Frame_ok (w := X) (A := A) (c := c) hk hs hl (Kd.C_below hC hX') (by rw [← hn]; exact hc) (by rw [← hn]; exact hlen)
      rw [← hn] at hfr
      have hpg := fun (X : World) => RPages_ok n s hsh hlen X
      have hkb := kpg_bd hsh hlen
      obtain ⟨k, hkd⟩ : ∃ k, k = kpg s n := ⟨_, rfl⟩
      rw [← hkd] at hpg hkb
      obtain ⟨nb, hnb⟩ := Int.eq_ofNat_of_zero_le (show 0 ≤ s.2.2 by have := hsh.c0; omega)
      have hnb0 : 16 ≤ nb := by have := hsh.c0; omega
      have hnb1 : nb ≤ 256 := by have := hsh.c1; omega
      obtain ⟨R0, hR0⟩ : ∃ R0, R0 = rec kind seq l := ⟨_, rfl⟩
      have hRl : R0.length = n + 16 := by rw [hR0, rec_len, hn]
      have hcl : (chunkL nb R0).length = k := by
        rw [chunk_len (by omega), hRl, hkd, kpg, hnb]
        rfl
      rw [← hR0] at hfr
      rw [hnb] at hpg hcells
      have hnbt : s.2.2.toNat = nb := by rw [hnb]; rfl
      have hcell2 : ∀ X ok, RefIs N0 x s ps ok X → True := fun _ _ _ => trivial
      clear hcell2
      have hgc : ∀ (ps' : List Pg) (K' : Nat → Prop) (X : World), G K' ps' X → X.cell? ⟨x, 2, none⟩ = some (.int .i64 (nb : Int)) := fun ps' K' X hg => by
        obtain ⟨ok, hx⟩ := hG.ref hg
        have := (ref_cells hx).2.2
        rwa [hnb] at this
      have hrow : ∀ i r, (chunkL nb R0)[i]? = some r → i * nb < n + 16 ∧ r = (R0.drop (i * nb)).take nb := fun i r hi => by
        obtain ⟨h1, h2⟩ := chunk_get (by omega) i R0 r hi
        exact ⟨by omega, h2⟩
      have HFR := Lib.hid hfr
      have HPG := Lib.hid hpg
      have HCE := Lib.hid hcells
      have HGC := Lib.hid hgc
      have HROW := Lib.hid hrow
      have HCL := Lib.hid hcl
      have HNB := Lib.hid hnbt
      have HKD := Lib.hid hkd
      have HRL := Lib.hid hRl
      have HFD := Lib.hid hfind
      have k1 : 1 ≤ k := hkb.1
      have k257 : k ≤ 257 := hkb.2
      obtain ⟨y0, y1, y2⟩ := hcells w (Below.refl _ _)
      obtain ⟨S1, hS1⟩ : ∃ S1, S1 = s.2.1 := ⟨_, rfl⟩
      have s1a : 1 ≤ S1 := by rw [hS1]; exact hsh.b0
      have s1b : S1 ≤ 64 := by rw [hS1]; exact hsh.b1
      have HS1 := Lib.hid hS1
      rw [← hS1] at y1
      rw [← hR0]
      clear hG h hn hsh hX hhas hcells hfind hd hk hs hl hC hc hm hfr hpg hkb hkd hnb hR0 hRl hcl hnbt hgc hrow hab hb hS1 y0
      have HCE1 := Lib.hid (show ∀ X : World, Below w.heap.size w X → X.cell? ⟨x, 1, none⟩ = some (.int .i64 S1) ∧ X.cell? ⟨x, 2, none⟩ = some (.int .i64 (nb : Int)) from fun X hX => by
        have := HCE.out X hX
        rw [← HS1.out] at this
        exact this.2)
      by_cases hroom : S1 < b + (k : Int)
      · have hE : appR s ps a b n = (0, 5) := by
          unfold appR
          rw [if_neg (by rw [HHB.out]; decide), if_neg (by omega), if_pos (by have := HKD.out; have := HS1.out; omega)]
        have hA : appP s ps a b n R0 = ps := by unfold appP; rw [hE]; rfl
        rw [hE, hA]
        have d1 : decide (S1 < b + (k : Int)) = true := by simpa using hroom
        clear hE hA hroom
        go_enter Try.func36, Try.ntmps36
        go_wp2_with (first
          | (go_at_call 40; (with_reducible refine HHAS.out.mono ?_); rintro e w1 ⟨rfl, rfl⟩)
          | (go_at_call 82; (with_reducible refine (HFR.out _ (Below.refl _ _)).mono ?_); rintro e w2 ⟨ad, c2, rfl, hc2, hC2, hrw, hb⟩; have HB2 := Aside0.mk hb; obtain ⟨z1, z2⟩ := HCE1.out _ hb; clear hb hC2 hc2 hrw)
          | (go_at_call 42; (with_reducible refine (HPG.out _).mono ?_); rintro e w3 ⟨rfl, hb⟩; have HB3 := Aside0.mk (HB2.out.trans (hb.mono HB2.out.size)); obtain ⟨x1, x2⟩ := HCE1.out _ HB3.out; clear hb))
        go_ret2
        exact ⟨rfl, HST.out _ HB3.out⟩
      · have d1 : decide (S1 < b + (k : Int)) = false := by simpa using hroom
        have HRM := Lib.hid hroom
        clear hroom
        go_enter Try.func36, Try.ntmps36
        go_wp2_with (first
          | (go_at_call 40; (with_reducible refine HHAS.out.mono ?_); rintro e w1 ⟨rfl, rfl⟩)
          | (go_at_call 82; (with_reducible refine (HFR.out _ (Below.refl _ _)).mono ?_); rintro e w2 ⟨ad, c2, rfl, hc2, hC2, hrw, hb⟩; have HC2 := Aside0.mk hrw; have HCC := Lib.hid hc2; have HB2 := Aside0.mk hb; obtain ⟨z1, z2⟩ := HCE1.out _ hb; clear hb hC2 hc2 hrw)
          | (go_at_call 42; (with_reducible refine (HPG.out _).mono ?_); rintro e w3 ⟨rfl, hb⟩; have HC3 := Aside0.mk (HC2.out.below hb); have HB3 := Aside0.mk (HB2.out.trans (hb.mono HB2.out.size)); obtain ⟨x1, x2⟩ := HCE1.out _ HB3.out; clear hb))
        clear d1 en y1 y2 z1 z2 x1 x2
        go_loopw [16] (fun v16 wr => ∃ i : Nat, i ≤ k ∧ v16 = .int .i64 (i : Int) ∧ Below w3.heap.size w3 wr ∧ ∀ j : Nat, j < i → findI a (b + (j : Int)) ps < 0) (fun v16 _ => k - (intOf v16).toNat)
        case atStart => exact ⟨0, Nat.zero_le _, rfl, Below.refl _ _, fun j hj => by omega⟩
        case round =>
          obtain ⟨i, hi, rfl, hbi, hpre⟩ := hrel
          have HI := Aside0.mk hbi
          have HPRE := Lib.hid hpre
          have HBW := Aside0.mk (HB3.out.trans (hbi.mono HB3.out.size))
          clear hbi hpre
          by_cases hlt : i < k
          · have i0 : (0 : Int) ≤ (i : Int) := by omega
            have i2 : (i : Int) < (k : Int) := by omega
            have i3 : (i : Int) < 257 := by omega
            have hfd := HFD.out _ HBW.out (b + (i : Int))
            obtain ⟨F, hF⟩ : ∃ F, F = findI a (b + (i : Int)) ps := ⟨_, rfl⟩
            rw [← hF] at hfd
            have HFI := Lib.hid hF
            have HFDI := Lib.hid hfd
            clear hF hfd
            by_cases hu : 0 ≤ F
            · have hE : appR s ps a b n = (0, 7) := by
                unfold appR
                rw [if_neg (by rw [HHB.out]; decide), if_neg (by omega), if_neg (by have := HRM.out; have := HS1.out; have := HKD.out; omega), if_pos (by rw [← HKD.out]; exact anyUsed_true hlt (by rw [← HFI.out]; exact hu))]
              have hA : appP s ps a b n R0 = ps := by unfold appP; rw [hE]; rfl
              have HE := Lib.hid hE
              have HA := Lib.hid hA
              have d2 : decide (0 ≤ F) = true := by simpa using hu
              clear hE hA hu
              go_wp2_with (go_at_call 41; (with_reducible refine HFDI.out.mono ?_); rintro e w4 ⟨rfl, hb⟩; have HB4 := Aside0.mk (HBW.out.trans (hb.mono HBW.out.size)); clear hb)
              go_ret2
              rw [HE.out, HA.out]
              exact ⟨rfl, HST.out _ HB4.out⟩
            · have d2 : decide (0 ≤ F) = false := by simpa using hu
              have HU := Lib.hid hu
              clear hu
              go_wp2_with (go_at_call 41; (with_reducible refine HFDI.out.mono ?_); rintro e w4 ⟨rfl, hb⟩; have HB4 := Aside0.mk (HI.out.trans (hb.mono HI.out.size)); clear hb)
              refine ⟨⟨i + 1, by omega, by go_num, HB4.out, fun j hj => ?_⟩, by simp [intOf]; omega⟩
              rcases Nat.lt_or_ge j i with h2 | h2
              · exact HPRE.out j h2
              · obtain rfl : j = i := by omega
                have := HU.out
                have := HFI.out
                omega
          · obtain rfl : i = k := by omega
            have hE : appR s ps a b n = ((i : Int), 0) := by
              unfold appR
              rw [if_neg (by rw [HHB.out]; decide), if_neg (by omega), if_neg (by have := HRM.out; have := HS1.out; have := HKD.out; omega), if_neg (by rw [← HKD.out, anyUsed_false HPRE.out]; decide), ← HKD.out]
            have hA : appP s ps a b n R0 = wrP s a b (chunkL nb R0) ps := by unfold appP; rw [hE, if_pos rfl, HNB.out]
            have HE := Lib.hid hE
            have HA := Lib.hid hA
            obtain ⟨wa, rfl⟩ : ∃ wa : World, wa = wr := ⟨_, rfl⟩
            have HCA := Aside0.mk (HC3.out.below HI.out)
            have HK0 := Aside0.mk (HG.out.keep HH.out HBW.out)
            clear hE hA hlt
            go_wp2
            go_loopw [17] (fun v17 wr => ∃ j : Nat, j ≤ i ∧ v17 = .int .i64 (j : Int) ∧ G (fun k => K k ∨ (w.heap.size ≤ k ∧ k < wa.heap.size)) (wrP s a b ((chunkL nb R0).take j) ps) wr ∧ Below N0 wa wr ∧ Kept (fun k => K k ∨ (w.heap.size ≤ k ∧ k < wa.heap.size)) wa wr) (fun v17 _ => i - (intOf v17).toNat)
            case atStart => exact ⟨0, Nat.zero_le _, rfl, HK0.out, Below.refl _ _, fun _ _ => rfl⟩
            case round =>
              obtain ⟨j, hj, rfl, hf, hbj, hkj⟩ := hrel
              have HGJ := Aside0.mk hf
              have HBJ := Aside0.mk hbj
              have HKJ := Lib.hid hkj
              clear hf hbj hkj
              by_cases hltj : j < i
              · obtain ⟨r, hr⟩ : ∃ r, (chunkL nb R0)[j]? = some r := ⟨_, List.getElem?_eq_getElem (by have := HCL.out; omega)⟩
                obtain ⟨hp1, hp2⟩ := HROW.out j r hr
                have hrow := HCA.out.step (w' := wr) (fun k h1 h2 => HKJ.out k (.inr ⟨h1, h2⟩))
                obtain ⟨Ax, cx, ex, hcx, hCx⟩ := hrow.reads
                injection ex with ex1 ex2 ex3
                subst ex1 ex3
                have hx2 := HGC.out _ _ _ HGJ.out
                obtain ⟨P, hP⟩ : ∃ P, P = j * nb := ⟨_, rfl⟩
                have hjk : j * nb ≤ 257 * 256 := Nat.mul_le_mul (by omega) hnb1
                have hPi : (j : Int) * (nb : Int) = (P : Int) := by rw [hP]; simp
                have hQi : ((j : Int) + 1) * (nb : Int) = (P : Int) + (nb : Int) := by rw [Int.add_mul, hPi, Int.one_mul]
                have hps : (wrP s a b ((chunkL nb R0).take j) ps).length < 1000000 := by
                  have h1 := wrP_len s a ((chunkL nb R0).take j) b ps
                  have h2 := HDD.out
                  rw [List.length_take] at h1
                  omega
                have hnx : rwP s (wrP s a b ((chunkL nb R0).take j) ps) a (b + (j : Int)) r = wrP s a b ((chunkL nb R0).take (j + 1)) ps := by
                  rw [List.take_add_one, hr]
                  show _ = wrP s a b ((chunkL nb R0).take j ++ [r]) ps
                  rw [wrP_snoc, List.length_take, Nat.min_eq_left (by have := HCL.out; omega)]
                have j0 : (0 : Int) ≤ (j : Int) := by omega
                have j2 : (j : Int) < (i : Int) := by omega
                have j3 : (j : Int) < 257 := by omega
                have p0 : (0 : Int) ≤ (P : Int) := by omega
                have p1 : (P : Int) ≤ 65792 := by omega
                have hcc := HCC.out
                have hPn : P < n + 16 := by rw [hP]; exact hp1
                by_cases hq : n + 16 < P + nb
                · have hmid := Kd.C_mid (lo := P) (hi := n + 16) (c := c2) hCx (by omega) (by have := HRL.out; omega) (by have := HRL.out; omega)
                  have hz : P * kB.sz = P := Nat.mul_one P
                  have hre : (R0.take (n + 16)).drop P = r := by
                    rw [hp2, ← hP, List.take_of_length_le (by have := HRL.out; omega), List.take_of_length_le (by rw [List.length_drop]; have := HRL.out; omega)]
                  rw [hre, if_neg (by omega), hz] at hmid
                  have hrlen : r.length = n + 16 - P := by rw [← hre, List.length_drop, List.length_take]; have := HRL.out; omega
                  have hw := HG.out.write HGJ.out HOK.out a (b + (j : Int)) (some (ad.add P)) (c2 - P) r hmid hps
                  rw [hnx, hrlen] at hw
                  have HW := Lib.hid hw
                  have d3 : decide ((n : Int) + 16 < (P : Int) + (nb : Int)) = true := by simp; omega
                  have d4 : (P : Int) ≤ (n : Int) + 16 := by omega
                  have d5 : (n : Int) + 16 ≤ (c2 : Int) := by omega
                  clear hr hp1 hp2 hrow hCx hcx hP hjk hps hnx hmid hz hre hrlen hw ex2
                  go_wp2_with (go_at_call 61; (with_reducible refine HW.out.mono ?_); rintro e w8 ⟨rfl, hf8, hb8, hk8⟩; have HF8 := Aside0.mk hf8; have HB8 := Aside0.mk hb8; have HK8 := Lib.hid hk8; clear hf8 hb8 hk8)
                  exact ⟨⟨j + 1, by omega, by go_num, HF8.out, HBJ.out.trans HB8.out, fun k hk => (HK8.out k hk).trans (HKJ.out k hk)⟩, by simp [intOf]; omega⟩
                · have hmid := Kd.C_mid (lo := P) (hi := P + nb) (c := c2) hCx (by omega) (by have := HRL.out; omega) (by have := HRL.out; omega)
                  have hz : P * kB.sz = P := Nat.mul_one P
                  have hre : (R0.take (P + nb)).drop P = r := by
                    rw [hp2, ← hP, List.drop_take]
                    congr 1
                    omega
                  rw [hre, if_neg (by omega), hz] at hmid
                  have hrlen : r.length = nb := by rw [← hre, List.length_drop, List.length_take]; have := HRL.out; omega
                  have hw := HG.out.write HGJ.out HOK.out a (b + (j : Int)) (some (ad.add P)) (c2 - P) r hmid hps
                  rw [hnx, hrlen] at hw
                  have HW := Lib.hid hw
                  have d3 : decide ((n : Int) + 16 < (P : Int) + (nb : Int)) = false := by simp; omega
                  have d4 : (P : Int) + (nb : Int) ≤ (n : Int) + 16 := by omega
                  have d5 : (n : Int) + 16 ≤ (c2 : Int) := by omega
                  clear hr hp1 hp2 hrow hCx hcx hP hjk hps hnx hmid hz hre hrlen hw ex2
                  go_wp2_with (go_at_call 61; (with_reducible refine HW.out.mono ?_); rintro e w8 ⟨rfl, hf8, hb8, hk8⟩; have HF8 := Aside0.mk hf8; have HB8 := Aside0.mk hb8; have HK8 := Lib.hid hk8; clear hf8 hb8 hk8)
                  exact ⟨⟨j + 1, by omega, by go_num, HF8.out, HBJ.out.trans HB8.out, fun k hk => (HK8.out k hk).trans (HKJ.out k hk)⟩, by simp [intOf]; omega⟩
              · obtain rfl : j = i := by omega
                have hfin : G K (wrP s a b (chunkL nb R0) ps) wr := by
                  have h1 := HG.out.less HGJ.out (K' := K) (fun k hk => .inl hk)
                  rwa [List.take_of_length_le (by have := HCL.out; omega)] at h1
                have HFIN := Aside0.mk hfin
                clear hfin
                go_wp2
                go_ret2
                rw [HE.out, HA.out]
                refine ⟨rfl, HFIN.out, (HBW.out.mono (HG.out.size HH.out)).trans HBJ.out, fun k hk => (HKJ.out k (.inl hk)).trans (HBW.out.block k (HG.out.lt HH.out k hk))⟩
    · have hE : appR s ps a b n = (0, 10) := by
        unfold appR
        rw [if_neg (by rw [hb]; decide), if_pos (by omega)]
      have hA : appP s ps a b n (rec kind seq l) = ps := by unfold appP; rw [hE]; rfl
      have hfr := fun (X : World) => Frame_no (w := X) (A := A) (c := c) (l := l) (kind := kind) (seq := seq) (by rw [← hn]; omega)
      rw [← hn] at hfr
      have HFR := Lib.hid hfr
      rw [hE, hA]
      clear hb hE hA hG h hn hsh hX hhas hcells hfind hd hk hs hl hC hc hm hfr hab hlen
      go_enter Try.func36, Try.ntmps36
      go_wp2_with (first
        | (go_at_call 40; (with_reducible refine HHAS.out.mono ?_); rintro e w1 ⟨rfl, rfl⟩)
        | (go_at_call 82; (with_reducible refine (HFR.out _).mono ?_); rintro e w2 ⟨rfl, rfl⟩))
      go_ret2
      exact ⟨rfl, HST.out _ (Below.refl _ _)⟩
end
end Go.Proofs.Ytmbiebdcnadhkaa.Fl

/- A slice of records, its cells; Few: walked. No condition. -/
namespace Go.Proofs.Ytmbiebdcnadhkaa.Fl
open Go.RowKit Go.Proofs.YtmbiebdcnadhkaaW.PrintWords Go.Proofs.YtmbiebdcnadhkaaW.PrintMore Go.Maps
set_option linter.unusedSimpArgs false
set_option linter.unusedVariables false
structure RecT where
  seg : Int
  page : Int
  seq : Int
  kind : Int
  l : List Int
/-! ### The pages that an append adds -/
theorem appP_len {s : Int × Int × Int} (hs : ShapeOk s) (ps : List Pg) (a b : Int) (n : Nat) {bs : List Int} (hb : bs.length = n + 16) : (appP s ps a b n bs).length ≤ ps.length + 257 := by
  unfold appP
  split
  · rename_i h
    have h1 := wrP_len s a (chunkL s.2.2.toNat bs) b ps
    have h2 := chunk_len (n := s.2.2.toNat) (by have := nb_pos hs; omega) bs
    have h3 : n ≤ 4096 := by
      unfold appR at h
      by_cases h1 : hasB s a b = false
      · rw [if_pos h1] at h; cases h
      · rw [if_neg h1] at h
        by_cases h2 : 4096 < n
        · rw [if_pos h2] at h; cases h
        · omega
    have h4 := kpg_bd hs h3
    unfold kpg at h4
    rw [hb] at h2
    omega
  · omega
theorem BytP.app {s : Int × Int × Int} (hs : ShapeOk s) {ps : List Pg} (h : BytP ps) (a b : Int) (n : Nat) {bs : List Int} (hb : Byt bs) : BytP (appP s ps a b n bs) := by
  unfold appP
  split
  · exact h.wr a _ b ps (chunk_byt (by have := nb_pos hs; omega) hb)
  · exact h
end Go.Proofs.Ytmbiebdcnadhkaa.Fl

/- SegmentPuts: walked. No condition but what every argument brings. -/
namespace Go.Proofs.Ytmbiebdcnadhkaa.Fl
open Go.RowKit Go.Proofs.YtmbiebdcnadhkaaW.PrintWords Go.Proofs.YtmbiebdcnadhkaaW.PrintMore Go.Maps
set_option linter.unusedSimpArgs false
set_option linter.unusedVariables false
end Go.Proofs.Ytmbiebdcnadhkaa.Fl

/- The document's Raw: walked. -/
namespace Go.Proofs.Ytmbiebdcnadhkaa.Fl
open Go.RowKit Go.Proofs.YtmbiebdcnadhkaaW.PrintWords Go.Proofs.YtmbiebdcnadhkaaW.PrintMore Go.Maps
set_option linter.unusedSimpArgs false
set_option linter.unusedVariables false
section
variable {N0 x : Nat} {s : Int × Int × Int} {ps : List Pg} {w : World} {ok : Nat → Prop}
end
end Go.Proofs.Ytmbiebdcnadhkaa.Fl

/- The document's Entry: walked. -/
namespace Go.Proofs.Ytmbiebdcnadhkaa.Fl
open Go.RowKit Go.Proofs.YtmbiebdcnadhkaaW.PrintWords Go.Proofs.YtmbiebdcnadhkaaW.PrintMore Go.Maps
set_option linter.unusedSimpArgs false
set_option linter.unusedVariables false
section
variable {N0 x : Nat} {s : Int × Int × Int} {ps : List Pg} {w : World} {ok : Nat → Prop}
end
end Go.Proofs.Ytmbiebdcnadhkaa.Fl

/- The document's Scan: walked. -/
namespace Go.Proofs.Ytmbiebdcnadhkaa.Fl
open Go.RowKit Go.Proofs.YtmbiebdcnadhkaaW.PrintWords Go.Proofs.YtmbiebdcnadhkaaW.PrintMore Go.Maps
set_option linter.unusedSimpArgs false
set_option linter.unusedVariables false
section
variable {N0 x : Nat} {s : Int × Int × Int} {ps : List Pg} {w : World} {ok : Nat → Prop}
end
end Go.Proofs.Ytmbiebdcnadhkaa.Fl

/- Clean, Fits of any number, and entries compared: walked. -/
namespace Go.Proofs.Ytmbiebdcnadhkaa.Fl
open Go.RowKit Go.Proofs.YtmbiebdcnadhkaaW.PrintWords Go.Proofs.YtmbiebdcnadhkaaW.PrintMore Go.Maps
set_option linter.unusedSimpArgs false
set_option linter.unusedVariables false
end Go.Proofs.Ytmbiebdcnadhkaa.Fl

/- Entries compared, and Clean: walked. -/
namespace Go.Proofs.Ytmbiebdcnadhkaa.Fl
open Go.RowKit Go.Proofs.YtmbiebdcnadhkaaW.PrintWords Go.Proofs.YtmbiebdcnadhkaaW.PrintMore Go.Maps
set_option linter.unusedSimpArgs false
set_option linter.unusedVariables false
end Go.Proofs.Ytmbiebdcnadhkaa.Fl

/- Slices of entries compared, and Clean: walked. -/
namespace Go.Proofs.Ytmbiebdcnadhkaa.Fl
open Go.RowKit Go.Proofs.YtmbiebdcnadhkaaW.PrintWords Go.Proofs.YtmbiebdcnadhkaaW.PrintMore Go.Maps
set_option linter.unusedSimpArgs false
set_option linter.unusedVariables false
structure ECell (w : World) (g i : Nat) (e : En) (A : Option Addr) (c : Nat) : Prop where
  c0 : w.cell? ⟨g, i * 6, none⟩ = some (.int .i64 e.a)
  c1 : w.cell? ⟨g, i * 6 + 1, none⟩ = some (.int .i64 e.b)
  c2 : w.cell? ⟨g, i * 6 + 2, none⟩ = some (.int .u64 e.seq)
  c3 : w.cell? ⟨g, i * 6 + 3, none⟩ = some (.int .i64 e.pages)
  c4 : w.cell? ⟨g, i * 6 + 4, none⟩ = some (.int .u8 e.kind)
  c5 : w.cell? ⟨g, i * 6 + 5, none⟩ = some (.slice A e.data.length c)
  row : kB.C w A e.data.length e.data
  cap : e.data.length ≤ c
def ERow (w : World) (A : Option Addr) (l : List En) : Prop := ∀ (i : Nat) (e : En), l[i]? = some e → ∃ g A1 c1, A = some ⟨g, 0, none⟩ ∧ ECell w g i e A1 c1
theorem ERow.take {w : World} {A : Option Addr} {l : List En} (h : ERow w A l) (k : Nat) : ERow w A (l.take k) := fun i e hi => by
  rw [List.getElem?_take] at hi
  split at hi
  · exact h i e hi
  · cases hi
section
variable {N0 p : Nat} {D : PD} {w : World} {ok : Nat → Prop}
end
end Go.Proofs.Ytmbiebdcnadhkaa.Fl

/- What the two devices, alike, say of a segment: the same. No program in sight. -/
namespace Go.Proofs.Ytmbiebdcnadhkaa.Fl
open Go.RowKit Go.Proofs.YtmbiebdcnadhkaaW.PrintWords Go.Proofs.YtmbiebdcnadhkaaW.PrintMore Go.Maps
set_option linter.unusedSimpArgs false
set_option linter.unusedVariables false
section
variable {D : PD} {s : Int × Int × Int} {ps : List Pg}
end
end Go.Proofs.Ytmbiebdcnadhkaa.Fl

/- Taken: the document's device that has what a device has: walked. -/
namespace Go.Proofs.Ytmbiebdcnadhkaa.Fl
open Go.RowKit Go.Proofs.YtmbiebdcnadhkaaW.PrintWords Go.Proofs.YtmbiebdcnadhkaaW.PrintMore Go.Maps
set_option linter.unusedSimpArgs false
set_option linter.unusedVariables false
/-- E has the pages of D that v has. -/
structure Snap (D E : PD) (v : Int → Int → Prop) : Prop where
  sh : E.s = D.s
  used : ∀ c d, usedB E c d = true ↔ (usedB D c d = true ∧ v c d)
  got : ∀ c d, usedB E c d = true → gotD E c d = gotD D c d
/-- Taken's device half made. -/
def TInv (w : World) (z : Nat) (D : PD) (n : Nat) (v : Int → Int → Prop) (wr : World) : Prop :=
  ∃ E ps okx, RefIs w.heap.size (z + 1) D.s ps okx wr ∧ Sim E D.s ps ∧ BytP ps ∧ Snap D E v ∧ ps.length ≤ n ∧ (∀ k, okx k → z < k) ∧ wr.heap[z]? = some (.cells #[.int .i64 D.s.1, .int .i64 D.s.2.1, .int .i64 D.s.2.2] 23 (0, 0)) ∧ Below w.heap.size w wr
theorem TInv.cells {w : World} {z : Nat} {D : PD} {n : Nat} {v : Int → Int → Prop} {wr : World} (h : TInv w z D n v wr) : wr.cell? ⟨z, 0, none⟩ = some (.int .i64 D.s.1) ∧ wr.cell? ⟨z, 1, none⟩ = some (.int .i64 D.s.2.1) ∧ wr.cell? ⟨z, 2, none⟩ = some (.int .i64 D.s.2.2) := by
  obtain ⟨E, ps, okx, h1, h2, h3, h4, h5, h6, h7, h8⟩ := h
  exact ⟨bcell h7 0, bcell h7 1, bcell h7 2⟩
section
variable {N0 p : Nat} {D : PD} {w : World} {ok : Nat → Prop}
end
end Go.Proofs.Ytmbiebdcnadhkaa.Fl

/- same and Clash: walked. -/
namespace Go.Proofs.Ytmbiebdcnadhkaa.Fl
open Go.RowKit Go.Proofs.YtmbiebdcnadhkaaW.PrintWords Go.Proofs.YtmbiebdcnadhkaaW.PrintMore Go.Maps
set_option linter.unusedSimpArgs false
set_option linter.unusedVariables false
section
variable {N0 N1 x y : Nat} {s : Int × Int × Int} {ps qs : List Pg} {w : World} {okX okY : Nat → Prop}
end
end Go.Proofs.Ytmbiebdcnadhkaa.Fl

/- Records put one behind the other, and what is read of them behind a crash. No program in sight. -/
namespace Go.Proofs.Ytmbiebdcnadhkaa.Fl
set_option linter.unusedSimpArgs false
set_option linter.unusedVariables false
theorem Chain.le {D : PD} {c sq : Int} : ∀ {rs : List (Int × List Int)} {q e : Int}, Chain D c sq q rs e → q ≤ e
  | [], _, _, h => Int.le_of_eq h
  | r :: rs, q, e, h => by have := Chain.le h.2.2; omega
/-! ### The crash -/
section
variable {D : PD} {P : PlanT}
end
end Go.Proofs.Ytmbiebdcnadhkaa.Fl

/- The records wanted, as a slice of one's own beside a device: the frame of SegmentCrash. -/
namespace Go.Proofs.Ytmbiebdcnadhkaa.Fl
open Go.RowKit Go.Proofs.YtmbiebdcnadhkaaW.PrintWords Go.Proofs.YtmbiebdcnadhkaaW.PrintMore Go.Maps
set_option linter.unusedSimpArgs false
set_option linter.unusedVariables false
abbrev RecV := RecT × Option Addr × Nat
section
variable {N0 p : Nat} {K : Nat → Prop} {D : PD} {w w1 : World} {v v1 : Value} {want : List RecV}
end
end Go.Proofs.Ytmbiebdcnadhkaa.Fl

/- What holds in SegmentCrash's loop. -/
namespace Go.Proofs.Ytmbiebdcnadhkaa.Fl
open Go.RowKit Go.Proofs.YtmbiebdcnadhkaaW.PrintWords Go.Proofs.YtmbiebdcnadhkaaW.PrintMore Go.Maps
set_option linter.unusedSimpArgs false
set_option linter.unusedVariables false
section
variable {w w4 : World} {p : Nat} {s : Int × Int × Int} {k : Nat} {pg : Int} {v12 v13 : Value} {wr w7 : World} {D : PD} {ps : List Pg} {want : List RecV}
end
theorem kpg_zero {s : Int × Int × Int} (hs : ShapeOk s) : kpg s 0 = 1 := by
  obtain ⟨c, hc⟩ := Int.eq_ofNat_of_zero_le (show 0 ≤ s.2.2 by have := hs.c0; omega)
  have h0 := hs.c0
  unfold kpg
  rw [hc] at h0 ⊢
  simp only [Int.toNat_natCast]
  rw [show 0 + 16 + c - 1 = c + 15 by omega, Nat.add_div_left _ (by omega), Nat.div_eq_of_lt (by omega)]
end Go.Proofs.Ytmbiebdcnadhkaa.Fl

/- The driver's log: its cells; its small questions walked. -/
namespace Go.Proofs.Ytmbiebdcnadhkaa.Fl
open Go.RowKit Go.Proofs.YtmbiebdcnadhkaaW.PrintWords Go.Proofs.YtmbiebdcnadhkaaW.PrintMore Go.Maps
set_option linter.unusedSimpArgs false
set_option linter.unusedVariables false
/-- A log: its device, the states of 16 segments, the opened one, its next page, the next number. -/
structure LG where
  st : List Int
  op : Int
  pg : Int
  nx : Int
abbrev TL : TypeId := 129
def logC (p : Nat) (g : LG) : List Value := .pointer (some ⟨p, 0, none⟩) :: (g.st.map (fun x => Value.int .i64 x) ++ [.int .i64 g.op, .int .i64 g.pg, .int .u64 g.nx])
structure LogIs (q p : Nat) (g : LG) (w : World) : Prop where
  len : g.st.length = 16
  blk : w.heap[q]? = some (.cells (logC p g).toArray TL (0, 0))
section
variable {q p : Nat} {g : LG} {w w' : World}
theorem LogIs.below (h : LogIs q p g w) (hb : Below w.heap.size w w') : LogIs q p g w' := ⟨h.len, (hb.block _ (blt h.blk)).trans h.blk⟩
theorem LogIs.c0 (h : LogIs q p g w) : w.cell? ⟨q, 0, none⟩ = some (.pointer (some ⟨p, 0, none⟩)) := by rw [bcell h.blk]; rfl
theorem LogIs.cst (h : LogIs q p g w) {i : Nat} {x : Int} (hx : g.st[i]? = some x) : w.cell? ⟨q, 1 + i, none⟩ = some (.int .i64 x) := by
  rw [Nat.add_comm 1 i]
  have hl := (List.getElem?_eq_some_iff.1 hx).1
  rw [bcell h.blk]
  simp only [logC, List.getElem?_toArray, List.getElem?_cons_succ]
  rw [List.getElem?_append_left (by simpa using hl), List.getElem?_map, hx]
  rfl
theorem LogIs.c17 (h : LogIs q p g w) : w.cell? ⟨q, 17, none⟩ = some (.int .i64 g.op) := by
  rw [bcell h.blk]
  simp only [logC, List.getElem?_toArray, List.getElem?_cons_succ]
  rw [List.getElem?_append_right (by simp [h.len])]
  simp [h.len]
theorem LogIs.c18 (h : LogIs q p g w) : w.cell? ⟨q, 18, none⟩ = some (.int .i64 g.pg) := by
  rw [bcell h.blk]
  simp only [logC, List.getElem?_toArray, List.getElem?_cons_succ]
  rw [List.getElem?_append_right (by simp [h.len])]
  simp [h.len]
theorem LogIs.c19 (h : LogIs q p g w) : w.cell? ⟨q, 19, none⟩ = some (.int .u64 g.nx) := by
  rw [bcell h.blk]
  simp only [logC, List.getElem?_toArray, List.getElem?_cons_succ]
  rw [List.getElem?_append_right (by simp [h.len])]
  simp [h.len]
set_option maxHeartbeats 1000000 in
set_option maxRecDepth 100000 in
theorem Lok_any (h : LogIs q p g w) : Calls Try.prog 75 #[.pointer (some ⟨q, 0, none⟩)] w fun e w' => e = .returned (.bool true) ∧ w = w' := by
  have k0 := h.c0
  clear h
  go_enter Try.func75, Try.ntmps75
  go_wp2
  go_ret
  exact ⟨rfl, rfl⟩
set_option maxHeartbeats 1000000 in
set_option maxRecDepth 100000 in
theorem LDevice_any (h : LogIs q p g w) : Calls Try.prog 29 #[.pointer (some ⟨q, 0, none⟩)] w fun e w' => e = .returned (.pointer (some ⟨p, 0, none⟩)) ∧ w = w' := by
  have k0 := h.c0
  have HO := Lib.hid (Lok_any h)
  clear h
  go_enter Try.func29, Try.ntmps29
  go_wp2_with (go_at_call 75; (with_reducible refine HO.out.mono ?_); rintro e w1 ⟨rfl, rfl⟩)
  go_ret
  exact ⟨rfl, rfl⟩
set_option maxHeartbeats 1000000 in
set_option maxRecDepth 100000 in
theorem LNext_any (h : LogIs q p g w) : Calls Try.prog 33 #[.pointer (some ⟨q, 0, none⟩)] w fun e w' => e = .returned (.int .u64 g.nx) ∧ w = w' := by
  have k0 := h.c19
  have HO := Lib.hid (Lok_any h)
  clear h
  go_enter Try.func33, Try.ntmps33
  go_wp2_with (go_at_call 75; (with_reducible refine HO.out.mono ?_); rintro e w1 ⟨rfl, rfl⟩)
  go_ret
  exact ⟨rfl, rfl⟩
end
end Go.Proofs.Ytmbiebdcnadhkaa.Fl

/- The driver's log: Open, has, State, Count walked. -/
namespace Go.Proofs.Ytmbiebdcnadhkaa.Fl
open Go.RowKit Go.Proofs.YtmbiebdcnadhkaaW.PrintWords Go.Proofs.YtmbiebdcnadhkaaW.PrintMore Go.Maps
set_option linter.unusedSimpArgs false
set_option linter.unusedVariables false
def openV (g : LG) : Int × Int := if g.op < 0 then (-1, 0) else (g.op, g.pg)
section
variable {q p N0 : Nat} {g : LG} {w w' : World} {D : PD} {ok : Nat → Prop}
set_option maxHeartbeats 1000000 in
set_option maxRecDepth 100000 in
theorem LOpen_any (h : LogIs q p g w) : Calls Try.prog 27 #[.pointer (some ⟨q, 0, none⟩)] w fun e w' => e = .returned (.tuple #[.int .i64 (openV g).1, .int .i64 (openV g).2]) ∧ Below w.heap.size w w' := by
  have k0 := h.c17
  have k1 := h.c18
  have HO := Lib.hid (Lok_any h)
  clear h
  by_cases h0 : g.op < 0
  · have hv : openV g = (-1, 0) := if_pos h0
    have e1 : decide (g.op < 0) = true := decide_eq_true h0
    rw [hv]
    clear hv
    go_enter Try.func27, Try.ntmps27
    go_wp2_with (go_at_call 75; (with_reducible refine HO.out.mono ?_); rintro e w1 ⟨rfl, rfl⟩)
    go_ret2
    exact ⟨rfl, Below.refl _ _⟩
  · have hv : openV g = (g.op, g.pg) := if_neg h0
    have e1 : decide (g.op < 0) = false := decide_eq_false h0
    rw [hv]
    clear hv
    go_enter Try.func27, Try.ntmps27
    go_wp2_with (go_at_call 75; (with_reducible refine HO.out.mono ?_); rintro e w1 ⟨rfl, rfl⟩)
    go_region_held3 (fun w' => w'.cell? ⟨q, 17, none⟩ = some (.int .i64 g.op) ∧ w'.cell? ⟨q, 18, none⟩ = some (.int .i64 g.pg)) (go_keep) (fail)
    go_wp2
    go_ret2
    exact ⟨rfl, below_drew (Below.refl _ _)⟩
set_option maxHeartbeats 1000000 in
set_option maxRecDepth 100000 in
theorem Lhas_any (h : LogIs q p g w) (hD : DevIs N0 p D ok w) (a : Int) : Calls Try.prog 79 #[.pointer (some ⟨q, 0, none⟩), .int .i64 a] w fun e w' => e = .returned (.bool (fitsB a 0 (D.s.1 - 1))) ∧ Below w.heap.size w w' := by
  have hs : ShapeOk D.s := by
    obtain ⟨m, v, es, ck, hD⟩ := hD
    exact hD.shape
  have k0 := h.c0
  have HO := Lib.hid (Lok_any h)
  have HS := Lib.hid (Shape_any hD)
  have rs := fun (X : World) => run_shape1 X D.s.1 D.s.2.1 D.s.2.2
  have a0 := hs.a0
  have a1 := hs.a1
  have hw : IntKind.i64.wrap (D.s.1 - 1) = D.s.1 - 1 := IntWalk.i64_in _ (by omega)
  clear h hs hD
  go_enter Try.func79, Try.ntmps79
  go_wp2_with (first
    | (go_at_call 75; (with_reducible refine HO.out.mono ?_); rintro e w1 ⟨rfl, rfl⟩)
    | (go_at_call 56; (with_reducible refine HS.out.mono ?_); rintro e w2 ⟨rfl, hb⟩; have HB := Aside0.mk hb; clear hb)
    | (go_at_call 59; (with_reducible refine (Fits_any _ _ _ _).mono ?_); rintro e w3 ⟨rfl, rfl⟩))
  go_ret
  exact ⟨rfl, HB.out⟩
def stateV (s : Int × Int × Int) (g : LG) (a : Int) : Int := if fitsB a 0 (s.1 - 1) = true then g.st.getD a.toNat 0 else 2
set_option maxHeartbeats 1000000 in
set_option maxRecDepth 100000 in
theorem LState_any (h : LogIs q p g w) (hD : DevIs N0 p D ok w) (a : Int) : Calls Try.prog 30 #[.pointer (some ⟨q, 0, none⟩), .int .i64 a] w fun e w' => e = .returned (.int .i64 (stateV D.s g a)) ∧ Below w.heap.size w w' := by
  have hs : ShapeOk D.s := by
    obtain ⟨m, v, es, ck, hD⟩ := hD
    exact hD.shape
  have hh := Lhas_any h hD a
  have a1 := hs.a1
  unfold stateV
  cases hf : fitsB a 0 (D.s.1 - 1) with
  | false =>
    rw [hf] at hh
    have HH := Lib.hid hh
    clear h hs hD hh hf
    rw [if_neg (by decide)]
    go_enter Try.func30, Try.ntmps30
    go_wp2_with (go_at_call 79; (with_reducible refine HH.out.mono ?_); rintro e w1 ⟨rfl, hb⟩; have HB := Aside0.mk hb; clear hb)
    go_ret
    exact ⟨rfl, HB.out⟩
  | true =>
    have hfa := hf
    unfold fitsB at hfa
    rw [decide_eq_true_iff] at hfa
    obtain ⟨n, rfl⟩ := Int.eq_ofNat_of_zero_le hfa.1
    have hlen := h.len
    obtain ⟨x, hx⟩ : ∃ x, g.st[n]? = some x := ⟨_, List.getElem?_eq_getElem (by omega)⟩
    have hxv : g.st.getD (n : Int).toNat 0 = x := by rw [Int.toNat_natCast, List.getD_eq_getElem?_getD, hx]; rfl
    have hc := fun (X : World) (hb : Below w.heap.size w X) => (h.below hb).cst hx
    rw [hf] at hh
    have HH := Lib.hid hh
    have HC := Lib.hid hc
    have n0 : (0 : Int) ≤ (n : Int) := by omega
    have n1 : (n : Int) < 16 := by omega
    rw [if_pos rfl, hxv]
    clear h hs hD hh hf hc hx hxv hfa hlen
    go_enter Try.func30, Try.ntmps30
    go_wp2_with (go_at_call 79; (with_reducible refine HH.out.mono ?_); rintro e w1 ⟨rfl, hb⟩; have kc := HC.out _ hb; have HB := Aside0.mk hb; clear hb)
    go_ret
    exact ⟨rfl, HB.out⟩
end
end Go.Proofs.Ytmbiebdcnadhkaa.Fl

/- The driver's log: Count, Seal walked. -/
namespace Go.Proofs.Ytmbiebdcnadhkaa.Fl
open Go.RowKit Go.Proofs.YtmbiebdcnadhkaaW.PrintWords Go.Proofs.YtmbiebdcnadhkaaW.PrintMore Go.Maps
set_option linter.unusedSimpArgs false
set_option linter.unusedVariables false
/-- How many of a list are so. -/
def cnt (a : Int) (l : List Int) : Nat := (l.filter (fun x => x == a)).length
theorem cnt_le (a : Int) (l : List Int) : cnt a l ≤ l.length := List.length_filter_le _ _
theorem cnt_take {a : Int} {l : List Int} {k : Nat} {x : Int} (h : l[k]? = some x) : cnt a (l.take (k + 1)) = cnt a (l.take k) + if x = a then 1 else 0 := by
  unfold cnt
  rw [List.take_add_one, h, Option.toList_some, List.filter_append, List.length_append]
  by_cases hx : x = a
  · simp [hx]
  · simp [hx]
section
variable {q p N0 : Nat} {g : LG} {w w' : World} {D : PD} {ok : Nat → Prop}
set_option maxHeartbeats 1000000 in
set_option maxRecDepth 100000 in
theorem LCount_any (h : LogIs q p g w) (hD : DevIs N0 p D ok w) (a : Int) : Calls Try.prog 31 #[.pointer (some ⟨q, 0, none⟩), .int .i64 a] w fun e w' => e = .returned (.int .i64 (cnt a (g.st.take D.s.1.toNat) : Int)) ∧ Below w.heap.size w w' := by
  have hs : ShapeOk D.s := by
    obtain ⟨m, v, es, ck, hD⟩ := hD
    exact hD.shape
  have a0 := hs.a0
  have a1 := hs.a1
  obtain ⟨n, hn⟩ := Int.eq_ofNat_of_zero_le (show 0 ≤ D.s.1 by omega)
  have hh := fun (X : World) (hb : Below w.heap.size w X) (y : Int) => Lhas_any (h.below hb) (hD.below hb) y
  have hc := fun (X : World) (hb : Below w.heap.size w X) (i : Nat) (x : Int) (hx : g.st[i]? = some x) => (h.below hb).cst hx
  have hlen := h.len
  rw [hn] at hh a0 a1 ⊢
  rw [Int.toNat_natCast]
  have HH := Lib.hid hh
  have HC := Lib.hid hc
  clear hh hc h hD hs hn
  go_enter Try.func31, Try.ntmps31
  go_wp2
  go_loopw [5, 6] (fun v5 v6 wr => ∃ k : Nat, k ≤ n ∧ v6 = .int .i64 (k : Int) ∧ v5 = .int .i64 (cnt a (g.st.take k) : Int) ∧ Below w.heap.size w wr) (fun _ v6 _ => n - (intOf v6).toNat)
  case atStart => exact ⟨0, Nat.zero_le _, rfl, rfl, Below.refl _ _⟩
  case round =>
    obtain ⟨k, hk, rfl, rfl, hb⟩ := hrel
    have HB := Aside0.mk hb
    clear hb
    have hcl := cnt_le a (g.st.take k)
    rw [List.length_take] at hcl
    by_cases hlt : k < n
    · have hf : fitsB (k : Int) 0 ((n : Int) - 1) = true := by unfold fitsB; rw [decide_eq_true_iff]; omega
      have HF := Lib.hid hf
      obtain ⟨x, hx⟩ : ∃ x, g.st[k]? = some x := ⟨_, List.getElem?_eq_getElem (by omega)⟩
      have hct := cnt_take (a := a) hx
      have HX := Lib.hid hx
      have HCT := Lib.hid hct
      have k0 : (0 : Int) ≤ (k : Int) := by omega
      have k1 : (k : Int) < 16 := by omega
      obtain ⟨cv, hcv⟩ : ∃ cv, cv = cnt a (g.st.take k) := ⟨_, rfl⟩
      rw [← hcv] at hcl ⊢
      have HCV := Lib.hid hcv
      clear hf hx hct hcv
      by_cases hxa : x = a
      · have e1 : (x == a) = true := by simpa using hxa
        have hxa2 := Lib.hid hxa
        clear hxa
        go_wp2_with (go_at_call 79; (with_reducible refine (HH.out _ HB.out _).mono ?_); rw [HF.out]; rintro e w1 ⟨rfl, hb⟩; have kc := HC.out _ (HB.out.trans (hb.mono HB.out.size)) k x HX.out; have HB1 := Aside0.mk (HB.out.trans (hb.mono HB.out.size)); clear hb)
        exact ⟨⟨k + 1, by omega, by go_num, by rw [HCT.out, if_pos hxa2.out, HCV.out]; push_cast; rfl, HB1.out⟩, by simp [intOf]; omega⟩
      · have e1 : (x == a) = false := by simpa using hxa
        have hxa2 := Lib.hid hxa
        clear hxa
        go_wp2_with (go_at_call 79; (with_reducible refine (HH.out _ HB.out _).mono ?_); rw [HF.out]; rintro e w1 ⟨rfl, hb⟩; have kc := HC.out _ (HB.out.trans (hb.mono HB.out.size)) k x HX.out; have HB1 := Aside0.mk (HB.out.trans (hb.mono HB.out.size)); clear hb)
        exact ⟨⟨k + 1, by omega, by go_num, by rw [HCT.out, if_neg hxa2.out, HCV.out]; rfl, HB1.out⟩, by simp [intOf]; omega⟩
    · obtain rfl : k = n := by omega
      have hf : fitsB (k : Int) 0 ((k : Int) - 1) = false := by unfold fitsB; rw [decide_eq_false_iff_not]; omega
      have HF := Lib.hid hf
      clear hf
      go_wp2_with (go_at_call 79; (with_reducible refine (HH.out _ HB.out _).mono ?_); rw [HF.out]; rintro e w1 ⟨rfl, hb⟩; have HB1 := Aside0.mk (HB.out.trans (hb.mono HB.out.size)); clear hb)
      go_ret
      exact ⟨rfl, HB1.out⟩
end
end Go.Proofs.Ytmbiebdcnadhkaa.Fl

