/- The parts of this proof, one after the other (wip/tools/packall.py, shake.py). -/
import Derived.Test.YtmbiebdcnadhkaaGreatPkScanReadsF
import Derived.ProofKit
import Derived.Lib.SmallJoins
import Derived.Test.YtmbiebdcnadhkaaGreatPkScanReadsB
set_option linter.unusedVariables false
set_option linter.unusedSimpArgs false
namespace Go.Proofs.YtmbiebdcnadhkaaGreat.Fl
open Go.RowKit Go.Proofs.YtmbiebdcnadhkaaGreatW.PrintWords Go.Proofs.YtmbiebdcnadhkaaGreatW.PrintMore Go.Maps
def openV (g : LG) : Int × Int := if g.op < 0 then (-1, 0) else (g.op, g.pg)
section
variable {q p N0 : Nat} {g : LG} {w w' : World} {D : PD} {ok : Nat → Prop}
set_option maxHeartbeats 1000000 in
set_option maxRecDepth 100000 in
theorem LOpen_any (h : LogIs q p g w) : Calls Tryz.prog 10 #[.pointer (some ⟨q, 0, none⟩)] w fun e w' => e = .returned (.tuple #[.int .i64 (openV g).1, .int .i64 (openV g).2]) ∧ Below w.heap.size w w' := by
 have k0 := h.c17
 have k1 := h.c18
 have HO := Lib.hid (Lok_any h)
 clear h
 by_cases h0 : g.op < 0
 ·have hv : openV g = (-1, 0) := if_pos h0
  have e1 : decide (g.op < 0) = true := decide_eq_true h0
  rw [hv]
  clear hv
  go_enter Tryz.func10, Tryz.ntmps10
  go_wp2_with (go_at_call 46; (with_reducible refine HO.out.mono ?_); rintro e w1 ⟨rfl, rfl⟩)
  go_ret2
  exact ⟨rfl, Below.refl _ _⟩
 ·have hv : openV g = (g.op, g.pg) := if_neg h0
  have e1 : decide (g.op < 0) = false := decide_eq_false h0
  rw [hv]
  clear hv
  go_enter Tryz.func10, Tryz.ntmps10
  go_wp2_with (go_at_call 46; (with_reducible refine HO.out.mono ?_); rintro e w1 ⟨rfl, rfl⟩)
  go_region_held3 (fun w' => w'.cell? ⟨q, 17, none⟩ = some (.int .i64 g.op) ∧ w'.cell? ⟨q, 18, none⟩ = some (.int .i64 g.pg)) (go_keep) (fail)
  go_wp2
  go_ret2
  exact ⟨rfl, below_drew (Below.refl _ _)⟩
set_option maxHeartbeats 1000000 in
set_option maxRecDepth 100000 in
theorem Lhas_any (h : LogIs q p g w) (hD : DevIs N0 p D ok w) (a : Int) : Calls Tryz.prog 49 #[.pointer (some ⟨q, 0, none⟩), .int .i64 a] w fun e w' => e = .returned (.bool (fitsB a 0 (D.s.1 - 1))) ∧ Below w.heap.size w w' := by
 have hs : ShapeOk D.s := by
  obtain ⟨m, v, es, ck, hD⟩ := hD
  exact hD.shape
 have k0 := h.c0
 have HO := Lib.hid (Lok_any h)
 have HS := Lib.hid (Shape_any hD)
 have rs := fun (X : World) => run_shape1 X D.s.1 D.s.2.1 D.s.2.2
 have a0 := hs.a0
 have a1 := hs.a1
 have hw : IntKind.i64.wrap (D.s.1 - 1) = D.s.1 - 1 := IntWalk.i64_in _ (by omega)
 clear h hs hD
 go_enter Tryz.func49, Tryz.ntmps49
 go_wp2_with (first
  | (go_at_call 46; (with_reducible refine HO.out.mono ?_); rintro e w1 ⟨rfl, rfl⟩)
  | (go_at_call 58; (with_reducible refine HS.out.mono ?_); rintro e w2 ⟨rfl, hb⟩; have HB := Aside0.mk hb; clear hb)
  | (go_at_call 91; (with_reducible refine (Fits_any _ _ _ _).mono ?_); rintro e w3 ⟨rfl, rfl⟩))
 go_ret
 exact ⟨rfl, HB.out⟩
end
end Go.Proofs.YtmbiebdcnadhkaaGreat.Fl
namespace Go.Proofs.YtmbiebdcnadhkaaGreat.Fl
open Go.RowKit Go.Proofs.YtmbiebdcnadhkaaGreatW.PrintWords Go.Proofs.YtmbiebdcnadhkaaGreatW.PrintMore Go.Maps
def cnt (a : Int) (l : List Int) : Nat := (l.filter (fun x => x == a)).length
theorem cnt_le (a : Int) (l : List Int) : cnt a l ≤ l.length := List.length_filter_le _ _
theorem cnt_take {a : Int} {l : List Int} {k : Nat} {x : Int} (h : l[k]? = some x) : cnt a (l.take (k + 1)) = cnt a (l.take k) + if x = a then 1 else 0 := by
 unfold cnt
 rw [List.take_add_one, h, Option.toList_some, List.filter_append, List.length_append]
 by_cases hx : x = a
 ·simp [hx]
 ·simp [hx]
section
variable {q p N0 : Nat} {g : LG} {w w' : World} {D : PD} {ok : Nat → Prop}
set_option maxHeartbeats 1000000 in
set_option maxRecDepth 100000 in
theorem LCount_any (h : LogIs q p g w) (hD : DevIs N0 p D ok w) (a : Int) : Calls Tryz.prog 15 #[.pointer (some ⟨q, 0, none⟩), .int .i64 a] w fun e w' => e = .returned (.int .i64 (cnt a (g.st.take D.s.1.toNat) : Int)) ∧ Below w.heap.size w w' := by
 have hs : ShapeOk D.s := by
  obtain ⟨m, v, es, ck, hD⟩ := hD
  exact hD.shape
 have a0 := hs.a0
 have a1 := hs.a1
 obtain ⟨n, hn⟩ := Int.eq_ofNat_of_zero_le (show 0 ≤ D.s.1 by omega)
 have hh := fun (X : World) (hb : Below w.heap.size w X) (y : Int) => Lhas_any (h.below hb) (hD.below hb) y
 have hc := fun (X : World) (hb : Below w.heap.size w X) (i : Nat) (x : Int) (hx : g.st[i]? = some x) => (h.below hb).cst hx
 have hlen := h.len
 rw [hn] at hh a0 a1 ⊢
 rw [Int.toNat_natCast]
 have HH := Lib.hid hh
 have HC := Lib.hid hc
 clear hh hc h hD hs hn
 go_enter Tryz.func15, Tryz.ntmps15
 go_wp2
 go_loopw [5, 6] (fun v5 v6 wr => ∃ k : Nat, k ≤ n ∧ v6 = .int .i64 (k : Int) ∧ v5 = .int .i64 (cnt a (g.st.take k) : Int) ∧ Below w.heap.size w wr) (fun _ v6 _ => n - (intOf v6).toNat)
 case atStart => exact ⟨0, Nat.zero_le _, rfl, rfl, Below.refl _ _⟩
 case round =>
  obtain ⟨k, hk, rfl, rfl, hb⟩ := hrel
  have HB := Aside0.mk hb
  clear hb
  have hcl := cnt_le a (g.st.take k)
  rw [List.length_take] at hcl
  by_cases hlt : k < n
  ·have hf : fitsB (k : Int) 0 ((n : Int) - 1) = true := by unfold fitsB; rw [decide_eq_true_iff]; omega
   have HF := Lib.hid hf
   obtain ⟨x, hx⟩ : ∃ x, g.st[k]? = some x := ⟨_, List.getElem?_eq_getElem (by omega)⟩
   have hct := cnt_take (a := a) hx
   have HX := Lib.hid hx
   have HCT := Lib.hid hct
   have k0 : (0 : Int) ≤ (k : Int) := by omega
   have k1 : (k : Int) < 16 := by omega
   obtain ⟨cv, hcv⟩ : ∃ cv, cv = cnt a (g.st.take k) := ⟨_, rfl⟩
   rw [← hcv] at hcl ⊢
   have HCV := Lib.hid hcv
   clear hf hx hct hcv
   by_cases hxa : x = a
   ·have e1 : (x == a) = true := by simpa using hxa
    have hxa2 := Lib.hid hxa
    clear hxa
    go_wp2_with (go_at_call 49; (with_reducible refine (HH.out _ HB.out _).mono ?_); rw [HF.out]; rintro e w1 ⟨rfl, hb⟩; have kc := HC.out _ (HB.out.trans (hb.mono HB.out.size)) k x HX.out; have HB1 := Aside0.mk (HB.out.trans (hb.mono HB.out.size)); clear hb)
    exact ⟨⟨k + 1, by omega, by go_num, by rw [HCT.out, if_pos hxa2.out, HCV.out]; push_cast; rfl, HB1.out⟩, by simp [intOf]; omega⟩
   ·have e1 : (x == a) = false := by simpa using hxa
    have hxa2 := Lib.hid hxa
    clear hxa
    go_wp2_with (go_at_call 49; (with_reducible refine (HH.out _ HB.out _).mono ?_); rw [HF.out]; rintro e w1 ⟨rfl, hb⟩; have kc := HC.out _ (HB.out.trans (hb.mono HB.out.size)) k x HX.out; have HB1 := Aside0.mk (HB.out.trans (hb.mono HB.out.size)); clear hb)
    exact ⟨⟨k + 1, by omega, by go_num, by rw [HCT.out, if_neg hxa2.out, HCV.out]; rfl, HB1.out⟩, by simp [intOf]; omega⟩
  ·obtain rfl : k = n := by omega
   have hf : fitsB (k : Int) 0 ((k : Int) - 1) = false := by unfold fitsB; rw [decide_eq_false_iff_not]; omega
   have HF := Lib.hid hf
   clear hf
   go_wp2_with (go_at_call 49; (with_reducible refine (HH.out _ HB.out _).mono ?_); rw [HF.out]; rintro e w1 ⟨rfl, hb⟩; have HB1 := Aside0.mk (HB.out.trans (hb.mono HB.out.size)); clear hb)
   go_ret
   exact ⟨rfl, HB1.out⟩
end
end Go.Proofs.YtmbiebdcnadhkaaGreat.Fl
namespace Go.Proofs.YtmbiebdcnadhkaaGreat.Fl
open Go.RowKit Go.Proofs.YtmbiebdcnadhkaaGreatW.PrintWords Go.Proofs.YtmbiebdcnadhkaaGreatW.PrintMore Go.Maps
section
variable {q p N0 : Nat} {g : LG} {w w' : World} {D : PD} {ok : Nat → Prop}
theorem LogIs.frozen (h : LogIs q p g w) (j : Nat) : w.frozen? ⟨q, j, none⟩ = false := bfrozen h.blk _
theorem setCell_blk {o : Array Value} {T : TypeId} (h : w.heap[q]? = some (.cells o T (0, 0))) (j : Nat) (v : Value) : (w.setCell ⟨q, j, none⟩ v).heap[q]? = some (.cells (o.setIfInBounds j v) T (0, 0)) := by
 simp [World.setCell, Array.getElem?_modify, h]
theorem LogIs.setSt (h : LogIs q p g w) {i : Nat} (hi : i < 16) (x : Int) : LogIs q p { g with st := g.st.set i x } (w.setCell ⟨q, 1 + i, none⟩ (.int .i64 x)) := by
 refine ⟨by simp [h.len], (setCell_blk h.blk _ _).trans ?_⟩
 congr 2
 simp only [List.setIfInBounds_toArray]
 congr 1
 rw [Nat.add_comm 1 i]
 simp only [logC, List.set_cons_succ]
 rw [List.set_append_left _ _ (by simp [h.len]; omega), ← List.map_set]
theorem LogIs.setOp (h : LogIs q p g w) (x : Int) : LogIs q p { g with op := x } (w.setCell ⟨q, 17, none⟩ (.int .i64 x)) := by
 refine ⟨h.len, (setCell_blk h.blk _ _).trans ?_⟩
 congr 2
 simp only [List.setIfInBounds_toArray]
 congr 1
 simp only [logC, List.set_cons_succ]
 rw [List.set_append_right _ _ (by simp [h.len])]
 simp [h.len]
theorem LogIs.setPg (h : LogIs q p g w) (x : Int) : LogIs q p { g with pg := x } (w.setCell ⟨q, 18, none⟩ (.int .i64 x)) := by
 refine ⟨h.len, (setCell_blk h.blk _ _).trans ?_⟩
 congr 2
 simp only [List.setIfInBounds_toArray]
 congr 1
 simp only [logC, List.set_cons_succ]
 rw [List.set_append_right _ _ (by simp [h.len])]
 simp [h.len]
theorem LogIs.setNx (h : LogIs q p g w) (x : Int) : LogIs q p { g with nx := x } (w.setCell ⟨q, 19, none⟩ (.int .u64 x)) := by
 refine ⟨h.len, (setCell_blk h.blk _ _).trans ?_⟩
 congr 2
 simp only [List.setIfInBounds_toArray]
 congr 1
 simp only [logC, List.set_cons_succ]
 rw [List.set_append_right _ _ (by simp [h.len])]
 simp [h.len]
def sealG (g : LG) : LG := if g.op < 0 then g else { st := g.st.set g.op.toNat 2, op := -1, pg := 0, nx := g.nx }
theorem seal_post {w3 : World} (h : LogIs q p g w') {n : Nat} (hn : n < 16) (hop : g.op = (n : Int)) (hu : Upd (fun k => k = q) w w') (he : w3 = ((w'.setCell ⟨q, 1 + n, none⟩ (.int .i64 2)).setCell ⟨q, 17, none⟩ (.int .i64 (-1))).setCell ⟨q, 18, none⟩ (.int .i64 0)) :
  LogIs q p (sealG g) w3 ∧ Upd (fun k => k = q) w w3 := by
 subst he
 have h3 := ((h.setSt hn 2).setOp (-1)).setPg 0
 have hs : sealG g = { st := g.st.set n 2, op := -1, pg := 0, nx := g.nx } := by
  unfold sealG
  rw [if_neg (by omega), hop, Int.toNat_natCast]
 rw [hs]
 refine ⟨h3, hu.trans (((Upd.setCell w' (p := ⟨q, 1 + n, none⟩) (S := fun k => k = q) rfl (.int .i64 2)).trans (Upd.setCell _ (p := ⟨q, 17, none⟩) (S := fun k => k = q) rfl (.int .i64 (-1))) (fun k hk _ => hk)).trans (Upd.setCell _ (p := ⟨q, 18, none⟩) (S := fun k => k = q) rfl (.int .i64 0)) (fun k hk _ => hk)) (fun k hk _ => hk)⟩
set_option maxHeartbeats 1000000 in
set_option maxRecDepth 100000 in
theorem LSeal_any (h : LogIs q p g w) (ho : g.op < 16) : Calls Tryz.prog 11 #[.pointer (some ⟨q, 0, none⟩)] w fun e w' => e = .returned (.tuple #[]) ∧ LogIs q p (sealG g) w' ∧ Upd (fun k => k = q) w w' := by
 have hop := LOpen_any h
 by_cases h0 : g.op < 0
 ·have hv : openV g = (-1, 0) := if_pos h0
  have hs : sealG g = g := if_pos h0
  rw [hv] at hop
  rw [hs]
  have HO := Lib.hid hop
  have HL := Aside0.mk h
  clear h hop hv hs
  go_enter Tryz.func11, Tryz.ntmps11
  go_wp2_with (go_at_call 10; (with_reducible refine HO.out.mono ?_); rintro e w1 ⟨rfl, hb⟩; have HB := Aside0.mk hb; clear hb)
  go_end0
  exact ⟨rfl, HL.out.below HB.out, Upd.ofBelow HB.out _⟩
 ·have hv : openV g = (g.op, g.pg) := if_neg h0
  obtain ⟨n, hn⟩ := Int.eq_ofNat_of_zero_le (show 0 ≤ g.op by omega)
  have hn16 : n < 16 := by omega
  rw [hv, hn] at hop
  simp only at hop
  have hlen := h.len
  obtain ⟨x, hx⟩ : ∃ x, g.st[n]? = some x := ⟨_, List.getElem?_eq_getElem (by omega)⟩
  have hc := fun (X : World) (hb : Below w.heap.size w X) => (show X.cell? ⟨q, 1 + n, none⟩ = some (.int .i64 x) ∧ X.cell? ⟨q, 17, none⟩ = some (.int .i64 g.op) ∧ X.cell? ⟨q, 18, none⟩ = some (.int .i64 g.pg) ∧ X.frozen? ⟨q, 1 + n, none⟩ = false ∧ X.frozen? ⟨q, 17, none⟩ = false ∧ X.frozen? ⟨q, 18, none⟩ = false from ⟨(h.below hb).cst hx, (h.below hb).c17, (h.below hb).c18, (h.below hb).frozen _, (h.below hb).frozen _, (h.below hb).frozen _⟩)
  have HO := Lib.hid hop
  have HL := Aside0.mk h
  have HC := Lib.hid hc
  have HOP := Lib.hid hn
  have n0 : (0 : Int) ≤ (n : Int) := by omega
  have n1 : (n : Int) < 16 := by omega
  have n2 : ¬ 1 + n = 17 := by omega
  have n3 : ¬ 1 + n = 18 := by omega
  have n4 : ¬ 17 = 1 + n := by omega
  have n5 : ¬ 18 = 1 + n := by omega
  clear h hop hv hn hlen hx hc h0 ho
  go_enter Tryz.func11, Tryz.ntmps11
  go_wp2_with (go_at_call 10; (with_reducible refine HO.out.mono ?_); rintro e w1 ⟨rfl, hb⟩; have HB := Aside0.mk hb; obtain ⟨t0, t1, t2, f0, f1, f2⟩ := HC.out _ hb; clear hb)
  go_end0
  exact ⟨rfl, seal_post (HL.out.below HB.out) (by omega) HOP.out (Upd.ofBelow HB.out _) rfl⟩
end
end Go.Proofs.YtmbiebdcnadhkaaGreat.Fl
namespace Go.Proofs.YtmbiebdcnadhkaaGreat.Fl
open Go.RowKit Go.Proofs.YtmbiebdcnadhkaaGreatW.PrintWords Go.Proofs.YtmbiebdcnadhkaaGreatW.PrintMore Go.Maps
def newG (nx : Int) : LG := ⟨List.replicate 16 0, -1, 0, nx⟩
section
variable {q p N0 : Nat} {g : LG} {w w' : World} {D : PD} {ok : Nat → Prop}
set_option maxHeartbeats 1000000 in
set_option maxRecDepth 100000 in
theorem fresh_any (hD : DevIs N0 p D ok w) (h4 : 4 ≤ D.s.1) (nx : Int) : Calls Tryz.prog 65 #[.pointer (some ⟨p, 0, none⟩), .int .u64 nx] w fun e w' => ∃ q, e = .returned (.tuple #[.pointer (some ⟨q, 0, none⟩), .int .i64 0]) ∧ w.heap.size ≤ q ∧ LogIs q p (newG nx) w' ∧ Below w.heap.size w w' := by
 have HS := Lib.hid (Shape_any hD)
 have rs := fun (X : World) => run_shape1 X D.s.1 D.s.2.1 D.s.2.2
 have e1 : (D.s.1 == 0) = false := by simp; omega
 have e2 : decide (D.s.1 < 4) = false := by simp; omega
 clear hD
 go_enter Tryz.func65, Tryz.ntmps65
 go_wp2_with (go_at_call 58; (with_reducible refine HS.out.mono ?_); rintro e w2 ⟨rfl, hb⟩; have HB := Aside0.mk hb; clear hb)
 go_ret2
 exact ⟨_, rfl, HB.out.size, ⟨by simp [newG], blk_new _ _⟩, below_alloc HB.out _⟩
end
end Go.Proofs.YtmbiebdcnadhkaaGreat.Fl
namespace Go.Proofs.YtmbiebdcnadhkaaGreat.Fl
open Go.RowKit Go.Proofs.YtmbiebdcnadhkaaGreatW.PrintWords Go.Proofs.YtmbiebdcnadhkaaGreatW.PrintMore Go.Maps
theorem delTo_nil (a : Int) : ∀ k, delTo a k [] = []
 | 0 => rfl
 | k + 1 => by unfold delTo; rw [delTo_nil a k]; rfl
theorem erased_nil (s : Int × Int × Int) (a : Int) : erasedD ⟨s, [], []⟩ a = ⟨s, [], []⟩ := by
 unfold erasedD
 split
 ·unfold eraseD
  simp [delTo_nil, keepF]
 ·rfl
section
variable {q p N0 : Nat} {K : Nat → Prop} {g : LG} {w w' : World} {s : Int × Int × Int}
set_option maxHeartbeats 1000000 in
set_option maxRecDepth 100000 in
theorem LNew_any (h : Solo N0 p K ⟨s, [], []⟩ w) (hs : ShapeOk s) (h4 : 4 ≤ s.1) : Calls Tryz.prog 44 #[.pointer (some ⟨p, 0, none⟩)] w fun e w' => ∃ q, e = .returned (.tuple #[.pointer (some ⟨q, 0, none⟩), .int .i64 0]) ∧ Solo N0 p (fun k => K k ∨ k = q) ⟨s, [], []⟩ w' ∧ LogIs q p (newG 1) w' ∧ Below N0 w w' ∧ Kept K w w' ∧ w.heap.size ≤ q := by
 obtain ⟨ok, hD⟩ := (solo_frame _ _).dev h
 have HF := Lib.hid (fresh_any hD h4 1)
 have HSOLO := Aside0.mk h
 have hsh := fun (X : World) (K' : Nat → Prop) (h' : Solo N0 p K' ⟨s, [], []⟩ X) => (show Calls Tryz.prog 58 #[.pointer (some ⟨p, 0, none⟩)] X fun e w' => e = .returned (.agg #[.int .i64 s.1, .int .i64 s.2.1, .int .i64 s.2.2]) ∧ Below X.heap.size X w' from by
  obtain ⟨ok, hD⟩ := (solo_frame _ _).dev h'
  exact Shape_any hD)
 have her := fun (X : World) (K' : Nat → Prop) (h' : Solo N0 p K' ⟨s, [], []⟩ X) (a : Int) => (solo_frame N0 p).upd h' (fun ok hD => Erase_any hD a (by simp))
 simp only [erased_nil] at her
 have HSH := Lib.hid hsh
 have HER := Lib.hid her
 have a0 := hs.a0
 have a1 := hs.a1
 have rs := fun (X : World) => run_shape1 X s.1 s.2.1 s.2.2
 clear hD hsh her h hs
 go_enter Tryz.func44, Tryz.ntmps44
 go_wp2_with (first
  | (go_at_call 65; (with_reducible refine HF.out.mono ?_); rintro e w1 ⟨q, rfl, hq, hl, hb⟩; have HL1 := Aside0.mk hl; have HB1 := Aside0.mk hb; have hlt := blt hl.blk; have HS1 := Aside0.mk ((solo_frame _ _).less ((solo_frame _ _).keep HSOLO.out hb) (K' := fun k => K k ∨ k = q) (fun k hk => hk.elim .inl (fun e => .inr ⟨by rw [e]; exact hq, by rw [e]; exact hlt⟩))); clear hl hb)
  | (go_at_call 58; (with_reducible refine (HSH.out _ _ HS1.out).mono ?_); rintro e w2 ⟨rfl, hb⟩; have HL2 := Aside0.mk (HL1.out.below hb); have HS2 := Aside0.mk ((solo_frame _ _).below HS1.out hb); have HB2 := Aside0.mk (HB1.out.trans (hb.mono HB1.out.size)); clear hb))
 have hN := (solo_frame _ _).size HSOLO.out
 go_loopw [18] (fun v18 wr => ∃ k : Nat, (k : Int) ≤ s.1 ∧ v18 = .int .i64 (k : Int) ∧ Solo N0 p (fun k => K k ∨ k = q) ⟨s, [], []⟩ wr ∧ LogIs q p (newG 1) wr ∧ Below N0 w wr ∧ Kept K w wr) (fun v18 _ => (s.1 - intOf v18).toNat)
 case atStart => exact ⟨0, by omega, rfl, HS2.out, HL2.out, ⟨HB2.out.os, HB2.out.tape, HB2.out.output, HB2.out.size, fun k hk => HB2.out.block k (by omega)⟩, fun k hk => HB2.out.block k ((solo_frame _ _).lt HSOLO.out k hk)⟩
 case round =>
  obtain ⟨k, hk, rfl, hS, hl, hb, hkp⟩ := hrel
  have HS := Aside0.mk hS
  have HL := Aside0.mk hl
  have HB := Aside0.mk hb
  have HKP := Lib.hid hkp
  clear hS hl hb hkp
  by_cases hlt2 : (k : Int) < s.1
  ·go_wp2_with (go_at_call 50; (with_reducible refine (HER.out _ _ HS.out _).mono ?_); rintro e w3 ⟨rfl, hS, hb, hkp⟩; have HS3 := Aside0.mk hS; have HB3 := Aside0.mk (HB.out.trans hb); have HL3 := Aside0.mk (show LogIs q p (newG 1) w3 from ⟨HL.out.len, (hkp q (.inr rfl)).trans HL.out.blk⟩); have HKP3 := Lib.hid (show Kept K w w3 from fun j hj => (hkp j (.inl hj)).trans (HKP.out j hj)); clear hS hb hkp)
   exact ⟨⟨k + 1, by omega, by go_num, HS3.out, HL3.out, HB3.out, HKP3.out⟩, by simp [intOf]; omega⟩
  ·go_wp2
   go_ret2
   exact ⟨_, rfl, HS.out, HL.out, HB.out, HKP.out, hq⟩
end
end Go.Proofs.YtmbiebdcnadhkaaGreat.Fl
namespace Go.Proofs.YtmbiebdcnadhkaaGreat.Fl
open Go.RowKit Go.Proofs.YtmbiebdcnadhkaaGreatW.PrintWords Go.Proofs.YtmbiebdcnadhkaaGreatW.PrintMore Go.Maps
def FirstAt (l : List Int) (a r : Int) : Prop := (r = -1 ∧ ∀ i, i < l.length → l[i]? ≠ some a) ∨ ∃ n : Nat, r = (n : Int) ∧ n < l.length ∧ l[n]? = some a ∧ ∀ i, i < n → l[i]? ≠ some a
def IndexPost (l : List Int) (a : Int) (w : World) (e : Ending) (w' : World) : Prop := ∃ r, e = .returned (.int .i64 r) ∧ FirstAt l a r ∧ w = w'
section
variable {q p N0 : Nat} {g : LG} {w w' : World}
set_option maxHeartbeats 1000000 in
set_option maxRecDepth 100000 in
theorem LIndex_any (h : LogIs q p g w) (a : Int) : Calls Tryz.prog 99 #[.slice (some ⟨q, 1, none⟩) 16 16, .int .i64 a] w (IndexPost g.st a w) := by
 have hlen := h.len
 have hc := fun (i : Nat) (x : Int) (hx : g.st[i]? = some x) => h.cst hx
 have HC := Lib.hid hc
 clear hc h
 go_enter Tryz.func99, Tryz.ntmps99
 go_wp2
 go_loopw [5, 8] (fun v5 v8 wr => ∃ k : Nat, k ≤ 16 ∧ v8 = .int .i64 (k : Int) ∧ (∀ i, i < k → g.st[i]? ≠ some a) ∧ w = wr) (fun _ v8 _ => 16 - (intOf v8).toNat)
 case atStart => exact ⟨0, Nat.zero_le _, rfl, fun i hi => by omega, rfl⟩
 case round =>
  obtain ⟨k, hk, rfl, hn, rfl⟩ := hrel
  have HN := Lib.hid hn
  clear hn
  by_cases hlt : k < 16
  ·obtain ⟨x, hx⟩ : ∃ x, g.st[k]? = some x := ⟨_, List.getElem?_eq_getElem (by omega)⟩
   have kc := HC.out k x hx
   have HX := Lib.hid hx
   have k0 : (0 : Int) ≤ (k : Int) := by omega
   have k1 : (k : Int) < 16 := by omega
   clear hx
   by_cases hxa : a = x
   ·have e1 : (a == x) = true := by simpa using hxa
    have HXA := Lib.hid hxa
    clear hxa
    go_wp2
    go_ret
    exact ⟨_, rfl, .inr ⟨k, rfl, by omega, by rw [HX.out, HXA.out], HN.out⟩, rfl⟩
   ·have e1 : (a == x) = false := by simpa using hxa
    have HXA := Lib.hid hxa
    clear hxa
    go_wp2
    refine ⟨⟨k + 1, by omega, by go_num, ?_⟩, by simp [intOf]; omega⟩
    refine (show (∀ i, i < k + 1 → g.st[i]? ≠ some a) ∧ True from ⟨fun i hi => ?_, trivial⟩)
    by_cases hik : i = k
    ·rw [hik, HX.out]
     exact fun he => HXA.out (Option.some.inj he).symm
    ·exact HN.out i (by omega)
  ·obtain rfl : k = 16 := by omega
   go_wp2
   go_ret
   exact ⟨_, rfl, .inl ⟨rfl, fun i hi => HN.out i (by omega)⟩, rfl⟩
end
end Go.Proofs.YtmbiebdcnadhkaaGreat.Fl
namespace Go.Proofs.YtmbiebdcnadhkaaGreat.Fl
open Go.RowKit Go.Proofs.YtmbiebdcnadhkaaGreatW.PrintWords Go.Proofs.YtmbiebdcnadhkaaGreatW.PrintMore Go.Maps
def Stores (F : (Nat → Prop) → World → Prop) : Prop := ∀ (K : Nat → Prop) (w : World) (q : Nat) (o : Array Value) (T : TypeId) (j : Nat) (v : Value), F K w → K q → w.heap[q]? = some (.cells o T (0, 0)) → T ≠ TB → F K (w.setCell ⟨q, j, none⟩ v)
theorem not_byte {w : World} {q : Nat} {o : Array Value} {T : TypeId} (hb : w.heap[q]? = some (.cells o T (0, 0))) (hT : T ≠ TB) {cs : Array Value} {fr : Nat × Nat} : w.heap[q]? ≠ some (.cells cs TB fr) := fun h => by
 rw [hb] at h
 injection h with h
 injection h with _ h _
 exact hT h
theorem two_stores (N0 p x : Nat) (D : PD) (s : Int × Int × Int) (ps : List Pg) : Stores (fun K w => Two K N0 p x D s ps w) := fun K w q o T j v h hq hb hT => by
 obtain ⟨okD, okX, hD, hX, hd, h1, h2, h0, hK⟩ := h
 have hno : ¬ okD q ∧ ¬ okX q := (hK q hq).2.elim id (fun ⟨cs, fr, e⟩ => absurd e (not_byte hb hT))
 refine ⟨okD, okX, hD.step (fun k hk _ => Below.heap_setCell w ⟨q, j, none⟩ v k (fun e => hno.1 (by have e2 : k = q := e; rw [← e2]; exact hk))), hX.step (fun k hk _ => Below.heap_setCell w ⟨q, j, none⟩ v k (fun e => hno.2 (by have e2 : k = q := e; rw [← e2]; exact hk))), hd, h1, h2, by simpa [World.setCell] using h0, fun k hk => ⟨by simpa [World.setCell] using (hK k hk).1, (hK k hk).2.imp id (fun ⟨cs, fr, e⟩ => ⟨cs, fr, (Below.heap_setCell w ⟨q, j, none⟩ v k (fun e2 => by rw [e2] at e; exact not_byte hb hT e)).trans e⟩)⟩⟩
end Go.Proofs.YtmbiebdcnadhkaaGreat.Fl
namespace Go.Proofs.YtmbiebdcnadhkaaGreat.Fl
open Go.RowKit Go.Proofs.YtmbiebdcnadhkaaGreatW.PrintWords Go.Proofs.YtmbiebdcnadhkaaGreatW.PrintMore Go.Maps
def lEraseE (s : Int × Int × Int) (g : LG) (a : Int) : Int := if fitsB a 0 (s.1 - 1) = false then 6 else if g.st.getD a.toNat 0 = 1 then 1 else 0
def lEraseG (s : Int × Int × Int) (g : LG) (a : Int) : LG := if lEraseE s g a = 0 then { g with st := g.st.set a.toNat 0 } else g
def lEraseD (D : PD) (g : LG) (a : Int) : PD := if lEraseE D.s g a = 0 then erasedD D a else D
section
variable {N0 p q : Nat} {F : (Nat → Prop) → PD → World → Prop} {K : Nat → Prop} {D : PD} {g : LG} {w : World}
theorem below_self {B : Nat} {w w' : World} (h : Below w.heap.size w w') (hB : B ≤ w.heap.size) : Below B w w' := ⟨h.os, h.tape, h.output, h.size, fun k hk => h.block k (by omega)⟩
theorem kept_below {w w' : World} {K : Nat → Prop} (h : Below w.heap.size w w') (hlt : ∀ k, K k → k < w.heap.size) : Kept K w w' := fun k hk => h.block k (hlt k hk)
set_option maxHeartbeats 1000000 in
set_option maxRecDepth 100000 in
theorem LSync_F (hF : DevFrame N0 p F) (h : F K D w) (hl : LogIs q p g w) (hq : K q) : Calls Tryz.prog 12 #[.pointer (some ⟨q, 0, none⟩)] w fun e w' => e = .returned (.tuple #[]) ∧ F K { D with dirty := [] } w' ∧ LogIs q p g w' ∧ Below N0 w w' ∧ Kept K w w' := by
 have HDV := Lib.hid (LDevice_any hl)
 have hsy := hF.upd h (fun ok hD => (Sync_any hD).mono fun e w' ⟨h1, h2, h3⟩ => ⟨h1, h2.mono (fun k hk => Or.inl hk), h3⟩)
 have HSY := Lib.hid hsy
 have HL := Aside0.mk hl
 clear h hl hsy
 go_enter Tryz.func12, Tryz.ntmps12
 go_wp2_with (first
  | (go_at_call 18; (with_reducible refine HDV.out.mono ?_); rintro e w1 ⟨rfl, rfl⟩)
  | (go_at_call 48; (with_reducible refine HSY.out.mono ?_); rintro e w2 ⟨rfl, hf, hb, hk⟩; have HF := Aside0.mk hf; have HB := Aside0.mk hb; have HK := Lib.hid hk; clear hf hb hk))
 go_end0
 exact ⟨rfl, HF.out, ⟨HL.out.len, (HK.out q hq).trans HL.out.blk⟩, HB.out, HK.out⟩
set_option maxHeartbeats 1000000 in
set_option maxRecDepth 100000 in
theorem LErase_F (hF : DevFrame N0 p F) (hSt : ∀ D, Stores (fun K w => F K D w)) (h : F K D w) (hl : LogIs q p g w) (hq : K q) (hN : N0 ≤ q) (hdl : D.dirty.length < 1000000) (a : Int) : Calls Tryz.prog 13 #[.pointer (some ⟨q, 0, none⟩), .int .i64 a] w fun e w' => e = .returned (.int .i64 (lEraseE D.s g a)) ∧ F K (lEraseD D g a) w' ∧ LogIs q p (lEraseG D.s g a) w' ∧ Below N0 w w' ∧ Kept (fun k => K k ∧ k ≠ q) w w' := by
 obtain ⟨ok, hD⟩ := hF.dev h
 have hs := hD.sound.sh
 have a1 := hs.a1
 have hok := Lok_any hl
 have hhas := Lhas_any hl hD a
 have hsz := hF.size h
 have hlt := fun k hk => hF.lt h k hk
 have HOK := Lib.hid hok
 have HL := Aside0.mk hl
 have HFR := Aside0.mk h
 cases hf : fitsB a 0 (D.s.1 - 1) with
 | false =>
  rw [hf] at hhas
  have he : lEraseE D.s g a = 6 := by unfold lEraseE; rw [if_pos hf]
  have h1 : lEraseD D g a = D := by unfold lEraseD; rw [he]; rfl
  have h2 : lEraseG D.s g a = g := by unfold lEraseG; rw [he]; rfl
  rw [he, h1, h2]
  have HH := Lib.hid hhas
  have HLT := Lib.hid hlt
  clear h hl hD hs hok hhas hlt hf he h1 h2
  go_enter Tryz.func13, Tryz.ntmps13
  go_wp2_with (first
   | (go_at_call 46; (with_reducible refine HOK.out.mono ?_); rintro e w1 ⟨rfl, rfl⟩)
   | (go_at_call 49; (with_reducible refine HH.out.mono ?_); rintro e w2 ⟨rfl, hb⟩; have HB := Aside0.mk hb; clear hb))
  go_ret
  exact ⟨rfl, hF.below HFR.out HB.out, HL.out.below HB.out, below_self HB.out hsz, fun k hk => kept_below HB.out HLT.out k hk.1⟩
 | true =>
  rw [hf] at hhas
  have hfa := hf
  unfold fitsB at hfa
  rw [decide_eq_true_iff] at hfa
  obtain ⟨n, rfl⟩ := Int.eq_ofNat_of_zero_le hfa.1
  have hlen := hl.len
  obtain ⟨x, hx⟩ : ∃ x, g.st[n]? = some x := ⟨_, List.getElem?_eq_getElem (by omega)⟩
  have hxv : g.st.getD (n : Int).toNat 0 = x := by rw [Int.toNat_natCast, List.getD_eq_getElem?_getD, hx]; rfl
  have hc := fun (X : World) (hb : Below w.heap.size w X) => And.intro ((hl.below hb).cst hx) (hl.below hb).c0
  have hev : lEraseE D.s g (n : Int) = if x = 1 then 1 else 0 := by unfold lEraseE; rw [if_neg (by rw [hf]; decide), hxv]
  have HH := Lib.hid hhas
  have HC := Lib.hid hc
  have HLT := Lib.hid hlt
  have n0 : (0 : Int) ≤ (n : Int) := by omega
  have n1 : (n : Int) < 16 := by omega
  have hn16 : n < 16 := by omega
  by_cases hx1 : x = 1
  ·have he : lEraseE D.s g (n : Int) = 1 := by rw [hev, if_pos hx1]
   have h1 : lEraseD D g (n : Int) = D := by unfold lEraseD; rw [he]; rfl
   have h2 : lEraseG D.s g (n : Int) = g := by unfold lEraseG; rw [he]; rfl
   have e1 : (x == 1) = true := by simpa using hx1
   rw [he, h1, h2]
   clear h hl hD hs hok hhas hlt hf he h1 h2 hev hx hxv hc hfa hlen hx1
   go_enter Tryz.func13, Tryz.ntmps13
   go_wp2_with (first
    | (go_at_call 46; (with_reducible refine HOK.out.mono ?_); rintro e w1 ⟨rfl, rfl⟩)
    | (go_at_call 49; (with_reducible refine HH.out.mono ?_); rintro e w2 ⟨rfl, hb⟩; obtain ⟨kc, k0⟩ := HC.out _ hb; have HB := Aside0.mk hb; clear hb))
   go_ret
   exact ⟨rfl, hF.below HFR.out HB.out, HL.out.below HB.out, below_self HB.out hsz, fun k hk => kept_below HB.out HLT.out k hk.1⟩
  ·have he : lEraseE D.s g (n : Int) = 0 := by rw [hev, if_neg hx1]
   have h1 : lEraseD D g (n : Int) = erasedD D (n : Int) := by unfold lEraseD; rw [he]; rfl
   have h2 : lEraseG D.s g (n : Int) = { g with st := g.st.set n 0 } := by unfold lEraseG; rw [he]; rfl
   have e1 : (x == 1) = false := by simpa using hx1
   rw [he, h1, h2]
   have her := fun (X : World) (hX : F K D X) => hF.upd hX (fun ok hD => Erase_any hD (n : Int) hdl)
   have HER := Lib.hid her
   have HX := Lib.hid hx
   clear h hl hD hs hok hhas hlt hf he h1 h2 hev hx hxv hc hfa hlen hx1 her
   go_enter Tryz.func13, Tryz.ntmps13
   go_wp2_with (first
    | (go_at_call 46; (with_reducible refine HOK.out.mono ?_); rintro e w1 ⟨rfl, rfl⟩)
    | (go_at_call 49; (with_reducible refine HH.out.mono ?_); rintro e w2 ⟨rfl, hb⟩; obtain ⟨kc, k0⟩ := HC.out _ hb; have HB := Aside0.mk hb; clear hb)
    | (go_at_call 50; (with_reducible refine (HER.out _ (hF.below HFR.out HB.out)).mono ?_); rintro e w3 ⟨rfl, hf3, hb, hk⟩; have hl3 : LogIs q p g w3 := ⟨HL.out.len, (hk q hq).trans (HL.out.below HB.out).blk⟩; have k3 := hl3.cst HX.out; have z3 := hl3.frozen (1 + n); have HL3 := Aside0.mk hl3; have HF3 := Aside0.mk hf3; have HB3 := Aside0.mk ((below_self HB.out hsz).trans hb); have HK3 := Lib.hid (show Kept K w w3 from fun k h => (hk k h).trans (kept_below HB.out HLT.out k h)); clear hl3 hf3 hb hk kc k0))
   go_ret
   exact ⟨rfl, hSt _ K _ q _ _ _ _ HF3.out hq HL3.out.blk (by decide), HL3.out.setSt hn16 0, HB3.out.setCell (p := ⟨q, 1 + n, none⟩) hN _, fun k hk => (Below.heap_setCell _ ⟨q, 1 + n, none⟩ _ k hk.2).trans (HK3.out k hk.1)⟩
end
end Go.Proofs.YtmbiebdcnadhkaaGreat.Fl
namespace Go.Proofs.YtmbiebdcnadhkaaGreat.Fl
open Go.RowKit Go.Proofs.YtmbiebdcnadhkaaGreatW.PrintWords Go.Proofs.YtmbiebdcnadhkaaGreatW.PrintMore Go.Maps
def Stays (F : (Nat → Prop) → World → Prop) : Prop := ∀ (K : Nat → Prop) (w w' : World) (q : Nat) (o o' : Array Value) (T : TypeId), F K w → K q → w.heap[q]? = some (.cells o T (0, 0)) → w'.heap[q]? = some (.cells o' T (0, 0)) → T ≠ TB → Upd (fun k => k = q) w w' → F K w'
theorem solo_stays (N0 p : Nat) (D : PD) : Stays (fun K w => Solo N0 p K D w) := fun K w w' q o o' T h hq hb hb' hT hu => by
 obtain ⟨ok, hD, h1, h0, hK⟩ := h
 have hno : ¬ ok q := fun hok => (hK q hq).2.elim (fun h => h hok) (fun ⟨cs, fr, e⟩ => not_byte hb hT e)
 refine ⟨_, hD.bound.step (fun k hk hlt => hu.block k hlt (fun e => hno (by rw [← e]; exact hk.1))), fun k hk => h1 k hk.1, Nat.le_trans h0 hu.size, fun k hk => ⟨Nat.lt_of_lt_of_le (hK k hk).1 hu.size, (hK k hk).2.imp (fun h2 h => h2 h.1) (fun ⟨cs, fr, e⟩ => ⟨cs, fr, (hu.block k (hK k hk).1 (fun e2 => by rw [e2] at e; exact not_byte hb hT e)).trans e⟩)⟩⟩
theorem two_stays (N0 p x : Nat) (D : PD) (s : Int × Int × Int) (ps : List Pg) : Stays (fun K w => Two K N0 p x D s ps w) := fun K w w' q o o' T h hq hb hb' hT hu => by
 obtain ⟨okD, okX, hD, hX, hd, h1, h2, h0, hK⟩ := h
 have hno : ¬ okD q ∧ ¬ okX q := (hK q hq).2.elim id (fun ⟨cs, fr, e⟩ => absurd e (not_byte hb hT))
 refine ⟨_, _, hD.bound.step (fun k hk hlt => hu.block k hlt (fun e => hno.1 (by rw [← e]; exact hk.1))), hX.bound.step (fun k hk hlt => hu.block k hlt (fun e => hno.2 (by rw [← e]; exact hk.1))), fun k a b => hd k a.1 b.1, fun k hk => h1 k hk.1, fun k hk => h2 k hk.1, Nat.le_trans h0 hu.size, fun k hk => ⟨Nat.lt_of_lt_of_le (hK k hk).1 hu.size, (hK k hk).2.imp (fun h2 => ⟨fun h => h2.1 h.1, fun h => h2.2 h.1⟩) (fun ⟨cs, fr, e⟩ => ⟨cs, fr, (hu.block k (hK k hk).1 (fun e2 => by rw [e2] at e; exact not_byte hb hT e)).trans e⟩)⟩⟩
section
variable {N0 p q : Nat} {F : (Nat → Prop) → PD → World → Prop} {K : Nat → Prop} {D : PD} {g : LG} {w : World}
theorem LSeal_F (hSt : ∀ D, Stays (fun K w => F K D w)) (h : F K D w) (hl : LogIs q p g w) (hq : K q) (hN : N0 ≤ q) (hN2 : N0 ≤ w.heap.size) (hlt : ∀ k, K k → k < w.heap.size) (ho : g.op < 16) : Calls Tryz.prog 11 #[.pointer (some ⟨q, 0, none⟩)] w fun e w' => e = .returned (.tuple #[]) ∧ F K D w' ∧ LogIs q p (sealG g) w' ∧ Below N0 w w' ∧ Kept (fun k => K k ∧ k ≠ q) w w' :=
 (LSeal_any hl ho).mono fun e w' ⟨h1, h2, h3⟩ => ⟨h1, hSt D K w w' q _ _ _ h hq hl.blk h2.blk (by decide) h3, h2, h3.below hN2 (fun k hk => by rw [hk]; exact hN), fun k hk => h3.block k (hlt k hk.1) hk.2⟩
end
end Go.Proofs.YtmbiebdcnadhkaaGreat.Fl
namespace Go.Proofs.YtmbiebdcnadhkaaGreat.Fl
open Go.RowKit Go.Proofs.YtmbiebdcnadhkaaGreatW.PrintWords Go.Proofs.YtmbiebdcnadhkaaGreatW.PrintMore Go.Maps
theorem sealG_nx (g : LG) : (sealG g).nx = g.nx := by unfold sealG; split <;> rfl
section
variable {N0 p q : Nat} {F : (Nat → Prop) → PD → World → Prop} {K : Nat → Prop} {D : PD} {g : LG} {w : World}
set_option maxHeartbeats 2000000 in
set_option maxRecDepth 100000 in
theorem LTurn_F (hF : DevFrame N0 p F) (hSt : ∀ D, Stays (fun K w => F K D w)) (h : F K D w) (hl : LogIs q p g w) (hq : K q) (hN : N0 ≤ q) (ho : g.op < 16) (hnx : SeqOk g.nx) (hnx2 : g.nx < 1000000) (hnx0 : 0 ≤ g.nx) (hd : D.dirty.length < 900000) {n : Nat} (hn : n < 16) (hfirst : ∀ r, FirstAt (sealG g).st 0 r → r = (n : Int)) :
  Calls Tryz.prog 86 #[.pointer (some ⟨q, 0, none⟩)] w fun e w' => e = .returned (.tuple #[]) ∧ F K (appD D (n : Int) 0 0 (rec 1 g.nx [])) w' ∧ LogIs q p ⟨(sealG g).st.set n 1, (n : Int), 1, g.nx + 1⟩ w' ∧ Below N0 w w' ∧ Kept (fun k => K k ∧ k ≠ q) w w' := by
 have hsh := hF.shape h
 have hse := LSeal_F hSt h hl hq hN (hF.size h) (fun k hk => hF.lt h k hk) ho
 obtain ⟨g1, hg1⟩ : ∃ g1, g1 = sealG g := ⟨_, rfl⟩
 have hgn : g1.nx = g.nx := by rw [hg1]; exact sealG_nx g
 rw [← hg1] at hse hfirst ⊢
 have HSE := Lib.hid hse
 have HFI := Lib.hid hfirst
 have HGN := Lib.hid hgn
 have HSHAPE := Lib.hid hsh
 clear hse hfirst hgn hg1 hsh h hl
 go_enter Tryz.func86, Tryz.ntmps86
 go_wp2_with (first
  | (go_at_call 11; (with_reducible refine HSE.out.mono ?_); rintro e w1 ⟨rfl, hf, hl, hb, hk⟩; have HF1 := Aside0.mk hf; have HL1 := Aside0.mk hl; have HB1 := Aside0.mk hb; have HK1 := Lib.hid hk; have k0 := hl.c0; have k19 := hl.c19; rw [HGN.out] at k19; clear hf hl hb hk)
  | (go_at_call 99; (with_reducible refine (LIndex_any HL1.out 0).mono ?_); rintro e w2 ⟨r, rfl, hr, rfl⟩; obtain rfl := HFI.out r hr; clear hr))
 have hst := fun (X : World) (hX : F K D X) => Start_F hF hX (n : Int) hnx hd
 have hl1d : LogIs q p g1 w1.drew := ⟨HL1.out.len, HL1.out.blk⟩
 have HST := Lib.hid hst
 have HD1 := Aside0.mk (hF.below HF1.out (below_drew (Below.refl _ w1)))
 obtain ⟨x, hx⟩ : ∃ x, g1.st[n]? = some x := ⟨_, List.getElem?_eq_getElem (by have := HL1.out.len; omega)⟩
 have HX := Lib.hid hx
 have HLD := Aside0.mk hl1d
 clear hst hl1d hx
 go_region_held3 (fun w' => w'.cell? ⟨q, 0, none⟩ = some (.pointer (some ⟨p, 0, none⟩)) ∧ w'.cell? ⟨q, 19, none⟩ = some (.int .u64 g.nx)) (first | go_keep | exact ⟨z0, z19⟩)
  (first | (go_at_call 110; (with_reducible refine (HST.out _ HD1.out).mono ?_); rintro e w3 ⟨rfl, hf, hb, hk⟩; have hl3 : LogIs q p g1 w3 := ⟨HL1.out.len, (hk q hq).trans HLD.out.blk⟩; have z0 := hl3.c0; have z19 := hl3.c19; rw [HGN.out] at z19; have HF3 := Aside0.mk hf; have HB3 := Aside0.mk ((⟨HB1.out.os, HB1.out.tape, HB1.out.output, HB1.out.size, HB1.out.block⟩ : Below N0 w w1.drew).trans hb); have HK3 := Lib.hid (show Kept (fun k => K k ∧ k ≠ q) w w3 from fun k h => (hk k h.1).trans (HK1.out k h)); have HL3 := Aside0.mk hl3; clear hf hb hk hl3))
 have t0 := HL3.out.cst HX.out
 have t1 := HL3.out.c17
 have t2 := HL3.out.c18
 have f0 := HL3.out.frozen (1 + n)
 have f1 := HL3.out.frozen 17
 have f2 := HL3.out.frozen 18
 have f3 := HL3.out.frozen 19
 have n0 : (0 : Int) ≤ (n : Int) := by omega
 have n1 : (n : Int) < 16 := by omega
 have n2 : ¬ 1 + n = 17 := by omega
 have n3 : ¬ 1 + n = 18 := by omega
 have n4 : ¬ 17 = 1 + n := by omega
 have n5 : ¬ 18 = 1 + n := by omega
 have n6 : ¬ 1 + n = 19 := by omega
 have n7 : ¬ 19 = 1 + n := by omega
 have n8 : ¬ 1 + n = 0 := by omega
 have n9 : ¬ 0 = 1 + n := by omega
 have hw : IntKind.u64.wrap (g.nx + 1) = g.nx + 1 := IntWalk.u64_in _ (by omega)
 go_wp2_with fail
 have hl4 := (HL3.out.setSt hn 1).setOp (n : Int)
 obtain ⟨w4, hw4⟩ : ∃ w4, w4 = (w3.setCell ⟨q, 1 + n, none⟩ (.int .i64 1)).setCell ⟨q, 17, none⟩ (.int .i64 (n : Int)) := ⟨_, rfl⟩
 rw [← hw4] at hl4 ⊢
 have hu4 : Upd (fun k => k = q) w3 w4 := by
  rw [hw4]
  exact (Upd.setCell w3 (p := ⟨q, 1 + n, none⟩) (S := fun k => k = q) rfl _).trans (Upd.setCell _ (p := ⟨q, 17, none⟩) (S := fun k => k = q) rfl _) (fun k hk _ => hk)
 have hf4 := hSt _ K w3 w4 q _ _ _ HF3.out hq HL3.out.blk hl4.blk (by decide) hu4
 obtain ⟨okd, hD4⟩ := hF.dev hf4
 have hsp : Calls Tryz.prog 58 #[.pointer (some ⟨p, 0, none⟩)] w4 fun e w' => e = .returned (.agg #[.int .i64 D.s.1, .int .i64 D.s.2.1, .int .i64 D.s.2.2]) ∧ Below w4.heap.size w4 w' := by
  have := Shape_any hD4
  rw [appD_s] at this
  exact this
 have hpg : ∀ X : World, Calls Tryz.prog 85 #[.int .i64 0, .int .i64 D.s.2.2] X fun e w' => e = .returned (.int .i64 1) ∧ Below X.heap.size X w' := fun X => by
  have := Pages_ok 0 D.s HSHAPE.out (by omega) X
  rw [kpg_zero HSHAPE.out] at this
  exact this
 have rs := fun (X : World) => run_shape3 X D.s.1 D.s.2.1 D.s.2.2
 have HSP := Lib.hid hsp
 have HPG := Lib.hid hpg
 have HF4 := Aside0.mk hf4
 have HL4 := Aside0.mk hl4
 have HU4 := Aside0.mk hu4
 clear hsp hpg hf4 hl4 hu4 hD4 hw4 t0 t1 t2 f0 f1 f2 f3 z0 z19 k0 k19
 go_wp2_with (first
  | (go_at_call 58; (with_reducible refine HSP.out.mono ?_); rintro e w5 ⟨rfl, hb⟩; have HB5 := Aside0.mk hb; clear hb)
  | (go_at_call 85; (with_reducible refine (HPG.out _).mono ?_); rintro e w6 ⟨rfl, hb⟩; have HB6 := Aside0.mk (HB5.out.trans (hb.mono HB5.out.size)); have hl6 := HL4.out.below HB6.out; have t2 := hl6.c18; have z19 := hl6.c19; simp only [HGN.out] at z19; have f2 := hl6.frozen 18; have f3 := hl6.frozen 19; have HL6 := Aside0.mk hl6; clear hb hl6))
 go_end0
 have h7 := (HL6.out.setPg 1).setNx (g.nx + 1)
 have hu7 : Upd (fun k => k = q) w6 ((w6.setCell ⟨q, 18, none⟩ (.int .i64 1)).setCell ⟨q, 19, none⟩ (.int .u64 (g.nx + 1))) := (Upd.setCell w6 (p := ⟨q, 18, none⟩) (S := fun k => k = q) rfl _).trans (Upd.setCell _ (p := ⟨q, 19, none⟩) (S := fun k => k = q) rfl _) (fun k hk _ => hk)
 have hf7 := hSt _ K w6 _ q _ _ _ (hF.below HF4.out HB6.out) hq HL6.out.blk h7.blk (by decide) hu7
 have hs3 := hF.size HF3.out
 have hs4 := hF.size HF4.out
 have b4 := HB3.out.trans (HU4.out.below hs3 (fun k hk => by rw [hk]; exact hN))
 have b6 := b4.trans (HB6.out.mono hs4)
 have b7 := b6.trans (hu7.below (Nat.le_trans hs4 HB6.out.size) (fun k hk => by rw [hk]; exact hN))
 refine ⟨rfl, hf7, h7, b7, fun k hk => ?_⟩
 have l3 := hF.lt HF3.out k hk.1
 have l4 := hF.lt HF4.out k hk.1
 exact (hu7.block k (Nat.lt_of_lt_of_le l4 HB6.out.size) hk.2).trans ((HB6.out.block k l4).trans ((HU4.out.block k l3 hk.2).trans (HK3.out k hk)))
end
end Go.Proofs.YtmbiebdcnadhkaaGreat.Fl
namespace Go.Proofs.YtmbiebdcnadhkaaGreat.Fl
open Go.RowKit Go.Proofs.YtmbiebdcnadhkaaGreatW.PrintWords Go.Proofs.YtmbiebdcnadhkaaGreatW.PrintMore Go.Maps
section
variable {w : World} {sb db : Nat} {s : Int × Int × Int} {A : Option Addr} {c : Nat} {n : Nat}
set_option maxHeartbeats 1000000 in
set_option maxRecDepth 100000 in
theorem PutFits_any (hs : ShapeOk s) (h0 : w.cell? ⟨sb, 0, none⟩ = some (.int .i64 s.1)) (h1 : w.cell? ⟨sb, 1, none⟩ = some (.int .i64 s.2.1)) (h2 : w.cell? ⟨sb, 2, none⟩ = some (.int .i64 s.2.2)) (h3 : w.cell? ⟨db, 0, none⟩ = some (.slice A n c)) (hn : n ≤ 9223372036854775807) (pg : Int) :
  Calls Tryz.prog 83 #[.int .i64 pg, .pointer (some ⟨sb, 0, none⟩), .pointer (some ⟨db, 0, none⟩)] w fun e w' => e = .returned (.bool (fitsS s pg n)) ∧ Below w.heap.size w w' := by
 have HFT := Lib.hid (Fits_ok s hs pg n hn w)
 clear hs
 go_enter Tryz.func83, Tryz.ntmps83
 go_wp2_with (go_at_call 84; (with_reducible refine HFT.out.mono ?_); rintro e w1 ⟨rfl, hb⟩; have HB := Aside0.mk hb; clear hb)
 go_ret
 exact ⟨rfl, HB.out⟩
end
end Go.Proofs.YtmbiebdcnadhkaaGreat.Fl
namespace Go.Proofs.YtmbiebdcnadhkaaGreat.Fl
open Go.RowKit Go.Proofs.YtmbiebdcnadhkaaGreatW.PrintWords Go.Proofs.YtmbiebdcnadhkaaGreatW.PrintMore Go.Maps
theorem size_alloc (w : World) (o : Obj) : (w.alloc o).heap.size = w.heap.size + 1 := by
 show (w.heap.push o).size = _
 rw [Array.size_push]
theorem pair_blk (w : World) (o o' : Obj) : ((w.alloc o).alloc o').heap[w.heap.size]? = some o ∧ ((w.alloc o).alloc o').heap[w.heap.size + 1]? = some o' := by
 have h1 := blk_new w o
 have h2 := blk_new (w.alloc o) o'
 have hs := size_alloc w o
 rw [hs] at h2
 exact ⟨((below_alloc (Below.refl _ _) _).block _ (by rw [hs]; omega)).trans h1, h2⟩
abbrev TBs : TypeId := 25
abbrev TSh : TypeId := 23
theorem putfits_clo : CloFn 83 := ⟨_, Tryz.func83, by kernel_rfl, rfl⟩
theorem closG {ops : Array Oper} {Q : Exit → Act → World → Prop} {rest : List Oper} {oi : Oper} {a : Act} {w : World} (N : Option Tmp) (hd : oi.dst = N) (hw : Region.wanted oi (yielded ops a.tmps) = true) (t : Tmp) {f : FuncId} {caps : Array Value} {as_ : Array Operand} {ts : Array TypeId} (hf : CloFn f) (args : Array Value)
  (hop : oi.op = .call { callee := .value (.tmp t), args := as_, argTypes := ts }) (ht : a.eval (.tmp t) = .func (.func f) #[] caps) (hargs : as_.map a.eval = args)
  (h : Calls Tryz.prog f (args ++ caps) w fun e w' => ∃ v, e = .returned v ∧ wpList Tryz.prog ops Q rest (a.put N v) w') : wpList Tryz.prog ops Q (oi :: rest) a w := by
 obtain ⟨fn, hf, hname, hb⟩ := hf
 refine wpList_step fun K hK => ?_
 simp only [hw, if_true]
 have he := Go.Proofs.YtmbiebdcnadhkaaGreatW.PrintLast.enters_ hf hname hb (args ++ caps) w
 have hrun : (execOp a.eval oi).run Tryz.prog w = .ok (.enter f (args ++ caps)) w := by
  unfold execOp
  simp [hop, resolve, Deferred.ofValue, invoke, ht, hargs, he]
 unfold Oper.wp
 rw [hrun, Oper.upon_enter]
 refine h.mono fun e w'' hh => ?_
 obtain ⟨v, rfl, hk⟩ := hh
 rw [hd]
 exact hK _ _ hk
def PutPost (N0 q p : Nat) (F : (Nat → Prop) → PD → World → Prop) (K : Nat → Prop) (w : World) (at_ : Adr) (er : Int) (D : PD) (g : LG) (e : Ending) (w' : World) : Prop :=
 e = .returned (.tuple #[.agg #[.int .i64 at_.1, .int .i64 at_.2], .int .i64 er]) ∧ F K D w' ∧ LogIs q p g w' ∧ Below N0 w w' ∧ Kept (fun k => K k ∧ k ≠ q) w w'
section
variable {N0 p q : Nat} {F : (Nat → Prop) → PD → World → Prop} {K : Nat → Prop} {D : PD} {g : LG} {w : World} {A : Option Addr} {c : Nat} {l : List Int} {kind need : Int}
theorem put_end {K2 : Nat → Prop} {X w9 : World} {b : Nat} {a0 a1 v0 v1 : Value} {D2 : PD} {g2 : LG} (hF : DevFrame N0 p F) (hSt : ∀ D, Stays (fun K w => F K D w)) (hf : F K2 D2 X) (hl : LogIs q p g2 X) (hq : K q) (hlt : ∀ k, K k → k < w.heap.size) (hN : N0 ≤ w.heap.size) (hwb : w.heap.size ≤ b) (hb : X.heap[b]? = some (.cells #[a0, a1] TA (0, 0))) (hKb : K2 b) (hKK : ∀ k, K k → K2 k) (hbl : Below N0 w X) (hkp : Kept (fun k => K k ∧ k ≠ q) w X) (he : w9 = (X.setCell ⟨b, 0, none⟩ v0).setCell ⟨b, 1, none⟩ v1) :
  w9.heap[b]? = some (.cells #[v0, v1] TA (0, 0)) ∧ F K D2 w9 ∧ LogIs q p g2 w9 ∧ Below N0 w w9 ∧ Kept (fun k => K k ∧ k ≠ q) w w9 := by
 subst he
 have hne : q ≠ b := by have := hlt q hq; omega
 have hu : Upd (fun k => k = b) X ((X.setCell ⟨b, 0, none⟩ v0).setCell ⟨b, 1, none⟩ v1) := (Upd.setCell X (p := ⟨b, 0, none⟩) (S := fun k => k = b) rfl _).trans (Upd.setCell _ (p := ⟨b, 1, none⟩) (S := fun k => k = b) rfl _) (fun k hk _ => hk)
 have hb9 : ((X.setCell ⟨b, 0, none⟩ v0).setCell ⟨b, 1, none⟩ v1).heap[b]? = some (.cells #[v0, v1] TA (0, 0)) := setCell_blk (setCell_blk hb 0 v0) 1 v1
 refine ⟨hb9, hF.less (hSt D2 K2 X _ b _ _ _ hf hKb hb hb9 (by decide) hu) hKK, ⟨hl.len, (hu.block q (blt hl.blk) hne).trans hl.blk⟩, hbl.trans (hu.below (by have := hbl.size; omega) (fun k hk => by rw [hk]; omega)), fun k hk => (hu.block k (hF.lt hf k (hKK k hk.1)) (fun e => by have := hlt k hk.1; omega)).trans (hkp k hk)⟩
set_option maxHeartbeats 4000000 in
set_option maxRecDepth 100000 in
theorem LPut_head (hF : DevFrame N0 p F) (hSt : ∀ D, Stays (fun K w => F K D w)) (h : F K D w) (hl : LogIs q p g w) (hq : K q) (hN : N0 ≤ q) (hC : kB.C w A l.length l) (hc : l.length ≤ c) (hm : l.length < 1000000) : Calls Tryz.prog 45 #[.pointer (some ⟨q, 0, none⟩), .int .u8 1, .slice A l.length c, .int .i64 need] w (PutPost N0 q p F K w (0, 0) 1 D g) := by
 obtain ⟨n, hn⟩ : ∃ n, n = l.length := ⟨_, rfl⟩
 have hsz := hF.size h
 have hlt := fun k hk => hF.lt h k hk
 obtain ⟨W, hW⟩ : ∃ W, W = (w.alloc (.cells #[.slice A n c] TBs)).alloc (.cells #[.int .i64 0, .int .i64 0] TA) := ⟨_, rfl⟩
 obtain ⟨q6, q8⟩ := pair_blk w (.cells #[.slice A n c] TBs) (.cells #[.int .i64 0, .int .i64 0] TA)
 rw [← hW] at q6 q8
 have wb : Below w.heap.size w W := by rw [hW]; exact below_alloc (below_alloc (Below.refl _ _) _) _
 have wsz : W.heap.size = w.heap.size + 2 := by rw [hW, size_alloc, size_alloc]
 have hf1 := hF.keep h wb
 have hl1 := hl.below wb
 obtain ⟨ok1, hD1⟩ := hF.dev hf1
 have hsh := hD1.sound.sh
 have HOK := Lib.hid (Lok_any hl1)
 have HSHP := Lib.hid (Shape_any hD1)
 have HF1 := Aside0.mk hf1
 have HL1 := Aside0.mk hl1
 have HW := Lib.hid hW
 have Q6 := Lib.hid q6
 have Q8 := Lib.hid q8
 have WB := Aside0.mk wb
 have HSH := Lib.hid hsh
 have HN := Lib.hid hn
 have HLT := Lib.hid hlt
 have k0 : W.cell? ⟨q, 0, none⟩ = some (.pointer (some ⟨p, 0, none⟩)) := hl1.c0
 rw [← hn] at hc hm
 rw [← hn]
 clear h hl hn hlt hf1 hl1 hD1 hsh hW q6 q8 wb
 go_enter Tryz.func45, Tryz.ntmps45
 go_wp2_with (first
  | (rw [← HW.out])
  | (rw [← HW3.out])
  | (go_at_call 46; (with_reducible refine HOK.out.mono ?_); rintro e w1 ⟨rfl, rfl⟩)
  | (go_at_call 58; (with_reducible refine HSHP.out.mono ?_); rintro e w2 ⟨rfl, hb2⟩; obtain ⟨W3, hW3⟩ : ∃ W3, W3 = w2.alloc (.cells #[.int .i64 D.s.1, .int .i64 D.s.2.1, .int .i64 D.s.2.2] TSh) := ⟨_, rfl⟩; have q10 : W3.heap[w2.heap.size]? = some (.cells #[.int .i64 D.s.1, .int .i64 D.s.2.1, .int .i64 D.s.2.2] TSh (0, 0)) := (by rw [hW3]; exact blk_new _ _); have b23 : Below w2.heap.size w2 W3 := (by rw [hW3]; exact below_alloc (Below.refl _ _) _); have hbb := hb2.trans (b23.mono hb2.size); have HF3 := Aside0.mk (hF.keep (hF.below HF1.out hb2) b23); have HL3 := Aside0.mk (HL1.out.below hbb); have p6 := (hbb.block _ (blt Q6.out)).trans Q6.out; have p8 := (hbb.block _ (blt Q8.out)).trans Q8.out; have P6 := Lib.hid p6; have P8 := Lib.hid p8; have Q10 := Lib.hid q10; have BB := Aside0.mk hbb; have HW3 := Lib.hid hW3; have z0 : W3.cell? ⟨w.heap.size + 1, 0, none⟩ = some (.int .i64 0) := bcell p8 0; have z1 : W3.cell? ⟨w.heap.size + 1, 1, none⟩ = some (.int .i64 0) := bcell p8 1; have zf : ∀ j, W3.frozen? ⟨w.heap.size + 1, j, none⟩ = false := (fun j => bfrozen p8 j); have y2 : W3.cell? ⟨w2.heap.size, 2, none⟩ = some (.int .i64 D.s.2.2) := bcell q10 2; clear hb2 hW3 q10 b23 hbb p6 p8))
 obtain ⟨w9, hw9⟩ : ∃ w9, w9 = (W3.setCell ⟨w.heap.size + 1, 0, none⟩ (.int .i64 0)).setCell ⟨w.heap.size + 1, 1, none⟩ (.int .i64 0) := ⟨_, rfl⟩
 rw [← hw9]
 obtain ⟨r8, hf9, hl9, hb9, hk9⟩ := put_end hF hSt HF3.out HL3.out hq HLT.out hsz (Nat.le_succ _) P8.out (.inl (.inr ⟨Nat.le_succ _, by omega⟩)) (fun k hk => .inl (.inl hk)) ((WB.out.trans ((BB.out).mono (by omega))).mono hsz) (fun k hk => (((BB.out).mono (by omega)).block k (HLT.out k hk.1)).trans (WB.out.block k (HLT.out k hk.1))) hw9
 have r0 := bcell r8 0
 have r1 := bcell r8 1
 exact bodyPost_ret (v := .tuple #[.agg #[.int .i64 0, .int .i64 0], .int .i64 1]) (by simp [results, Tryz.results45, go_sem, r0, r1]) rfl ⟨rfl, hf9, hl9, hb9, hk9⟩
set_option maxHeartbeats 4000000 in
set_option maxRecDepth 100000 in
theorem LPut_big (hF : DevFrame N0 p F) (hSt : ∀ D, Stays (fun K w => F K D w)) (h : F K D w) (hl : LogIs q p g w) (hq : K q) (hN : N0 ≤ q) (hC : kB.C w A l.length l) (hc : l.length ≤ c) (hm : l.length < 1000000) (hk : kind ≠ 1) (hv1 : fitsS D.s 1 l.length = false) : Calls Tryz.prog 45 #[.pointer (some ⟨q, 0, none⟩), .int .u8 kind, .slice A l.length c, .int .i64 need] w (PutPost N0 q p F K w (0, 0) 10 D g) := by
 have hpg : ∀ X : World, Calls Tryz.prog 85 #[.int .i64 0, .int .i64 D.s.2.2] X fun e w' => e = .returned (.int .i64 1) ∧ Below X.heap.size X w' := fun X => by
  have := Pages_ok 0 D.s (hF.shape h) (by omega) X
  rw [kpg_zero (hF.shape h)] at this
  exact this
 have HPG := Lib.hid hpg
 have HKI := Lib.hid (show (kind == 1) = false by simpa using hk)
 have e_k := HKI.out
 have HV1 := Lib.hid hv1
 obtain ⟨n, hn⟩ : ∃ n, n = l.length := ⟨_, rfl⟩
 have hsz := hF.size h
 have hlt := fun k hk => hF.lt h k hk
 obtain ⟨W, hW⟩ : ∃ W, W = (w.alloc (.cells #[.slice A n c] TBs)).alloc (.cells #[.int .i64 0, .int .i64 0] TA) := ⟨_, rfl⟩
 obtain ⟨q6, q8⟩ := pair_blk w (.cells #[.slice A n c] TBs) (.cells #[.int .i64 0, .int .i64 0] TA)
 rw [← hW] at q6 q8
 have wb : Below w.heap.size w W := by rw [hW]; exact below_alloc (below_alloc (Below.refl _ _) _) _
 have wsz : W.heap.size = w.heap.size + 2 := by rw [hW, size_alloc, size_alloc]
 have hf1 := hF.keep h wb
 have hl1 := hl.below wb
 obtain ⟨ok1, hD1⟩ := hF.dev hf1
 have hsh := hD1.sound.sh
 have HOK := Lib.hid (Lok_any hl1)
 have HSHP := Lib.hid (Shape_any hD1)
 have HF1 := Aside0.mk hf1
 have HL1 := Aside0.mk hl1
 have HW := Lib.hid hW
 have Q6 := Lib.hid q6
 have Q8 := Lib.hid q8
 have WB := Aside0.mk wb
 have HSH := Lib.hid hsh
 have HN := Lib.hid hn
 have HLT := Lib.hid hlt
 have k0 : W.cell? ⟨q, 0, none⟩ = some (.pointer (some ⟨p, 0, none⟩)) := hl1.c0
 rw [← hn] at hc hm
 rw [← hn]
 clear h hl hn hlt hf1 hl1 hD1 hsh hW q6 q8 wb hpg hv1 hk
 go_enter Tryz.func45, Tryz.ntmps45
 go_wp2_with (first
  | (rw [← HW.out])
  | (rw [← HW3.out])
  | (go_at_call 46; (with_reducible refine HOK.out.mono ?_); rintro e w1 ⟨rfl, rfl⟩)
  | (go_at_call 58; (with_reducible refine HSHP.out.mono ?_); rintro e w2 ⟨rfl, hb2⟩; obtain ⟨W3, hW3⟩ : ∃ W3, W3 = w2.alloc (.cells #[.int .i64 D.s.1, .int .i64 D.s.2.1, .int .i64 D.s.2.2] TSh) := ⟨_, rfl⟩; have q10 : W3.heap[w2.heap.size]? = some (.cells #[.int .i64 D.s.1, .int .i64 D.s.2.1, .int .i64 D.s.2.2] TSh (0, 0)) := (by rw [hW3]; exact blk_new _ _); have b23 : Below w2.heap.size w2 W3 := (by rw [hW3]; exact below_alloc (Below.refl _ _) _); have hbb := hb2.trans (b23.mono hb2.size); have HF3 := Aside0.mk (hF.keep (hF.below HF1.out hb2) b23); have HL3 := Aside0.mk (HL1.out.below hbb); have p6 := (hbb.block _ (blt Q6.out)).trans Q6.out; have p8 := (hbb.block _ (blt Q8.out)).trans Q8.out; have P6 := Lib.hid p6; have P8 := Lib.hid p8; have Q10 := Lib.hid q10; have BB := Aside0.mk hbb; have HW3 := Lib.hid hW3; have z0 : W3.cell? ⟨w.heap.size + 1, 0, none⟩ = some (.int .i64 0) := bcell p8 0; have z1 : W3.cell? ⟨w.heap.size + 1, 1, none⟩ = some (.int .i64 0) := bcell p8 1; have zf : ∀ j, W3.frozen? ⟨w.heap.size + 1, j, none⟩ = false := (fun j => bfrozen p8 j); have y2 : W3.cell? ⟨w2.heap.size, 2, none⟩ = some (.int .i64 D.s.2.2) := bcell q10 2; clear hb2 hW3 q10 b23 hbb p6 p8)
  | (go_at_call 85; (with_reducible refine (HPG.out _).mono ?_); rintro e w4 ⟨rfl, hb4⟩; have x6 := (hb4.block _ (blt P6.out)).trans P6.out; have x10 := (hb4.block _ (blt Q10.out)).trans Q10.out; have X6 := Lib.hid x6; have X10 := Lib.hid x10; have HB4 := Aside0.mk hb4; clear x6 x10 hb4)
  | ((with_reducible refine gate_dst (N := 34) rfl ?_); (refine closL (some 34) rfl rfl 30 putfits_clo #[.int .i64 1] rfl rfl (by simp only [List.map_toArray, List.map_cons, List.map_nil]; rfl) ?_; refine (PutFits_any (w := w4) HSH.out (bcell X10.out 0) (bcell X10.out 1) (bcell X10.out 2) (bcell X6.out 0) (show n ≤ 9223372036854775807 by omega) 1).mono ?_; (have hvv := HV1.out; rw [← HN.out] at hvv; rw [hvv]; clear hvv); rintro e w5 ⟨rfl, hb5⟩; refine ⟨_, rfl, ?_⟩; have HB5 := Aside0.mk (HB4.out.trans (hb5.mono HB4.out.size)); have hl5 := HL3.out.below HB5.out; have k05 := hl5.c0; have k17 := hl5.c17; have k18 := hl5.c18; have x6 := (HB5.out.block _ (blt P6.out)).trans P6.out; have x8 := (HB5.out.block _ (blt P8.out)).trans P8.out; have x10 := (HB5.out.block _ (blt Q10.out)).trans Q10.out; have X65 := Lib.hid x6; have X85 := Lib.hid x8; have X105 := Lib.hid x10; have z05 : w5.cell? ⟨w.heap.size + 1, 0, none⟩ = some (.int .i64 0) := bcell x8 0; have z15 : w5.cell? ⟨w.heap.size + 1, 1, none⟩ = some (.int .i64 0) := bcell x8 1; have zf5 : ∀ j, w5.frozen? ⟨w.heap.size + 1, j, none⟩ = false := (fun j => bfrozen x8 j); have HL5 := Aside0.mk hl5; have HF5 := Aside0.mk (hF.below HF3.out HB5.out); clear hb5 hl5 x6 x8 x10)))
 obtain ⟨w9, hw9⟩ : ∃ w9, w9 = (w5.setCell ⟨w.heap.size + 1, 0, none⟩ (.int .i64 0)).setCell ⟨w.heap.size + 1, 1, none⟩ (.int .i64 0) := ⟨_, rfl⟩
 rw [← hw9]
 obtain ⟨r8, hf9, hl9, hb9, hk9⟩ := put_end hF hSt HF5.out HL5.out hq HLT.out hsz (Nat.le_succ _) X85.out (.inl (.inr ⟨Nat.le_succ _, by omega⟩)) (fun k hk => .inl (.inl hk)) ((WB.out.trans ((BB.out.trans (HB5.out.mono BB.out.size)).mono (by omega))).mono hsz) (fun k hk => (((BB.out.trans (HB5.out.mono BB.out.size)).mono (by omega)).block k (HLT.out k hk.1)).trans (WB.out.block k (HLT.out k hk.1))) hw9
 have r0 := bcell r8 0
 have r1 := bcell r8 1
 exact bodyPost_ret (v := .tuple #[.agg #[.int .i64 0, .int .i64 0], .int .i64 10]) (by simp [results, Tryz.results45, go_sem, r0, r1]) rfl ⟨rfl, hf9, hl9, hb9, hk9⟩
set_option maxHeartbeats 4000000 in
set_option maxRecDepth 100000 in
theorem LPut_full0 (hF : DevFrame N0 p F) (hSt : ∀ D, Stays (fun K w => F K D w)) (h : F K D w) (hl : LogIs q p g w) (hq : K q) (hN : N0 ≤ q) (hC : kB.C w A l.length l) (hc : l.length ≤ c) (hm : l.length < 1000000) (hk : kind ≠ 1) (hv1 : fitsS D.s 1 l.length = true) (ho : g.op < 0) (hcn : (cnt 0 (g.st.take D.s.1.toNat) : Int) < need) : Calls Tryz.prog 45 #[.pointer (some ⟨q, 0, none⟩), .int .u8 kind, .slice A l.length c, .int .i64 need] w (PutPost N0 q p F K w (0, 0) 5 D g) := by
 have hpg : ∀ X : World, Calls Tryz.prog 85 #[.int .i64 0, .int .i64 D.s.2.2] X fun e w' => e = .returned (.int .i64 1) ∧ Below X.heap.size X w' := fun X => by
  have := Pages_ok 0 D.s (hF.shape h) (by omega) X
  rw [kpg_zero (hF.shape h)] at this
  exact this
 have HPG := Lib.hid hpg
 have HKI := Lib.hid (show (kind == 1) = false by simpa using hk)
 have e_k := HKI.out
 have HV1 := Lib.hid hv1
 obtain ⟨c0, hc0⟩ : ∃ c0, c0 = cnt 0 (g.st.take D.s.1.toNat) := ⟨_, rfl⟩
 rw [← hc0] at hcn
 have HC0 := Lib.hid hc0
 clear hc0
 obtain ⟨n, hn⟩ : ∃ n, n = l.length := ⟨_, rfl⟩
 have hsz := hF.size h
 have hlt := fun k hk => hF.lt h k hk
 obtain ⟨W, hW⟩ : ∃ W, W = (w.alloc (.cells #[.slice A n c] TBs)).alloc (.cells #[.int .i64 0, .int .i64 0] TA) := ⟨_, rfl⟩
 obtain ⟨q6, q8⟩ := pair_blk w (.cells #[.slice A n c] TBs) (.cells #[.int .i64 0, .int .i64 0] TA)
 rw [← hW] at q6 q8
 have wb : Below w.heap.size w W := by rw [hW]; exact below_alloc (below_alloc (Below.refl _ _) _) _
 have wsz : W.heap.size = w.heap.size + 2 := by rw [hW, size_alloc, size_alloc]
 have hf1 := hF.keep h wb
 have hl1 := hl.below wb
 obtain ⟨ok1, hD1⟩ := hF.dev hf1
 have hsh := hD1.sound.sh
 have HOK := Lib.hid (Lok_any hl1)
 have HSHP := Lib.hid (Shape_any hD1)
 have HF1 := Aside0.mk hf1
 have HL1 := Aside0.mk hl1
 have HW := Lib.hid hW
 have Q6 := Lib.hid q6
 have Q8 := Lib.hid q8
 have WB := Aside0.mk wb
 have HSH := Lib.hid hsh
 have HN := Lib.hid hn
 have HLT := Lib.hid hlt
 have k0 : W.cell? ⟨q, 0, none⟩ = some (.pointer (some ⟨p, 0, none⟩)) := hl1.c0
 rw [← hn] at hc hm
 rw [← hn]
 clear h hl hn hlt hf1 hl1 hD1 hsh hW q6 q8 wb hpg hv1 hk
 go_enter Tryz.func45, Tryz.ntmps45
 go_wp2_with (first
  | (rw [← HW.out])
  | (rw [← HW3.out])
  | (go_at_call 46; (with_reducible refine HOK.out.mono ?_); rintro e w1 ⟨rfl, rfl⟩)
  | (go_at_call 58; (with_reducible refine HSHP.out.mono ?_); rintro e w2 ⟨rfl, hb2⟩; obtain ⟨W3, hW3⟩ : ∃ W3, W3 = w2.alloc (.cells #[.int .i64 D.s.1, .int .i64 D.s.2.1, .int .i64 D.s.2.2] TSh) := ⟨_, rfl⟩; have q10 : W3.heap[w2.heap.size]? = some (.cells #[.int .i64 D.s.1, .int .i64 D.s.2.1, .int .i64 D.s.2.2] TSh (0, 0)) := (by rw [hW3]; exact blk_new _ _); have b23 : Below w2.heap.size w2 W3 := (by rw [hW3]; exact below_alloc (Below.refl _ _) _); have hbb := hb2.trans (b23.mono hb2.size); have HF3 := Aside0.mk (hF.keep (hF.below HF1.out hb2) b23); have HL3 := Aside0.mk (HL1.out.below hbb); have p6 := (hbb.block _ (blt Q6.out)).trans Q6.out; have p8 := (hbb.block _ (blt Q8.out)).trans Q8.out; have P6 := Lib.hid p6; have P8 := Lib.hid p8; have Q10 := Lib.hid q10; have BB := Aside0.mk hbb; have HW3 := Lib.hid hW3; have z0 : W3.cell? ⟨w.heap.size + 1, 0, none⟩ = some (.int .i64 0) := bcell p8 0; have z1 : W3.cell? ⟨w.heap.size + 1, 1, none⟩ = some (.int .i64 0) := bcell p8 1; have zf : ∀ j, W3.frozen? ⟨w.heap.size + 1, j, none⟩ = false := (fun j => bfrozen p8 j); have y2 : W3.cell? ⟨w2.heap.size, 2, none⟩ = some (.int .i64 D.s.2.2) := bcell q10 2; clear hb2 hW3 q10 b23 hbb p6 p8)
  | (go_at_call 85; (with_reducible refine (HPG.out _).mono ?_); rintro e w4 ⟨rfl, hb4⟩; have x6 := (hb4.block _ (blt P6.out)).trans P6.out; have x10 := (hb4.block _ (blt Q10.out)).trans Q10.out; have X6 := Lib.hid x6; have X10 := Lib.hid x10; have HB4 := Aside0.mk hb4; clear x6 x10 hb4)
  | ((with_reducible refine gate_dst (N := 34) rfl ?_); (refine closL (some 34) rfl rfl 30 putfits_clo #[.int .i64 1] rfl rfl (by simp only [List.map_toArray, List.map_cons, List.map_nil]; rfl) ?_; refine (PutFits_any (w := w4) HSH.out (bcell X10.out 0) (bcell X10.out 1) (bcell X10.out 2) (bcell X6.out 0) (show n ≤ 9223372036854775807 by omega) 1).mono ?_; (have hvv := HV1.out; rw [← HN.out] at hvv; rw [hvv]; clear hvv); rintro e w5 ⟨rfl, hb5⟩; refine ⟨_, rfl, ?_⟩; have HB5 := Aside0.mk (HB4.out.trans (hb5.mono HB4.out.size)); have hl5 := HL3.out.below HB5.out; have k05 := hl5.c0; have k17 := hl5.c17; have k18 := hl5.c18; have x6 := (HB5.out.block _ (blt P6.out)).trans P6.out; have x8 := (HB5.out.block _ (blt P8.out)).trans P8.out; have x10 := (HB5.out.block _ (blt Q10.out)).trans Q10.out; have X65 := Lib.hid x6; have X85 := Lib.hid x8; have X105 := Lib.hid x10; have z05 : w5.cell? ⟨w.heap.size + 1, 0, none⟩ = some (.int .i64 0) := bcell x8 0; have z15 : w5.cell? ⟨w.heap.size + 1, 1, none⟩ = some (.int .i64 0) := bcell x8 1; have zf5 : ∀ j, w5.frozen? ⟨w.heap.size + 1, j, none⟩ = false := (fun j => bfrozen x8 j); have HL5 := Aside0.mk hl5; have HF5 := Aside0.mk (hF.below HF3.out HB5.out); clear hb5 hl5 x6 x8 x10))
  | (go_at_call 15; (obtain ⟨okc, hDc⟩ := hF.dev (hF.below HF3.out HB5.out)); (have hcc := LCount_any (HL3.out.below HB5.out) hDc 0); (rw [← HC0.out] at hcc); (with_reducible refine hcc.mono ?_); clear hcc hDc; rintro e w7 ⟨rfl, hb7⟩; have HB7 := Aside0.mk (HB5.out.trans (hb7.mono HB5.out.size)); have x8 := (HB7.out.block _ (blt P8.out)).trans P8.out; have X87 := Lib.hid x8; have z07 : w7.cell? ⟨w.heap.size + 1, 0, none⟩ = some (.int .i64 0) := bcell x8 0; have z17 : w7.cell? ⟨w.heap.size + 1, 1, none⟩ = some (.int .i64 0) := bcell x8 1; have zf7 : ∀ j, w7.frozen? ⟨w.heap.size + 1, j, none⟩ = false := (fun j => bfrozen x8 j); clear hb7 x8))
 obtain ⟨w9, hw9⟩ : ∃ w9, w9 = (w7.setCell ⟨w.heap.size + 1, 0, none⟩ (.int .i64 0)).setCell ⟨w.heap.size + 1, 1, none⟩ (.int .i64 0) := ⟨_, rfl⟩
 rw [← hw9]
 obtain ⟨r8, hf9, hl9, hb9, hk9⟩ := put_end hF hSt (hF.below HF3.out HB7.out) (HL3.out.below HB7.out) hq HLT.out hsz (Nat.le_succ _) X87.out (.inl (.inr ⟨Nat.le_succ _, by omega⟩)) (fun k hk => .inl (.inl hk)) ((WB.out.trans ((BB.out.trans (HB7.out.mono BB.out.size)).mono (by omega))).mono hsz) (fun k hk => (((BB.out.trans (HB7.out.mono BB.out.size)).mono (by omega)).block k (HLT.out k hk.1)).trans (WB.out.block k (HLT.out k hk.1))) hw9
 have r0 := bcell r8 0
 have r1 := bcell r8 1
 exact bodyPost_ret (v := .tuple #[.agg #[.int .i64 0, .int .i64 0], .int .i64 5]) (by simp [results, Tryz.results45, go_sem, r0, r1]) rfl ⟨rfl, hf9, hl9, hb9, hk9⟩
set_option maxHeartbeats 4000000 in
set_option maxRecDepth 100000 in
theorem LPut_fullN (hF : DevFrame N0 p F) (hSt : ∀ D, Stays (fun K w => F K D w)) (h : F K D w) (hl : LogIs q p g w) (hq : K q) (hN : N0 ≤ q) (hC : kB.C w A l.length l) (hc : l.length ≤ c) (hm : l.length < 1000000) (hk : kind ≠ 1) (hv1 : fitsS D.s 1 l.length = true) (ho : 0 ≤ g.op) (hv2 : fitsS D.s g.pg l.length = false) (hcn : (cnt 0 (g.st.take D.s.1.toNat) : Int) < need) : Calls Tryz.prog 45 #[.pointer (some ⟨q, 0, none⟩), .int .u8 kind, .slice A l.length c, .int .i64 need] w (PutPost N0 q p F K w (0, 0) 5 D g) := by
 have hpg : ∀ X : World, Calls Tryz.prog 85 #[.int .i64 0, .int .i64 D.s.2.2] X fun e w' => e = .returned (.int .i64 1) ∧ Below X.heap.size X w' := fun X => by
  have := Pages_ok 0 D.s (hF.shape h) (by omega) X
  rw [kpg_zero (hF.shape h)] at this
  exact this
 have HPG := Lib.hid hpg
 have HKI := Lib.hid (show (kind == 1) = false by simpa using hk)
 have e_k := HKI.out
 have HV1 := Lib.hid hv1
 have HV2 := Lib.hid hv2
 clear hv2
 obtain ⟨c0, hc0⟩ : ∃ c0, c0 = cnt 0 (g.st.take D.s.1.toNat) := ⟨_, rfl⟩
 rw [← hc0] at hcn
 have HC0 := Lib.hid hc0
 clear hc0
 obtain ⟨n, hn⟩ : ∃ n, n = l.length := ⟨_, rfl⟩
 have hsz := hF.size h
 have hlt := fun k hk => hF.lt h k hk
 obtain ⟨W, hW⟩ : ∃ W, W = (w.alloc (.cells #[.slice A n c] TBs)).alloc (.cells #[.int .i64 0, .int .i64 0] TA) := ⟨_, rfl⟩
 obtain ⟨q6, q8⟩ := pair_blk w (.cells #[.slice A n c] TBs) (.cells #[.int .i64 0, .int .i64 0] TA)
 rw [← hW] at q6 q8
 have wb : Below w.heap.size w W := by rw [hW]; exact below_alloc (below_alloc (Below.refl _ _) _) _
 have wsz : W.heap.size = w.heap.size + 2 := by rw [hW, size_alloc, size_alloc]
 have hf1 := hF.keep h wb
 have hl1 := hl.below wb
 obtain ⟨ok1, hD1⟩ := hF.dev hf1
 have hsh := hD1.sound.sh
 have HOK := Lib.hid (Lok_any hl1)
 have HSHP := Lib.hid (Shape_any hD1)
 have HF1 := Aside0.mk hf1
 have HL1 := Aside0.mk hl1
 have HW := Lib.hid hW
 have Q6 := Lib.hid q6
 have Q8 := Lib.hid q8
 have WB := Aside0.mk wb
 have HSH := Lib.hid hsh
 have HN := Lib.hid hn
 have HLT := Lib.hid hlt
 have k0 : W.cell? ⟨q, 0, none⟩ = some (.pointer (some ⟨p, 0, none⟩)) := hl1.c0
 rw [← hn] at hc hm
 rw [← hn]
 clear h hl hn hlt hf1 hl1 hD1 hsh hW q6 q8 wb hpg hv1 hk
 go_enter Tryz.func45, Tryz.ntmps45
 have e_o : decide (g.op < 0) = false := decide_eq_false (by omega)
 go_wp2_with (first
  | (rw [← HW.out])
  | (rw [← HW3.out])
  | (go_at_call 46; (with_reducible refine HOK.out.mono ?_); rintro e w1 ⟨rfl, rfl⟩)
  | (go_at_call 58; (with_reducible refine HSHP.out.mono ?_); rintro e w2 ⟨rfl, hb2⟩; obtain ⟨W3, hW3⟩ : ∃ W3, W3 = w2.alloc (.cells #[.int .i64 D.s.1, .int .i64 D.s.2.1, .int .i64 D.s.2.2] TSh) := ⟨_, rfl⟩; have q10 : W3.heap[w2.heap.size]? = some (.cells #[.int .i64 D.s.1, .int .i64 D.s.2.1, .int .i64 D.s.2.2] TSh (0, 0)) := (by rw [hW3]; exact blk_new _ _); have b23 : Below w2.heap.size w2 W3 := (by rw [hW3]; exact below_alloc (Below.refl _ _) _); have hbb := hb2.trans (b23.mono hb2.size); have HF3 := Aside0.mk (hF.keep (hF.below HF1.out hb2) b23); have HL3 := Aside0.mk (HL1.out.below hbb); have p6 := (hbb.block _ (blt Q6.out)).trans Q6.out; have p8 := (hbb.block _ (blt Q8.out)).trans Q8.out; have P6 := Lib.hid p6; have P8 := Lib.hid p8; have Q10 := Lib.hid q10; have BB := Aside0.mk hbb; have HW3 := Lib.hid hW3; have z0 : W3.cell? ⟨w.heap.size + 1, 0, none⟩ = some (.int .i64 0) := bcell p8 0; have z1 : W3.cell? ⟨w.heap.size + 1, 1, none⟩ = some (.int .i64 0) := bcell p8 1; have zf : ∀ j, W3.frozen? ⟨w.heap.size + 1, j, none⟩ = false := (fun j => bfrozen p8 j); have y2 : W3.cell? ⟨w2.heap.size, 2, none⟩ = some (.int .i64 D.s.2.2) := bcell q10 2; clear hb2 hW3 q10 b23 hbb p6 p8)
  | (go_at_call 85; (with_reducible refine (HPG.out _).mono ?_); rintro e w4 ⟨rfl, hb4⟩; have x6 := (hb4.block _ (blt P6.out)).trans P6.out; have x10 := (hb4.block _ (blt Q10.out)).trans Q10.out; have X6 := Lib.hid x6; have X10 := Lib.hid x10; have HB4 := Aside0.mk hb4; clear x6 x10 hb4)
  | ((with_reducible refine gate_dst (N := 34) rfl ?_); (refine closL (some 34) rfl rfl 30 putfits_clo #[.int .i64 1] rfl rfl (by simp only [List.map_toArray, List.map_cons, List.map_nil]; rfl) ?_; refine (PutFits_any (w := w4) HSH.out (bcell X10.out 0) (bcell X10.out 1) (bcell X10.out 2) (bcell X6.out 0) (show n ≤ 9223372036854775807 by omega) 1).mono ?_; (have hvv := HV1.out; rw [← HN.out] at hvv; rw [hvv]; clear hvv); rintro e w5 ⟨rfl, hb5⟩; refine ⟨_, rfl, ?_⟩; have HB5 := Aside0.mk (HB4.out.trans (hb5.mono HB4.out.size)); have hl5 := HL3.out.below HB5.out; have k05 := hl5.c0; have k17 := hl5.c17; have k18 := hl5.c18; have x6 := (HB5.out.block _ (blt P6.out)).trans P6.out; have x8 := (HB5.out.block _ (blt P8.out)).trans P8.out; have x10 := (HB5.out.block _ (blt Q10.out)).trans Q10.out; have X65 := Lib.hid x6; have X85 := Lib.hid x8; have X105 := Lib.hid x10; have z05 : w5.cell? ⟨w.heap.size + 1, 0, none⟩ = some (.int .i64 0) := bcell x8 0; have z15 : w5.cell? ⟨w.heap.size + 1, 1, none⟩ = some (.int .i64 0) := bcell x8 1; have zf5 : ∀ j, w5.frozen? ⟨w.heap.size + 1, j, none⟩ = false := (fun j => bfrozen x8 j); have HL5 := Aside0.mk hl5; have HF5 := Aside0.mk (hF.below HF3.out HB5.out); clear hb5 hl5 x6 x8 x10))
  | ((with_reducible refine gate_dst (N := 48) rfl ?_); (refine closG (some 48) rfl (by kernel_rfl) 43 putfits_clo #[.int .i64 g.pg] rfl rfl (by simp only [List.map_toArray, List.map_cons, List.map_nil]; rfl) ?_; refine (PutFits_any (w := w5) HSH.out (bcell X105.out 0) (bcell X105.out 1) (bcell X105.out 2) (bcell X65.out 0) (show n ≤ 9223372036854775807 by omega) g.pg).mono ?_; (have hvv := HV2.out; rw [← HN.out] at hvv; rw [hvv]; clear hvv); rintro e w6 ⟨rfl, hb6⟩; refine ⟨_, rfl, ?_⟩; have HB6 := Aside0.mk (HB5.out.trans (hb6.mono HB5.out.size)); have x6 := (hb6.block _ (blt X65.out)).trans X65.out; have x8 := (hb6.block _ (blt X85.out)).trans X85.out; have X66 := Lib.hid x6; have X86 := Lib.hid x8; clear x6 x8 hb6))
  | (go_at_call 15; (obtain ⟨okc, hDc⟩ := hF.dev (hF.below HF3.out HB6.out)); (have hcc := LCount_any (HL3.out.below HB6.out) hDc 0); (rw [← HC0.out] at hcc); (with_reducible refine hcc.mono ?_); clear hcc hDc; rintro e w7 ⟨rfl, hb7⟩; have HB7 := Aside0.mk (HB6.out.trans (hb7.mono HB6.out.size)); have x8 := (HB7.out.block _ (blt P8.out)).trans P8.out; have X87 := Lib.hid x8; have z07 : w7.cell? ⟨w.heap.size + 1, 0, none⟩ = some (.int .i64 0) := bcell x8 0; have z17 : w7.cell? ⟨w.heap.size + 1, 1, none⟩ = some (.int .i64 0) := bcell x8 1; have zf7 : ∀ j, w7.frozen? ⟨w.heap.size + 1, j, none⟩ = false := (fun j => bfrozen x8 j); clear hb7 x8))
 obtain ⟨w9, hw9⟩ : ∃ w9, w9 = (w7.setCell ⟨w.heap.size + 1, 0, none⟩ (.int .i64 0)).setCell ⟨w.heap.size + 1, 1, none⟩ (.int .i64 0) := ⟨_, rfl⟩
 rw [← hw9]
 obtain ⟨r8, hf9, hl9, hb9, hk9⟩ := put_end hF hSt (hF.below HF3.out HB7.out) (HL3.out.below HB7.out) hq HLT.out hsz (Nat.le_succ _) X87.out (.inl (.inr ⟨Nat.le_succ _, by omega⟩)) (fun k hk => .inl (.inl hk)) ((WB.out.trans ((BB.out.trans (HB7.out.mono BB.out.size)).mono (by omega))).mono hsz) (fun k hk => (((BB.out.trans (HB7.out.mono BB.out.size)).mono (by omega)).block k (HLT.out k hk.1)).trans (WB.out.block k (HLT.out k hk.1))) hw9
 have r0 := bcell r8 0
 have r1 := bcell r8 1
 exact bodyPost_ret (v := .tuple #[.agg #[.int .i64 0, .int .i64 0], .int .i64 5]) (by simp [results, Tryz.results45, go_sem, r0, r1]) rfl ⟨rfl, hf9, hl9, hb9, hk9⟩
set_option maxHeartbeats 4000000 in
set_option maxRecDepth 100000 in
theorem LPut_app (hF : DevFrame N0 p F) (hSt : ∀ D, Stays (fun K w => F K D w)) (h : F K D w) (hl : LogIs q p g w) (hq : K q) (hN : N0 ≤ q) (hC : kB.C w A l.length l) (hc : l.length ≤ c) (hm : l.length < 1000000) (hk : kind ≠ 1) (hv1 : fitsS D.s 1 l.length = true) (ho : 0 ≤ g.op) (hv2 : fitsS D.s g.pg l.length = true) (hkk : KindOk kind) (hBl : Byt l) (hCx : ∀ X, Below N0 w X → Kept (fun k => K k ∧ k ≠ q) w X → kB.C X A l.length l) (hdd : D.dirty.length < 900000) (hsq : SeqOk (g.nx - 1)) (hn1 : 1 ≤ g.nx) (hn2 : g.nx < 1000000) (hp0 : 0 ≤ g.pg) {k : Nat} (hp1 : g.pg + (k : Int) < 1000) (hap : appE D g.op g.pg l.length = ((k : Int), 0)) : Calls Tryz.prog 45 #[.pointer (some ⟨q, 0, none⟩), .int .u8 kind, .slice A l.length c, .int .i64 need] w (PutPost N0 q p F K w (g.op, g.pg) 0 (appD D g.op g.pg l.length (rec kind (g.nx - 1) l)) { g with pg := g.pg + (k : Int) }) := by
 have hpg : ∀ X : World, Calls Tryz.prog 85 #[.int .i64 0, .int .i64 D.s.2.2] X fun e w' => e = .returned (.int .i64 1) ∧ Below X.heap.size X w' := fun X => by
  have := Pages_ok 0 D.s (hF.shape h) (by omega) X
  rw [kpg_zero (hF.shape h)] at this
  exact this
 have HPG := Lib.hid hpg
 have HKI := Lib.hid (show (kind == 1) = false by simpa using hk)
 have e_k := HKI.out
 have HV1 := Lib.hid hv1
 have HV2 := Lib.hid hv2
 have HAP := Lib.hid hap
 have HCX := Lib.hid hCx
 clear hv2 hap hCx
 obtain ⟨n, hn⟩ : ∃ n, n = l.length := ⟨_, rfl⟩
 have hsz := hF.size h
 have hlt := fun k hk => hF.lt h k hk
 obtain ⟨W, hW⟩ : ∃ W, W = (w.alloc (.cells #[.slice A n c] TBs)).alloc (.cells #[.int .i64 0, .int .i64 0] TA) := ⟨_, rfl⟩
 obtain ⟨q6, q8⟩ := pair_blk w (.cells #[.slice A n c] TBs) (.cells #[.int .i64 0, .int .i64 0] TA)
 rw [← hW] at q6 q8
 have wb : Below w.heap.size w W := by rw [hW]; exact below_alloc (below_alloc (Below.refl _ _) _) _
 have wsz : W.heap.size = w.heap.size + 2 := by rw [hW, size_alloc, size_alloc]
 have hf1 := hF.keep h wb
 have hl1 := hl.below wb
 obtain ⟨ok1, hD1⟩ := hF.dev hf1
 have hsh := hD1.sound.sh
 have HOK := Lib.hid (Lok_any hl1)
 have HSHP := Lib.hid (Shape_any hD1)
 have HF1 := Aside0.mk hf1
 have HL1 := Aside0.mk hl1
 have HW := Lib.hid hW
 have Q6 := Lib.hid q6
 have Q8 := Lib.hid q8
 have WB := Aside0.mk wb
 have HSH := Lib.hid hsh
 have HN := Lib.hid hn
 have HLT := Lib.hid hlt
 have k0 : W.cell? ⟨q, 0, none⟩ = some (.pointer (some ⟨p, 0, none⟩)) := hl1.c0
 rw [← hn] at hc hm
 rw [← hn]
 clear h hl hn hlt hf1 hl1 hD1 hsh hW q6 q8 wb hpg hv1 hk
 go_enter Tryz.func45, Tryz.ntmps45
 have e_o : decide (g.op < 0) = false := decide_eq_false (by omega)
 go_wp2_with (first
  | (rw [← HW.out])
  | (rw [← HW3.out])
  | (go_at_call 46; (with_reducible refine HOK.out.mono ?_); rintro e w1 ⟨rfl, rfl⟩)
  | (go_at_call 58; (with_reducible refine HSHP.out.mono ?_); rintro e w2 ⟨rfl, hb2⟩; obtain ⟨W3, hW3⟩ : ∃ W3, W3 = w2.alloc (.cells #[.int .i64 D.s.1, .int .i64 D.s.2.1, .int .i64 D.s.2.2] TSh) := ⟨_, rfl⟩; have q10 : W3.heap[w2.heap.size]? = some (.cells #[.int .i64 D.s.1, .int .i64 D.s.2.1, .int .i64 D.s.2.2] TSh (0, 0)) := (by rw [hW3]; exact blk_new _ _); have b23 : Below w2.heap.size w2 W3 := (by rw [hW3]; exact below_alloc (Below.refl _ _) _); have hbb := hb2.trans (b23.mono hb2.size); have HF3 := Aside0.mk (hF.keep (hF.below HF1.out hb2) b23); have HL3 := Aside0.mk (HL1.out.below hbb); have p6 := (hbb.block _ (blt Q6.out)).trans Q6.out; have p8 := (hbb.block _ (blt Q8.out)).trans Q8.out; have P6 := Lib.hid p6; have P8 := Lib.hid p8; have Q10 := Lib.hid q10; have BB := Aside0.mk hbb; have HW3 := Lib.hid hW3; have z0 : W3.cell? ⟨w.heap.size + 1, 0, none⟩ = some (.int .i64 0) := bcell p8 0; have z1 : W3.cell? ⟨w.heap.size + 1, 1, none⟩ = some (.int .i64 0) := bcell p8 1; have zf : ∀ j, W3.frozen? ⟨w.heap.size + 1, j, none⟩ = false := (fun j => bfrozen p8 j); have y2 : W3.cell? ⟨w2.heap.size, 2, none⟩ = some (.int .i64 D.s.2.2) := bcell q10 2; clear hb2 hW3 q10 b23 hbb p6 p8)
  | (go_at_call 85; (with_reducible refine (HPG.out _).mono ?_); rintro e w4 ⟨rfl, hb4⟩; have x6 := (hb4.block _ (blt P6.out)).trans P6.out; have x10 := (hb4.block _ (blt Q10.out)).trans Q10.out; have X6 := Lib.hid x6; have X10 := Lib.hid x10; have HB4 := Aside0.mk hb4; clear x6 x10 hb4)
  | ((with_reducible refine gate_dst (N := 34) rfl ?_); (refine closL (some 34) rfl rfl 30 putfits_clo #[.int .i64 1] rfl rfl (by simp only [List.map_toArray, List.map_cons, List.map_nil]; rfl) ?_; refine (PutFits_any (w := w4) HSH.out (bcell X10.out 0) (bcell X10.out 1) (bcell X10.out 2) (bcell X6.out 0) (show n ≤ 9223372036854775807 by omega) 1).mono ?_; (have hvv := HV1.out; rw [← HN.out] at hvv; rw [hvv]; clear hvv); rintro e w5 ⟨rfl, hb5⟩; refine ⟨_, rfl, ?_⟩; have HB5 := Aside0.mk (HB4.out.trans (hb5.mono HB4.out.size)); have hl5 := HL3.out.below HB5.out; have k05 := hl5.c0; have k17 := hl5.c17; have k18 := hl5.c18; have x6 := (HB5.out.block _ (blt P6.out)).trans P6.out; have x8 := (HB5.out.block _ (blt P8.out)).trans P8.out; have x10 := (HB5.out.block _ (blt Q10.out)).trans Q10.out; have X65 := Lib.hid x6; have X85 := Lib.hid x8; have X105 := Lib.hid x10; have z05 : w5.cell? ⟨w.heap.size + 1, 0, none⟩ = some (.int .i64 0) := bcell x8 0; have z15 : w5.cell? ⟨w.heap.size + 1, 1, none⟩ = some (.int .i64 0) := bcell x8 1; have zf5 : ∀ j, w5.frozen? ⟨w.heap.size + 1, j, none⟩ = false := (fun j => bfrozen x8 j); have HL5 := Aside0.mk hl5; have HF5 := Aside0.mk (hF.below HF3.out HB5.out); clear hb5 hl5 x6 x8 x10))
  | ((with_reducible refine gate_dst (N := 48) rfl ?_); (refine closG (some 48) rfl (by kernel_rfl) 43 putfits_clo #[.int .i64 g.pg] rfl rfl (by simp only [List.map_toArray, List.map_cons, List.map_nil]; rfl) ?_; refine (PutFits_any (w := w5) HSH.out (bcell X105.out 0) (bcell X105.out 1) (bcell X105.out 2) (bcell X65.out 0) (show n ≤ 9223372036854775807 by omega) g.pg).mono ?_; (have hvv := HV2.out; rw [← HN.out] at hvv; rw [hvv]; clear hvv); rintro e w6 ⟨rfl, hb6⟩; refine ⟨_, rfl, ?_⟩; have HB6 := Aside0.mk (HB5.out.trans (hb6.mono HB5.out.size)); have x6 := (hb6.block _ (blt X65.out)).trans X65.out; have x8 := (hb6.block _ (blt X85.out)).trans X85.out; have X66 := Lib.hid x6; have X86 := Lib.hid x8; clear x6 x8 hb6)))
 have y0 := (HL3.out.below HB6.out).c0
 have y17 := (HL3.out.below HB6.out).c17
 have y18 := (HL3.out.below HB6.out).c18
 refine wp_region_held_drew (S := (fun w' => w'.cell? ⟨q, 0, none⟩ = some (.pointer (some ⟨p, 0, none⟩)) ∧ w'.cell? ⟨q, 17, none⟩ = some (.int .i64 g.op) ∧ w'.cell? ⟨q, 18, none⟩ = some (.int .i64 g.pg))) (by kernel_rfl) ?_ (fun hHeld => ?_)
 ·first | go_keep | exact ⟨y0, y17, y18⟩
 first | refine tkY 0 ?_ | refine tkN 0 ?_
 try simp only [Act.put, tk1, tk2, tk3]
 first | refine tkY 1 ?_ | refine tkN 1 ?_
 try simp only [Act.put, tk1, tk2, tk3]
 first | refine tkY 2 ?_ | refine tkN 2 ?_
 try simp only [Act.put, tk1, tk2, tk3]
 first | refine tkY 3 ?_ | refine tkN 3 ?_
 try simp only [Act.put, tk1, tk2, tk3]
 first | refine tkY 4 ?_ | refine tkN 4 ?_
 try simp only [Act.put, tk1, tk2, tk3]
 first | refine tkY 5 ?_ | refine tkN 5 ?_
 try simp only [Act.put, tk1, tk2, tk3]
 first | refine tkY 6 ?_ | refine tkN 6 ?_
 try simp only [Act.put, tk1, tk2, tk3]
 first | refine tkY 7 ?_ | refine tkN 7 ?_
 try simp only [Act.put, tk1, tk2, tk3]
 first | refine tkY 8 ?_ | refine tkN 8 ?_
 try simp only [Act.put, tk1, tk2, tk3]
 refine wpAnyH_ready (rs := [9]) (by kernel_rfl) (by simp) ?_
 refine AllReadyH.cons (by (simp only [List.getElem?_toArray, List.getElem?_cons_succ, List.getElem?_cons_zero]; rfl)) (fun K hK => ?_) AllReadyH.nil
 go_simp
 (try dsimp only)
 refine hK.out _ _ ?_ (fun hHeld => ?_)
 ·first | go_keep | exact ⟨y0, y17, y18⟩
 clear hK K
 try simp only [Act.put, tk1, tk2, tk3]
 refine wpAnyH_ready (rs := [10]) (by kernel_rfl) (by simp) ?_
 refine AllReadyH.cons (by (simp only [List.getElem?_toArray, List.getElem?_cons_succ, List.getElem?_cons_zero]; rfl)) (fun K hK => ?_) AllReadyH.nil
 go_simp
 (try dsimp only)
 refine hK.out _ _ ?_ (fun hHeld => ?_)
 ·first | go_keep | exact ⟨y0, y17, y18⟩
 clear hK K
 try simp only [Act.put, tk1, tk2, tk3]
 refine wpAnyH_done (by kernel_rfl) ?_ _
 obtain ⟨Y, hY⟩ : ∃ Y, Y = (w6.alloc (.cells #[.int .i64 g.op, .int .i64 g.pg] TA)).drew := ⟨_, rfl⟩
 rw [← hY]
 have qY : Y.heap[w6.heap.size]? = some (.cells #[.int .i64 g.op, .int .i64 g.pg] TA (0, 0)) := by rw [hY]; exact blk_new _ _
 have bY : Below w6.heap.size w6 Y := by rw [hY]; exact (below_alloc (Below.refl _ _) _).drew
 have bYd : Below w6.heap.size w6 Y.drew := bY.drew
 have sY : Y.heap.size = w6.heap.size + 1 := by rw [hY]; exact size_alloc _ _
 have fY := hF.keep (hF.below HF3.out HB6.out) bYd
 have lY := (HL3.out.below HB6.out).below bY
 have zY0 := lY.c0
 have zY17 := lY.c17
 have zY18 := lY.c18
 have zY19 := lY.c19
 have zY6 : Y.cell? ⟨w.heap.size, 0, none⟩ = some (.slice A n c) := bcell ((bY.block _ (blt X66.out)).trans X66.out) 0
 have belX : Below N0 w w6 := ((WB.out.trans ((BB.out.trans (HB6.out.mono BB.out.size)).mono (by omega))).mono hsz)
 have kepX : Kept (fun k => K k ∧ k ≠ q) w w6 := (fun k hk => (((BB.out.trans (HB6.out.mono BB.out.size)).mono (by omega)).block k (HLT.out k hk.1)).trans (WB.out.block k (HLT.out k hk.1)))
 have bNY : Below N0 w Y.drew := belX.trans (bYd.mono (by have := belX.size; omega))
 have kNY : Kept (fun k => K k ∧ k ≠ q) w Y.drew := fun k hk => (bYd.block k (by have := HLT.out k hk.1; have := belX.size; omega)).trans (kepX k hk)
 have happ := Append_F (kind := kind) (seq := (g.nx - 1)) hF fY g.op g.pg hkk hsq hBl (HCX.out _ bNY kNY) (by rw [← HN.out]; exact hc) (by rw [← HN.out]; exact hm) hdd
 rw [HAP.out, ← HN.out] at happ
 have HAPP := Lib.hid happ
 have HFK := Aside0.mk fY
 have LY := Aside0.mk lY
 have QY := Lib.hid qY
 have BY := Aside0.mk bY
 have HY := Lib.hid hY
 have hwx : IntKind.u64.wrap (g.nx - 1) = g.nx - 1 := IntWalk.u64_in _ (by omega)
 have hwk : IntKind.i64.wrap (g.pg + (k : Int)) = g.pg + (k : Int) := IntWalk.i64_in _ (by omega)
 have BX := Aside0.mk belX
 have KX := Lib.hid kepX
 have nq1 : ¬ w6.heap.size = q := by have := blt (HL3.out.below HB6.out).blk; omega
 have nq2 : ¬ q = w6.heap.size := fun e => nq1 e.symm
 have nq3 : ¬ w.heap.size + 1 = q := by have := HLT.out q hq; omega
 have nq4 : ¬ q = w.heap.size + 1 := fun e => nq3 e.symm
 have nq5 : ¬ w6.heap.size = w.heap.size + 1 := by have := blt X86.out; omega
 have nq6 : ¬ w.heap.size + 1 = w6.heap.size := fun e => nq5 e.symm
 clear qY bY bYd fY lY belX kepX bNY kNY happ hY y0 y17 y18 hHeld
 go_wp2_with fail
 refine wp_region_held_drew (S := (fun w' => w'.cell? ⟨q, 0, none⟩ = some (.pointer (some ⟨p, 0, none⟩)) ∧ w'.cell? ⟨q, 17, none⟩ = some (.int .i64 g.op) ∧ w'.cell? ⟨q, 18, none⟩ = some (.int .i64 g.pg) ∧ w'.cell? ⟨q, 19, none⟩ = some (.int .u64 g.nx) ∧ w'.cell? ⟨w.heap.size, 0, none⟩ = some (.slice A n c))) (by kernel_rfl) ?_ (fun hHeld => ?_)
 ·first | exact ⟨zY0, zY17, zY18, zY19, zY6⟩ | exact ⟨s0, s17, s18, s19, s6⟩
 first | refine tkY 0 ?_ | refine tkN 0 ?_
 try simp only [Act.put, tk1, tk2, tk3]
 first | refine tkY 1 ?_ | refine tkN 1 ?_
 try simp only [Act.put, tk1, tk2, tk3]
 first | refine tkY 2 ?_ | refine tkN 2 ?_
 try simp only [Act.put, tk1, tk2, tk3]
 first | refine tkY 3 ?_ | refine tkN 3 ?_
 try simp only [Act.put, tk1, tk2, tk3]
 first | refine tkY 4 ?_ | refine tkN 4 ?_
 try simp only [Act.put, tk1, tk2, tk3]
 first | refine tkY 5 ?_ | refine tkN 5 ?_
 try simp only [Act.put, tk1, tk2, tk3]
 first | refine tkY 6 ?_ | refine tkN 6 ?_
 try simp only [Act.put, tk1, tk2, tk3]
 first | refine tkY 7 ?_ | refine tkN 7 ?_
 try simp only [Act.put, tk1, tk2, tk3]
 first | refine tkY 8 ?_ | refine tkN 8 ?_
 try simp only [Act.put, tk1, tk2, tk3]
 first | refine tkY 9 ?_ | refine tkN 9 ?_
 try simp only [Act.put, tk1, tk2, tk3]
 first | refine tkY 10 ?_ | refine tkN 10 ?_
 try simp only [Act.put, tk1, tk2, tk3]
 first | refine tkY 11 ?_ | refine tkN 11 ?_
 try simp only [Act.put, tk1, tk2, tk3]
 first | refine tkY 12 ?_ | refine tkN 12 ?_
 try simp only [Act.put, tk1, tk2, tk3]
 first | refine tkY 13 ?_ | refine tkN 13 ?_
 try simp only [Act.put, tk1, tk2, tk3]
 first | refine tkY 14 ?_ | refine tkN 14 ?_
 try simp only [Act.put, tk1, tk2, tk3]
 first | refine tkY 15 ?_ | refine tkN 15 ?_
 try simp only [Act.put, tk1, tk2, tk3]
 first | refine tkY 16 ?_ | refine tkN 16 ?_
 try simp only [Act.put, tk1, tk2, tk3]
 first | refine tkY 17 ?_ | refine tkN 17 ?_
 try simp only [Act.put, tk1, tk2, tk3]
 first | refine tkY 18 ?_ | refine tkN 18 ?_
 try simp only [Act.put, tk1, tk2, tk3]
 refine wpAnyH_ready (rs := [19]) (by kernel_rfl) (by simp) ?_
 refine AllReadyH.cons (by (simp only [List.getElem?_toArray, List.getElem?_cons_succ, List.getElem?_cons_zero]; rfl)) (fun K hK => ?_) AllReadyH.nil
 go_simp
 (go_at_call 87; (with_reducible refine HAPP.out.mono ?_); rintro e w10 ⟨rfl, hf10, hb10, hk10⟩; have hl10 : LogIs q p g w10 := ⟨LY.out.len, (hk10 q (.inl (.inl (.inl hq)))).trans LY.out.blk⟩; have s0 := hl10.c0; have s17 := hl10.c17; have s18 := hl10.c18; have s19 := hl10.c19; have fr18 := hl10.frozen 18; have x6 := (hk10 w.heap.size (.inl (.inl (.inr ⟨Nat.le_refl _, by omega⟩)))).trans ((BY.out.block _ (blt X66.out)).trans X66.out); have x8 := (hk10 (w.heap.size + 1) (.inl (.inl (.inr ⟨Nat.le_succ _, by omega⟩)))).trans ((BY.out.block _ (blt X86.out)).trans X86.out); have x12 := (hk10 w6.heap.size (.inr ⟨Nat.le_refl _, by show _ < Y.heap.size; omega⟩)).trans QY.out; have s6 : w10.cell? ⟨w.heap.size, 0, none⟩ = some (.slice A n c) := bcell x6 0; have m0 : w10.cell? ⟨w.heap.size + 1, 0, none⟩ = some (.int .i64 0) := bcell x8 0; have m1 : w10.cell? ⟨w.heap.size + 1, 1, none⟩ = some (.int .i64 0) := bcell x8 1; have mf : ∀ j, w10.frozen? ⟨w.heap.size + 1, j, none⟩ = false := (fun j => bfrozen x8 j); have t0 : w10.cell? ⟨w6.heap.size, 0, none⟩ = some (.int .i64 g.op) := bcell x12 0; have t1 : w10.cell? ⟨w6.heap.size, 1, none⟩ = some (.int .i64 g.pg) := bcell x12 1; have HL10 := Aside0.mk hl10; have X810 := Lib.hid x8; have HF10 := Aside0.mk hf10; have HB10 := Aside0.mk (BX.out.trans ((show Below N0 w6 Y.drew from (BY.out.drew).mono (by have := BX.out.size; omega)).trans hb10)); have HKR := Lib.hid hk10; clear hl10 hf10 hb10 hk10 x6 x8 x12)
 (try dsimp only)
 refine hK.out _ _ ?_ (fun hHeld => ?_)
 ·first | exact ⟨zY0, zY17, zY18, zY19, zY6⟩ | exact ⟨s0, s17, s18, s19, s6⟩
 clear hK K
 try simp only [Act.put, tk1, tk2, tk3]
 first | refine tkY 20 ?_ | refine tkN 20 ?_
 try simp only [Act.put, tk1, tk2, tk3]
 first | refine tkY 21 ?_ | refine tkN 21 ?_
 try simp only [Act.put, tk1, tk2, tk3]
 first | refine tkY 22 ?_ | refine tkN 22 ?_
 try simp only [Act.put, tk1, tk2, tk3]
 first | refine tkY 23 ?_ | refine tkN 23 ?_
 try simp only [Act.put, tk1, tk2, tk3]
 first | refine tkY 24 ?_ | refine tkN 24 ?_
 try simp only [Act.put, tk1, tk2, tk3]
 refine wpAnyH_done (by kernel_rfl) ?_ _
 go_wp2_with fail
 have HK10 := Lib.hid (show Kept (fun k => K k ∧ k ≠ q) w w10 from fun k hk => (HKR.out k (.inl (.inl (.inl hk.1)))).trans ((BY.out.block k (by have := HLT.out k hk.1; have := BX.out.size; omega)).trans (KX.out k hk)))
 have hl11 := HL10.out.setPg (g.pg + (k : Int))
 have hu11 := Upd.setCell w10 (p := ⟨q, 18, none⟩) (S := fun k => k = q) rfl (.int .i64 (g.pg + (k : Int)))
 have hf11 := hSt _ _ w10 _ q _ _ _ HF10.out (.inl (.inl (.inl hq))) HL10.out.blk hl11.blk (by decide) hu11
 have s10 := hF.size HF10.out
 have hb11 := HB10.out.trans (hu11.below s10 (fun k hk => by rw [hk]; exact hN))
 have x811 := (hu11.block (w.heap.size + 1) (blt X810.out) (fun e => nq3 e)).trans X810.out
 have hk11 : Kept (fun k => K k ∧ k ≠ q) w (w10.setCell ⟨q, 18, none⟩ (.int .i64 (g.pg + (k : Int)))) := fun k hk => (hu11.block k (hF.lt HF10.out k (.inl (.inl (.inl hk.1)))) hk.2).trans (HK10.out k hk)
 obtain ⟨w9, hw9⟩ : ∃ w9, w9 = ((w10.setCell ⟨q, 18, none⟩ (.int .i64 (g.pg + (k : Int)))).setCell ⟨w.heap.size + 1, 0, none⟩ (.int .i64 g.op)).setCell ⟨w.heap.size + 1, 1, none⟩ (.int .i64 g.pg) := ⟨_, rfl⟩
 rw [← hw9]
 obtain ⟨r8, hf9, hl9, hb9, hk9⟩ := put_end hF hSt hf11 hl11 hq HLT.out hsz (Nat.le_succ _) x811 (.inl (.inl (.inr ⟨Nat.le_succ _, by omega⟩))) (fun k hk => .inl (.inl (.inl hk))) hb11 hk11 hw9
 have r0 := bcell r8 0
 have r1 := bcell r8 1
 exact bodyPost_ret (v := .tuple #[.agg #[.int .i64 g.op, .int .i64 g.pg], .int .i64 0]) (by simp [results, Tryz.results45, go_sem, r0, r1]) rfl ⟨rfl, hf9, hl9, hb9, hk9⟩
set_option maxHeartbeats 4000000 in
set_option maxRecDepth 100000 in
theorem LPut_turn0 (hF : DevFrame N0 p F) (hSt : ∀ D, Stays (fun K w => F K D w)) (h : F K D w) (hl : LogIs q p g w) (hq : K q) (hN : N0 ≤ q) (hC : kB.C w A l.length l) (hc : l.length ≤ c) (hm : l.length < 1000000) (hk : kind ≠ 1) (hv1 : fitsS D.s 1 l.length = true) (ho : g.op < 0) (hkk : KindOk kind) (hBl : Byt l) (hCx : ∀ X, Below N0 w X → Kept (fun k => K k ∧ k ≠ q) w X → kB.C X A l.length l) (hd0 : D.dirty.length < 900000) {m : Nat} (hdd : (appD D (m : Int) 0 0 (rec 1 g.nx [])).dirty.length < 900000) (ho16 : g.op < 16) (hsq : SeqOk g.nx) (hn1 : 0 ≤ g.nx) (hn2 : g.nx < 1000000) (hm16 : m < 16) (hfi : ∀ r, FirstAt (sealG g).st 0 r → r = (m : Int)) {k : Nat} (hp1 : (k : Int) < 900) (hap : appE (appD D (m : Int) 0 0 (rec 1 g.nx [])) (m : Int) 1 l.length = ((k : Int), 0)) (hcn : ¬ (cnt 0 (g.st.take D.s.1.toNat) : Int) < need) : Calls Tryz.prog 45 #[.pointer (some ⟨q, 0, none⟩), .int .u8 kind, .slice A l.length c, .int .i64 need] w (PutPost N0 q p F K w ((m : Int), 1) 0 (appD (appD D (m : Int) 0 0 (rec 1 g.nx [])) (m : Int) 1 l.length (rec kind g.nx l)) { st := (sealG g).st.set m 1, op := (m : Int), pg := 1 + (k : Int), nx := g.nx + 1 }) := by
 have hpg : ∀ X : World, Calls Tryz.prog 85 #[.int .i64 0, .int .i64 D.s.2.2] X fun e w' => e = .returned (.int .i64 1) ∧ Below X.heap.size X w' := fun X => by
  have := Pages_ok 0 D.s (hF.shape h) (by omega) X
  rw [kpg_zero (hF.shape h)] at this
  exact this
 have HPG := Lib.hid hpg
 have HKI := Lib.hid (show (kind == 1) = false by simpa using hk)
 have e_k := HKI.out
 have HV1 := Lib.hid hv1
 obtain ⟨c0, hc0⟩ : ∃ c0, c0 = cnt 0 (g.st.take D.s.1.toNat) := ⟨_, rfl⟩
 rw [← hc0] at hcn
 have HC0 := Lib.hid hc0
 clear hc0
 have HAP := Lib.hid hap
 have HCX := Lib.hid hCx
 have HFI := Lib.hid hfi
 clear hap hCx hfi
 obtain ⟨n, hn⟩ : ∃ n, n = l.length := ⟨_, rfl⟩
 have hsz := hF.size h
 have hlt := fun k hk => hF.lt h k hk
 obtain ⟨W, hW⟩ : ∃ W, W = (w.alloc (.cells #[.slice A n c] TBs)).alloc (.cells #[.int .i64 0, .int .i64 0] TA) := ⟨_, rfl⟩
 obtain ⟨q6, q8⟩ := pair_blk w (.cells #[.slice A n c] TBs) (.cells #[.int .i64 0, .int .i64 0] TA)
 rw [← hW] at q6 q8
 have wb : Below w.heap.size w W := by rw [hW]; exact below_alloc (below_alloc (Below.refl _ _) _) _
 have wsz : W.heap.size = w.heap.size + 2 := by rw [hW, size_alloc, size_alloc]
 have hf1 := hF.keep h wb
 have hl1 := hl.below wb
 obtain ⟨ok1, hD1⟩ := hF.dev hf1
 have hsh := hD1.sound.sh
 have HOK := Lib.hid (Lok_any hl1)
 have HSHP := Lib.hid (Shape_any hD1)
 have HF1 := Aside0.mk hf1
 have HL1 := Aside0.mk hl1
 have HW := Lib.hid hW
 have Q6 := Lib.hid q6
 have Q8 := Lib.hid q8
 have WB := Aside0.mk wb
 have HSH := Lib.hid hsh
 have HN := Lib.hid hn
 have HLT := Lib.hid hlt
 have k0 : W.cell? ⟨q, 0, none⟩ = some (.pointer (some ⟨p, 0, none⟩)) := hl1.c0
 rw [← hn] at hc hm
 rw [← hn]
 clear h hl hn hlt hf1 hl1 hD1 hsh hW q6 q8 wb hpg hv1 hk
 go_enter Tryz.func45, Tryz.ntmps45
 have e_c : decide ((c0 : Int) < need) = false := decide_eq_false hcn
 go_wp2_with (first
  | (rw [← HW.out])
  | (rw [← HW3.out])
  | (go_at_call 46; (with_reducible refine HOK.out.mono ?_); rintro e w1 ⟨rfl, rfl⟩)
  | (go_at_call 58; (with_reducible refine HSHP.out.mono ?_); rintro e w2 ⟨rfl, hb2⟩; obtain ⟨W3, hW3⟩ : ∃ W3, W3 = w2.alloc (.cells #[.int .i64 D.s.1, .int .i64 D.s.2.1, .int .i64 D.s.2.2] TSh) := ⟨_, rfl⟩; have q10 : W3.heap[w2.heap.size]? = some (.cells #[.int .i64 D.s.1, .int .i64 D.s.2.1, .int .i64 D.s.2.2] TSh (0, 0)) := (by rw [hW3]; exact blk_new _ _); have b23 : Below w2.heap.size w2 W3 := (by rw [hW3]; exact below_alloc (Below.refl _ _) _); have hbb := hb2.trans (b23.mono hb2.size); have HF3 := Aside0.mk (hF.keep (hF.below HF1.out hb2) b23); have HL3 := Aside0.mk (HL1.out.below hbb); have p6 := (hbb.block _ (blt Q6.out)).trans Q6.out; have p8 := (hbb.block _ (blt Q8.out)).trans Q8.out; have P6 := Lib.hid p6; have P8 := Lib.hid p8; have Q10 := Lib.hid q10; have BB := Aside0.mk hbb; have HW3 := Lib.hid hW3; have z0 : W3.cell? ⟨w.heap.size + 1, 0, none⟩ = some (.int .i64 0) := bcell p8 0; have z1 : W3.cell? ⟨w.heap.size + 1, 1, none⟩ = some (.int .i64 0) := bcell p8 1; have zf : ∀ j, W3.frozen? ⟨w.heap.size + 1, j, none⟩ = false := (fun j => bfrozen p8 j); have y2 : W3.cell? ⟨w2.heap.size, 2, none⟩ = some (.int .i64 D.s.2.2) := bcell q10 2; clear hb2 hW3 q10 b23 hbb p6 p8)
  | (go_at_call 85; (with_reducible refine (HPG.out _).mono ?_); rintro e w4 ⟨rfl, hb4⟩; have x6 := (hb4.block _ (blt P6.out)).trans P6.out; have x10 := (hb4.block _ (blt Q10.out)).trans Q10.out; have X6 := Lib.hid x6; have X10 := Lib.hid x10; have HB4 := Aside0.mk hb4; clear x6 x10 hb4)
  | ((with_reducible refine gate_dst (N := 34) rfl ?_); (refine closL (some 34) rfl rfl 30 putfits_clo #[.int .i64 1] rfl rfl (by simp only [List.map_toArray, List.map_cons, List.map_nil]; rfl) ?_; refine (PutFits_any (w := w4) HSH.out (bcell X10.out 0) (bcell X10.out 1) (bcell X10.out 2) (bcell X6.out 0) (show n ≤ 9223372036854775807 by omega) 1).mono ?_; (have hvv := HV1.out; rw [← HN.out] at hvv; rw [hvv]; clear hvv); rintro e w5 ⟨rfl, hb5⟩; refine ⟨_, rfl, ?_⟩; have HB5 := Aside0.mk (HB4.out.trans (hb5.mono HB4.out.size)); have hl5 := HL3.out.below HB5.out; have k05 := hl5.c0; have k17 := hl5.c17; have k18 := hl5.c18; have x6 := (HB5.out.block _ (blt P6.out)).trans P6.out; have x8 := (HB5.out.block _ (blt P8.out)).trans P8.out; have x10 := (HB5.out.block _ (blt Q10.out)).trans Q10.out; have X65 := Lib.hid x6; have X85 := Lib.hid x8; have X105 := Lib.hid x10; have z05 : w5.cell? ⟨w.heap.size + 1, 0, none⟩ = some (.int .i64 0) := bcell x8 0; have z15 : w5.cell? ⟨w.heap.size + 1, 1, none⟩ = some (.int .i64 0) := bcell x8 1; have zf5 : ∀ j, w5.frozen? ⟨w.heap.size + 1, j, none⟩ = false := (fun j => bfrozen x8 j); have HL5 := Aside0.mk hl5; have HF5 := Aside0.mk (hF.below HF3.out HB5.out); clear hb5 hl5 x6 x8 x10))
  | (go_at_call 15; (obtain ⟨okc, hDc⟩ := hF.dev (hF.below HF3.out HB5.out)); (have hcc := LCount_any (HL3.out.below HB5.out) hDc 0); (rw [← HC0.out] at hcc); (with_reducible refine hcc.mono ?_); clear hcc hDc; rintro e w7 ⟨rfl, hb7⟩; have HB7 := Aside0.mk (HB5.out.trans (hb7.mono HB5.out.size)); have x8 := (HB7.out.block _ (blt P8.out)).trans P8.out; have X87 := Lib.hid x8; have z07 : w7.cell? ⟨w.heap.size + 1, 0, none⟩ = some (.int .i64 0) := bcell x8 0; have z17 : w7.cell? ⟨w.heap.size + 1, 1, none⟩ = some (.int .i64 0) := bcell x8 1; have zf7 : ∀ j, w7.frozen? ⟨w.heap.size + 1, j, none⟩ = false := (fun j => bfrozen x8 j); clear hb7 x8)
  | (go_at_call 86; (have htn := LTurn_F hF hSt (hF.below HF3.out HB7.out) (HL3.out.below HB7.out) (.inl (.inl hq)) hN ho16 hsq hn2 hn1 hd0 hm16 HFI.out); (with_reducible refine htn.mono ?_); clear htn; rintro e w8 ⟨rfl, hf8, hl8, hb8, hk8⟩; have bel8 : Below N0 w w8 := (((WB.out.trans ((BB.out.trans (HB7.out.mono BB.out.size)).mono (by omega))).mono hsz)).trans hb8; have kep8 : Kept (fun k => K k ∧ k ≠ q) w w8 := (fun k hk => (hk8 k ⟨.inl (.inl hk.1), hk.2⟩).trans ((show Kept (fun k => K k ∧ k ≠ q) w w7 from (fun k hk => (((BB.out.trans (HB7.out.mono BB.out.size)).mono (by omega)).block k (HLT.out k hk.1)).trans (WB.out.block k (HLT.out k hk.1)))) k hk)); have x6 := (hk8 w.heap.size ⟨.inl (.inr ⟨Nat.le_refl _, by omega⟩), (by have := HLT.out q hq; omega)⟩).trans ((HB7.out.block _ (blt P6.out)).trans P6.out); have x8 := (hk8 (w.heap.size + 1) ⟨.inl (.inr ⟨Nat.le_succ _, by omega⟩), (by have := HLT.out q hq; omega)⟩).trans X87.out; have X68 := Lib.hid x6; have X88 := Lib.hid x8; have HF8 := Aside0.mk hf8; have HL8 := Aside0.mk hl8; have BEL8 := Aside0.mk bel8; have KEP8 := Lib.hid kep8; clear hf8 hl8 hb8 hk8 bel8 kep8 x6 x8))
 have y0 := HL8.out.c0
 have y17 := HL8.out.c17
 have y18 := HL8.out.c18
 refine wp_region_held_drew (S := (fun w' => w'.cell? ⟨q, 0, none⟩ = some (.pointer (some ⟨p, 0, none⟩)) ∧ w'.cell? ⟨q, 17, none⟩ = some (.int .i64 (m : Int)) ∧ w'.cell? ⟨q, 18, none⟩ = some (.int .i64 1))) (by kernel_rfl) ?_ (fun hHeld => ?_)
 ·first | go_keep | exact ⟨y0, y17, y18⟩
 first | refine tkY 0 ?_ | refine tkN 0 ?_
 try simp only [Act.put, tk1, tk2, tk3]
 first | refine tkY 1 ?_ | refine tkN 1 ?_
 try simp only [Act.put, tk1, tk2, tk3]
 first | refine tkY 2 ?_ | refine tkN 2 ?_
 try simp only [Act.put, tk1, tk2, tk3]
 first | refine tkY 3 ?_ | refine tkN 3 ?_
 try simp only [Act.put, tk1, tk2, tk3]
 first | refine tkY 4 ?_ | refine tkN 4 ?_
 try simp only [Act.put, tk1, tk2, tk3]
 first | refine tkY 5 ?_ | refine tkN 5 ?_
 try simp only [Act.put, tk1, tk2, tk3]
 first | refine tkY 6 ?_ | refine tkN 6 ?_
 try simp only [Act.put, tk1, tk2, tk3]
 first | refine tkY 7 ?_ | refine tkN 7 ?_
 try simp only [Act.put, tk1, tk2, tk3]
 first | refine tkY 8 ?_ | refine tkN 8 ?_
 try simp only [Act.put, tk1, tk2, tk3]
 refine wpAnyH_ready (rs := [9]) (by kernel_rfl) (by simp) ?_
 refine AllReadyH.cons (by (simp only [List.getElem?_toArray, List.getElem?_cons_succ, List.getElem?_cons_zero]; rfl)) (fun K hK => ?_) AllReadyH.nil
 go_simp
 (try dsimp only)
 refine hK.out _ _ ?_ (fun hHeld => ?_)
 ·first | go_keep | exact ⟨y0, y17, y18⟩
 clear hK K
 try simp only [Act.put, tk1, tk2, tk3]
 refine wpAnyH_ready (rs := [10]) (by kernel_rfl) (by simp) ?_
 refine AllReadyH.cons (by (simp only [List.getElem?_toArray, List.getElem?_cons_succ, List.getElem?_cons_zero]; rfl)) (fun K hK => ?_) AllReadyH.nil
 go_simp
 (try dsimp only)
 refine hK.out _ _ ?_ (fun hHeld => ?_)
 ·first | go_keep | exact ⟨y0, y17, y18⟩
 clear hK K
 try simp only [Act.put, tk1, tk2, tk3]
 refine wpAnyH_done (by kernel_rfl) ?_ _
 obtain ⟨Y, hY⟩ : ∃ Y, Y = (w8.alloc (.cells #[.int .i64 (m : Int), .int .i64 1] TA)).drew := ⟨_, rfl⟩
 rw [← hY]
 have qY : Y.heap[w8.heap.size]? = some (.cells #[.int .i64 (m : Int), .int .i64 1] TA (0, 0)) := by rw [hY]; exact blk_new _ _
 have bY : Below w8.heap.size w8 Y := by rw [hY]; exact (below_alloc (Below.refl _ _) _).drew
 have bYd : Below w8.heap.size w8 Y.drew := bY.drew
 have sY : Y.heap.size = w8.heap.size + 1 := by rw [hY]; exact size_alloc _ _
 have fY := hF.keep HF8.out bYd
 have lY := HL8.out.below bY
 have zY0 := lY.c0
 have zY17 := lY.c17
 have zY18 := lY.c18
 have zY19 := lY.c19
 have zY6 : Y.cell? ⟨w.heap.size, 0, none⟩ = some (.slice A n c) := bcell ((bY.block _ (blt X68.out)).trans X68.out) 0
 have belX : Below N0 w w8 := BEL8.out
 have kepX : Kept (fun k => K k ∧ k ≠ q) w w8 := KEP8.out
 have bNY : Below N0 w Y.drew := belX.trans (bYd.mono (by have := belX.size; omega))
 have kNY : Kept (fun k => K k ∧ k ≠ q) w Y.drew := fun k hk => (bYd.block k (by have := HLT.out k hk.1; have := belX.size; omega)).trans (kepX k hk)
 have happ := Append_F (kind := kind) (seq := g.nx) hF fY (m : Int) 1 hkk hsq hBl (HCX.out _ bNY kNY) (by rw [← HN.out]; exact hc) (by rw [← HN.out]; exact hm) hdd
 rw [HAP.out, ← HN.out] at happ
 have HAPP := Lib.hid happ
 have HFK := Aside0.mk fY
 have LY := Aside0.mk lY
 have QY := Lib.hid qY
 have BY := Aside0.mk bY
 have HY := Lib.hid hY
 have hwx : IntKind.u64.wrap g.nx = g.nx := IntWalk.u64_in _ (by omega)
 have hwk : IntKind.i64.wrap (1 + (k : Int)) = 1 + (k : Int) := IntWalk.i64_in _ (by omega)
 have BX := Aside0.mk belX
 have KX := Lib.hid kepX
 have nq1 : ¬ w8.heap.size = q := by have := blt HL8.out.blk; omega
 have nq2 : ¬ q = w8.heap.size := fun e => nq1 e.symm
 have nq3 : ¬ w.heap.size + 1 = q := by have := HLT.out q hq; omega
 have nq4 : ¬ q = w.heap.size + 1 := fun e => nq3 e.symm
 have nq5 : ¬ w8.heap.size = w.heap.size + 1 := by have := blt X88.out; omega
 have nq6 : ¬ w.heap.size + 1 = w8.heap.size := fun e => nq5 e.symm
 clear qY bY bYd fY lY belX kepX bNY kNY happ hY y0 y17 y18 hHeld
 go_wp2_with fail
 refine wp_region_held_drew (S := (fun w' => w'.cell? ⟨q, 0, none⟩ = some (.pointer (some ⟨p, 0, none⟩)) ∧ w'.cell? ⟨q, 17, none⟩ = some (.int .i64 (m : Int)) ∧ w'.cell? ⟨q, 18, none⟩ = some (.int .i64 1) ∧ w'.cell? ⟨q, 19, none⟩ = some (.int .u64 (g.nx + 1)) ∧ w'.cell? ⟨w.heap.size, 0, none⟩ = some (.slice A n c))) (by kernel_rfl) ?_ (fun hHeld => ?_)
 ·first | exact ⟨zY0, zY17, zY18, zY19, zY6⟩ | exact ⟨s0, s17, s18, s19, s6⟩
 first | refine tkY 0 ?_ | refine tkN 0 ?_
 try simp only [Act.put, tk1, tk2, tk3]
 first | refine tkY 1 ?_ | refine tkN 1 ?_
 try simp only [Act.put, tk1, tk2, tk3]
 first | refine tkY 2 ?_ | refine tkN 2 ?_
 try simp only [Act.put, tk1, tk2, tk3]
 first | refine tkY 3 ?_ | refine tkN 3 ?_
 try simp only [Act.put, tk1, tk2, tk3]
 first | refine tkY 4 ?_ | refine tkN 4 ?_
 try simp only [Act.put, tk1, tk2, tk3]
 first | refine tkY 5 ?_ | refine tkN 5 ?_
 try simp only [Act.put, tk1, tk2, tk3]
 first | refine tkY 6 ?_ | refine tkN 6 ?_
 try simp only [Act.put, tk1, tk2, tk3]
 first | refine tkY 7 ?_ | refine tkN 7 ?_
 try simp only [Act.put, tk1, tk2, tk3]
 first | refine tkY 8 ?_ | refine tkN 8 ?_
 try simp only [Act.put, tk1, tk2, tk3]
 first | refine tkY 9 ?_ | refine tkN 9 ?_
 try simp only [Act.put, tk1, tk2, tk3]
 first | refine tkY 10 ?_ | refine tkN 10 ?_
 try simp only [Act.put, tk1, tk2, tk3]
 first | refine tkY 11 ?_ | refine tkN 11 ?_
 try simp only [Act.put, tk1, tk2, tk3]
 first | refine tkY 12 ?_ | refine tkN 12 ?_
 try simp only [Act.put, tk1, tk2, tk3]
 first | refine tkY 13 ?_ | refine tkN 13 ?_
 try simp only [Act.put, tk1, tk2, tk3]
 first | refine tkY 14 ?_ | refine tkN 14 ?_
 try simp only [Act.put, tk1, tk2, tk3]
 first | refine tkY 15 ?_ | refine tkN 15 ?_
 try simp only [Act.put, tk1, tk2, tk3]
 first | refine tkY 16 ?_ | refine tkN 16 ?_
 try simp only [Act.put, tk1, tk2, tk3]
 first | refine tkY 17 ?_ | refine tkN 17 ?_
 try simp only [Act.put, tk1, tk2, tk3]
 first | refine tkY 18 ?_ | refine tkN 18 ?_
 try simp only [Act.put, tk1, tk2, tk3]
 refine wpAnyH_ready (rs := [19]) (by kernel_rfl) (by simp) ?_
 refine AllReadyH.cons (by (simp only [List.getElem?_toArray, List.getElem?_cons_succ, List.getElem?_cons_zero]; rfl)) (fun K hK => ?_) AllReadyH.nil
 go_simp
 (go_at_call 87; (with_reducible refine HAPP.out.mono ?_); rintro e w10 ⟨rfl, hf10, hb10, hk10⟩; have hl10 : LogIs q p { st := (sealG g).st.set m 1, op := (m : Int), pg := 1, nx := g.nx + 1 } w10 := ⟨LY.out.len, (hk10 q (.inl (.inl (.inl hq)))).trans LY.out.blk⟩; have s0 := hl10.c0; have s17 := hl10.c17; have s18 := hl10.c18; have s19 := hl10.c19; have fr18 := hl10.frozen 18; have x6 := (hk10 w.heap.size (.inl (.inl (.inr ⟨Nat.le_refl _, by omega⟩)))).trans ((BY.out.block _ (blt X68.out)).trans X68.out); have x8 := (hk10 (w.heap.size + 1) (.inl (.inl (.inr ⟨Nat.le_succ _, by omega⟩)))).trans ((BY.out.block _ (blt X88.out)).trans X88.out); have x12 := (hk10 w8.heap.size (.inr ⟨Nat.le_refl _, by show _ < Y.heap.size; omega⟩)).trans QY.out; have s6 : w10.cell? ⟨w.heap.size, 0, none⟩ = some (.slice A n c) := bcell x6 0; have m0 : w10.cell? ⟨w.heap.size + 1, 0, none⟩ = some (.int .i64 0) := bcell x8 0; have m1 : w10.cell? ⟨w.heap.size + 1, 1, none⟩ = some (.int .i64 0) := bcell x8 1; have mf : ∀ j, w10.frozen? ⟨w.heap.size + 1, j, none⟩ = false := (fun j => bfrozen x8 j); have t0 : w10.cell? ⟨w8.heap.size, 0, none⟩ = some (.int .i64 (m : Int)) := bcell x12 0; have t1 : w10.cell? ⟨w8.heap.size, 1, none⟩ = some (.int .i64 1) := bcell x12 1; have HL10 := Aside0.mk hl10; have X810 := Lib.hid x8; have HF10 := Aside0.mk hf10; have HB10 := Aside0.mk (BX.out.trans ((show Below N0 w8 Y.drew from (BY.out.drew).mono (by have := BX.out.size; omega)).trans hb10)); have HKR := Lib.hid hk10; clear hl10 hf10 hb10 hk10 x6 x8 x12)
 (try dsimp only)
 refine hK.out _ _ ?_ (fun hHeld => ?_)
 ·first | exact ⟨zY0, zY17, zY18, zY19, zY6⟩ | exact ⟨s0, s17, s18, s19, s6⟩
 clear hK K
 try simp only [Act.put, tk1, tk2, tk3]
 first | refine tkY 20 ?_ | refine tkN 20 ?_
 try simp only [Act.put, tk1, tk2, tk3]
 first | refine tkY 21 ?_ | refine tkN 21 ?_
 try simp only [Act.put, tk1, tk2, tk3]
 first | refine tkY 22 ?_ | refine tkN 22 ?_
 try simp only [Act.put, tk1, tk2, tk3]
 first | refine tkY 23 ?_ | refine tkN 23 ?_
 try simp only [Act.put, tk1, tk2, tk3]
 first | refine tkY 24 ?_ | refine tkN 24 ?_
 try simp only [Act.put, tk1, tk2, tk3]
 refine wpAnyH_done (by kernel_rfl) ?_ _
 go_wp2_with fail
 have HK10 := Lib.hid (show Kept (fun k => K k ∧ k ≠ q) w w10 from fun k hk => (HKR.out k (.inl (.inl (.inl hk.1)))).trans ((BY.out.block k (by have := HLT.out k hk.1; have := BX.out.size; omega)).trans (KX.out k hk)))
 have hl11 := HL10.out.setPg (1 + (k : Int))
 have hu11 := Upd.setCell w10 (p := ⟨q, 18, none⟩) (S := fun k => k = q) rfl (.int .i64 (1 + (k : Int)))
 have hf11 := hSt _ _ w10 _ q _ _ _ HF10.out (.inl (.inl (.inl hq))) HL10.out.blk hl11.blk (by decide) hu11
 have s10 := hF.size HF10.out
 have hb11 := HB10.out.trans (hu11.below s10 (fun k hk => by rw [hk]; exact hN))
 have x811 := (hu11.block (w.heap.size + 1) (blt X810.out) (fun e => nq3 e)).trans X810.out
 have hk11 : Kept (fun k => K k ∧ k ≠ q) w (w10.setCell ⟨q, 18, none⟩ (.int .i64 (1 + (k : Int)))) := fun k hk => (hu11.block k (hF.lt HF10.out k (.inl (.inl (.inl hk.1)))) hk.2).trans (HK10.out k hk)
 obtain ⟨w9, hw9⟩ : ∃ w9, w9 = ((w10.setCell ⟨q, 18, none⟩ (.int .i64 (1 + (k : Int)))).setCell ⟨w.heap.size + 1, 0, none⟩ (.int .i64 (m : Int))).setCell ⟨w.heap.size + 1, 1, none⟩ (.int .i64 1) := ⟨_, rfl⟩
 rw [← hw9]
 obtain ⟨r8, hf9, hl9, hb9, hk9⟩ := put_end hF hSt hf11 hl11 hq HLT.out hsz (Nat.le_succ _) x811 (.inl (.inl (.inr ⟨Nat.le_succ _, by omega⟩))) (fun k hk => .inl (.inl (.inl hk))) hb11 hk11 hw9
 have r0 := bcell r8 0
 have r1 := bcell r8 1
 exact bodyPost_ret (v := .tuple #[.agg #[.int .i64 (m : Int), .int .i64 1], .int .i64 0]) (by simp [results, Tryz.results45, go_sem, r0, r1]) rfl ⟨rfl, hf9, hl9, hb9, hk9⟩
set_option maxHeartbeats 4000000 in
set_option maxRecDepth 100000 in
theorem LPut_turnN (hF : DevFrame N0 p F) (hSt : ∀ D, Stays (fun K w => F K D w)) (h : F K D w) (hl : LogIs q p g w) (hq : K q) (hN : N0 ≤ q) (hC : kB.C w A l.length l) (hc : l.length ≤ c) (hm : l.length < 1000000) (hk : kind ≠ 1) (hv1 : fitsS D.s 1 l.length = true) (ho : 0 ≤ g.op) (hv2 : fitsS D.s g.pg l.length = false) (hkk : KindOk kind) (hBl : Byt l) (hCx : ∀ X, Below N0 w X → Kept (fun k => K k ∧ k ≠ q) w X → kB.C X A l.length l) (hd0 : D.dirty.length < 900000) {m : Nat} (hdd : (appD D (m : Int) 0 0 (rec 1 g.nx [])).dirty.length < 900000) (ho16 : g.op < 16) (hsq : SeqOk g.nx) (hn1 : 0 ≤ g.nx) (hn2 : g.nx < 1000000) (hm16 : m < 16) (hfi : ∀ r, FirstAt (sealG g).st 0 r → r = (m : Int)) {k : Nat} (hp1 : (k : Int) < 900) (hap : appE (appD D (m : Int) 0 0 (rec 1 g.nx [])) (m : Int) 1 l.length = ((k : Int), 0)) (hcn : ¬ (cnt 0 (g.st.take D.s.1.toNat) : Int) < need) : Calls Tryz.prog 45 #[.pointer (some ⟨q, 0, none⟩), .int .u8 kind, .slice A l.length c, .int .i64 need] w (PutPost N0 q p F K w ((m : Int), 1) 0 (appD (appD D (m : Int) 0 0 (rec 1 g.nx [])) (m : Int) 1 l.length (rec kind g.nx l)) { st := (sealG g).st.set m 1, op := (m : Int), pg := 1 + (k : Int), nx := g.nx + 1 }) := by
 have hpg : ∀ X : World, Calls Tryz.prog 85 #[.int .i64 0, .int .i64 D.s.2.2] X fun e w' => e = .returned (.int .i64 1) ∧ Below X.heap.size X w' := fun X => by
  have := Pages_ok 0 D.s (hF.shape h) (by omega) X
  rw [kpg_zero (hF.shape h)] at this
  exact this
 have HPG := Lib.hid hpg
 have HKI := Lib.hid (show (kind == 1) = false by simpa using hk)
 have e_k := HKI.out
 have HV1 := Lib.hid hv1
 have HV2 := Lib.hid hv2
 clear hv2
 obtain ⟨c0, hc0⟩ : ∃ c0, c0 = cnt 0 (g.st.take D.s.1.toNat) := ⟨_, rfl⟩
 rw [← hc0] at hcn
 have HC0 := Lib.hid hc0
 clear hc0
 have HAP := Lib.hid hap
 have HCX := Lib.hid hCx
 have HFI := Lib.hid hfi
 clear hap hCx hfi
 obtain ⟨n, hn⟩ : ∃ n, n = l.length := ⟨_, rfl⟩
 have hsz := hF.size h
 have hlt := fun k hk => hF.lt h k hk
 obtain ⟨W, hW⟩ : ∃ W, W = (w.alloc (.cells #[.slice A n c] TBs)).alloc (.cells #[.int .i64 0, .int .i64 0] TA) := ⟨_, rfl⟩
 obtain ⟨q6, q8⟩ := pair_blk w (.cells #[.slice A n c] TBs) (.cells #[.int .i64 0, .int .i64 0] TA)
 rw [← hW] at q6 q8
 have wb : Below w.heap.size w W := by rw [hW]; exact below_alloc (below_alloc (Below.refl _ _) _) _
 have wsz : W.heap.size = w.heap.size + 2 := by rw [hW, size_alloc, size_alloc]
 have hf1 := hF.keep h wb
 have hl1 := hl.below wb
 obtain ⟨ok1, hD1⟩ := hF.dev hf1
 have hsh := hD1.sound.sh
 have HOK := Lib.hid (Lok_any hl1)
 have HSHP := Lib.hid (Shape_any hD1)
 have HF1 := Aside0.mk hf1
 have HL1 := Aside0.mk hl1
 have HW := Lib.hid hW
 have Q6 := Lib.hid q6
 have Q8 := Lib.hid q8
 have WB := Aside0.mk wb
 have HSH := Lib.hid hsh
 have HN := Lib.hid hn
 have HLT := Lib.hid hlt
 have k0 : W.cell? ⟨q, 0, none⟩ = some (.pointer (some ⟨p, 0, none⟩)) := hl1.c0
 rw [← hn] at hc hm
 rw [← hn]
 clear h hl hn hlt hf1 hl1 hD1 hsh hW q6 q8 wb hpg hv1 hk
 go_enter Tryz.func45, Tryz.ntmps45
 have e_c : decide ((c0 : Int) < need) = false := decide_eq_false hcn
 have e_o : decide (g.op < 0) = false := decide_eq_false (by omega)
 go_wp2_with (first
  | (rw [← HW.out])
  | (rw [← HW3.out])
  | (go_at_call 46; (with_reducible refine HOK.out.mono ?_); rintro e w1 ⟨rfl, rfl⟩)
  | (go_at_call 58; (with_reducible refine HSHP.out.mono ?_); rintro e w2 ⟨rfl, hb2⟩; obtain ⟨W3, hW3⟩ : ∃ W3, W3 = w2.alloc (.cells #[.int .i64 D.s.1, .int .i64 D.s.2.1, .int .i64 D.s.2.2] TSh) := ⟨_, rfl⟩; have q10 : W3.heap[w2.heap.size]? = some (.cells #[.int .i64 D.s.1, .int .i64 D.s.2.1, .int .i64 D.s.2.2] TSh (0, 0)) := (by rw [hW3]; exact blk_new _ _); have b23 : Below w2.heap.size w2 W3 := (by rw [hW3]; exact below_alloc (Below.refl _ _) _); have hbb := hb2.trans (b23.mono hb2.size); have HF3 := Aside0.mk (hF.keep (hF.below HF1.out hb2) b23); have HL3 := Aside0.mk (HL1.out.below hbb); have p6 := (hbb.block _ (blt Q6.out)).trans Q6.out; have p8 := (hbb.block _ (blt Q8.out)).trans Q8.out; have P6 := Lib.hid p6; have P8 := Lib.hid p8; have Q10 := Lib.hid q10; have BB := Aside0.mk hbb; have HW3 := Lib.hid hW3; have z0 : W3.cell? ⟨w.heap.size + 1, 0, none⟩ = some (.int .i64 0) := bcell p8 0; have z1 : W3.cell? ⟨w.heap.size + 1, 1, none⟩ = some (.int .i64 0) := bcell p8 1; have zf : ∀ j, W3.frozen? ⟨w.heap.size + 1, j, none⟩ = false := (fun j => bfrozen p8 j); have y2 : W3.cell? ⟨w2.heap.size, 2, none⟩ = some (.int .i64 D.s.2.2) := bcell q10 2; clear hb2 hW3 q10 b23 hbb p6 p8)
  | (go_at_call 85; (with_reducible refine (HPG.out _).mono ?_); rintro e w4 ⟨rfl, hb4⟩; have x6 := (hb4.block _ (blt P6.out)).trans P6.out; have x10 := (hb4.block _ (blt Q10.out)).trans Q10.out; have X6 := Lib.hid x6; have X10 := Lib.hid x10; have HB4 := Aside0.mk hb4; clear x6 x10 hb4)
  | ((with_reducible refine gate_dst (N := 34) rfl ?_); (refine closL (some 34) rfl rfl 30 putfits_clo #[.int .i64 1] rfl rfl (by simp only [List.map_toArray, List.map_cons, List.map_nil]; rfl) ?_; refine (PutFits_any (w := w4) HSH.out (bcell X10.out 0) (bcell X10.out 1) (bcell X10.out 2) (bcell X6.out 0) (show n ≤ 9223372036854775807 by omega) 1).mono ?_; (have hvv := HV1.out; rw [← HN.out] at hvv; rw [hvv]; clear hvv); rintro e w5 ⟨rfl, hb5⟩; refine ⟨_, rfl, ?_⟩; have HB5 := Aside0.mk (HB4.out.trans (hb5.mono HB4.out.size)); have hl5 := HL3.out.below HB5.out; have k05 := hl5.c0; have k17 := hl5.c17; have k18 := hl5.c18; have x6 := (HB5.out.block _ (blt P6.out)).trans P6.out; have x8 := (HB5.out.block _ (blt P8.out)).trans P8.out; have x10 := (HB5.out.block _ (blt Q10.out)).trans Q10.out; have X65 := Lib.hid x6; have X85 := Lib.hid x8; have X105 := Lib.hid x10; have z05 : w5.cell? ⟨w.heap.size + 1, 0, none⟩ = some (.int .i64 0) := bcell x8 0; have z15 : w5.cell? ⟨w.heap.size + 1, 1, none⟩ = some (.int .i64 0) := bcell x8 1; have zf5 : ∀ j, w5.frozen? ⟨w.heap.size + 1, j, none⟩ = false := (fun j => bfrozen x8 j); have HL5 := Aside0.mk hl5; have HF5 := Aside0.mk (hF.below HF3.out HB5.out); clear hb5 hl5 x6 x8 x10))
  | ((with_reducible refine gate_dst (N := 48) rfl ?_); (refine closG (some 48) rfl (by kernel_rfl) 43 putfits_clo #[.int .i64 g.pg] rfl rfl (by simp only [List.map_toArray, List.map_cons, List.map_nil]; rfl) ?_; refine (PutFits_any (w := w5) HSH.out (bcell X105.out 0) (bcell X105.out 1) (bcell X105.out 2) (bcell X65.out 0) (show n ≤ 9223372036854775807 by omega) g.pg).mono ?_; (have hvv := HV2.out; rw [← HN.out] at hvv; rw [hvv]; clear hvv); rintro e w6 ⟨rfl, hb6⟩; refine ⟨_, rfl, ?_⟩; have HB6 := Aside0.mk (HB5.out.trans (hb6.mono HB5.out.size)); have x6 := (hb6.block _ (blt X65.out)).trans X65.out; have x8 := (hb6.block _ (blt X85.out)).trans X85.out; have X66 := Lib.hid x6; have X86 := Lib.hid x8; clear x6 x8 hb6))
  | (go_at_call 15; (obtain ⟨okc, hDc⟩ := hF.dev (hF.below HF3.out HB6.out)); (have hcc := LCount_any (HL3.out.below HB6.out) hDc 0); (rw [← HC0.out] at hcc); (with_reducible refine hcc.mono ?_); clear hcc hDc; rintro e w7 ⟨rfl, hb7⟩; have HB7 := Aside0.mk (HB6.out.trans (hb7.mono HB6.out.size)); have x8 := (HB7.out.block _ (blt P8.out)).trans P8.out; have X87 := Lib.hid x8; have z07 : w7.cell? ⟨w.heap.size + 1, 0, none⟩ = some (.int .i64 0) := bcell x8 0; have z17 : w7.cell? ⟨w.heap.size + 1, 1, none⟩ = some (.int .i64 0) := bcell x8 1; have zf7 : ∀ j, w7.frozen? ⟨w.heap.size + 1, j, none⟩ = false := (fun j => bfrozen x8 j); clear hb7 x8)
  | (go_at_call 86; (have htn := LTurn_F hF hSt (hF.below HF3.out HB7.out) (HL3.out.below HB7.out) (.inl (.inl hq)) hN ho16 hsq hn2 hn1 hd0 hm16 HFI.out); (with_reducible refine htn.mono ?_); clear htn; rintro e w8 ⟨rfl, hf8, hl8, hb8, hk8⟩; have bel8 : Below N0 w w8 := (((WB.out.trans ((BB.out.trans (HB7.out.mono BB.out.size)).mono (by omega))).mono hsz)).trans hb8; have kep8 : Kept (fun k => K k ∧ k ≠ q) w w8 := (fun k hk => (hk8 k ⟨.inl (.inl hk.1), hk.2⟩).trans ((show Kept (fun k => K k ∧ k ≠ q) w w7 from (fun k hk => (((BB.out.trans (HB7.out.mono BB.out.size)).mono (by omega)).block k (HLT.out k hk.1)).trans (WB.out.block k (HLT.out k hk.1)))) k hk)); have x6 := (hk8 w.heap.size ⟨.inl (.inr ⟨Nat.le_refl _, by omega⟩), (by have := HLT.out q hq; omega)⟩).trans ((HB7.out.block _ (blt P6.out)).trans P6.out); have x8 := (hk8 (w.heap.size + 1) ⟨.inl (.inr ⟨Nat.le_succ _, by omega⟩), (by have := HLT.out q hq; omega)⟩).trans X87.out; have X68 := Lib.hid x6; have X88 := Lib.hid x8; have HF8 := Aside0.mk hf8; have HL8 := Aside0.mk hl8; have BEL8 := Aside0.mk bel8; have KEP8 := Lib.hid kep8; clear hf8 hl8 hb8 hk8 bel8 kep8 x6 x8))
 have y0 := HL8.out.c0
 have y17 := HL8.out.c17
 have y18 := HL8.out.c18
 refine wp_region_held_drew (S := (fun w' => w'.cell? ⟨q, 0, none⟩ = some (.pointer (some ⟨p, 0, none⟩)) ∧ w'.cell? ⟨q, 17, none⟩ = some (.int .i64 (m : Int)) ∧ w'.cell? ⟨q, 18, none⟩ = some (.int .i64 1))) (by kernel_rfl) ?_ (fun hHeld => ?_)
 ·first | go_keep | exact ⟨y0, y17, y18⟩
 first | refine tkY 0 ?_ | refine tkN 0 ?_
 try simp only [Act.put, tk1, tk2, tk3]
 first | refine tkY 1 ?_ | refine tkN 1 ?_
 try simp only [Act.put, tk1, tk2, tk3]
 first | refine tkY 2 ?_ | refine tkN 2 ?_
 try simp only [Act.put, tk1, tk2, tk3]
 first | refine tkY 3 ?_ | refine tkN 3 ?_
 try simp only [Act.put, tk1, tk2, tk3]
 first | refine tkY 4 ?_ | refine tkN 4 ?_
 try simp only [Act.put, tk1, tk2, tk3]
 first | refine tkY 5 ?_ | refine tkN 5 ?_
 try simp only [Act.put, tk1, tk2, tk3]
 first | refine tkY 6 ?_ | refine tkN 6 ?_
 try simp only [Act.put, tk1, tk2, tk3]
 first | refine tkY 7 ?_ | refine tkN 7 ?_
 try simp only [Act.put, tk1, tk2, tk3]
 first | refine tkY 8 ?_ | refine tkN 8 ?_
 try simp only [Act.put, tk1, tk2, tk3]
 refine wpAnyH_ready (rs := [9]) (by kernel_rfl) (by simp) ?_
 refine AllReadyH.cons (by (simp only [List.getElem?_toArray, List.getElem?_cons_succ, List.getElem?_cons_zero]; rfl)) (fun K hK => ?_) AllReadyH.nil
 go_simp
 (try dsimp only)
 refine hK.out _ _ ?_ (fun hHeld => ?_)
 ·first | go_keep | exact ⟨y0, y17, y18⟩
 clear hK K
 try simp only [Act.put, tk1, tk2, tk3]
 refine wpAnyH_ready (rs := [10]) (by kernel_rfl) (by simp) ?_
 refine AllReadyH.cons (by (simp only [List.getElem?_toArray, List.getElem?_cons_succ, List.getElem?_cons_zero]; rfl)) (fun K hK => ?_) AllReadyH.nil
 go_simp
 (try dsimp only)
 refine hK.out _ _ ?_ (fun hHeld => ?_)
 ·first | go_keep | exact ⟨y0, y17, y18⟩
 clear hK K
 try simp only [Act.put, tk1, tk2, tk3]
 refine wpAnyH_done (by kernel_rfl) ?_ _
 obtain ⟨Y, hY⟩ : ∃ Y, Y = (w8.alloc (.cells #[.int .i64 (m : Int), .int .i64 1] TA)).drew := ⟨_, rfl⟩
 rw [← hY]
 have qY : Y.heap[w8.heap.size]? = some (.cells #[.int .i64 (m : Int), .int .i64 1] TA (0, 0)) := by rw [hY]; exact blk_new _ _
 have bY : Below w8.heap.size w8 Y := by rw [hY]; exact (below_alloc (Below.refl _ _) _).drew
 have bYd : Below w8.heap.size w8 Y.drew := bY.drew
 have sY : Y.heap.size = w8.heap.size + 1 := by rw [hY]; exact size_alloc _ _
 have fY := hF.keep HF8.out bYd
 have lY := HL8.out.below bY
 have zY0 := lY.c0
 have zY17 := lY.c17
 have zY18 := lY.c18
 have zY19 := lY.c19
 have zY6 : Y.cell? ⟨w.heap.size, 0, none⟩ = some (.slice A n c) := bcell ((bY.block _ (blt X68.out)).trans X68.out) 0
 have belX : Below N0 w w8 := BEL8.out
 have kepX : Kept (fun k => K k ∧ k ≠ q) w w8 := KEP8.out
 have bNY : Below N0 w Y.drew := belX.trans (bYd.mono (by have := belX.size; omega))
 have kNY : Kept (fun k => K k ∧ k ≠ q) w Y.drew := fun k hk => (bYd.block k (by have := HLT.out k hk.1; have := belX.size; omega)).trans (kepX k hk)
 have happ := Append_F (kind := kind) (seq := g.nx) hF fY (m : Int) 1 hkk hsq hBl (HCX.out _ bNY kNY) (by rw [← HN.out]; exact hc) (by rw [← HN.out]; exact hm) hdd
 rw [HAP.out, ← HN.out] at happ
 have HAPP := Lib.hid happ
 have HFK := Aside0.mk fY
 have LY := Aside0.mk lY
 have QY := Lib.hid qY
 have BY := Aside0.mk bY
 have HY := Lib.hid hY
 have hwx : IntKind.u64.wrap g.nx = g.nx := IntWalk.u64_in _ (by omega)
 have hwk : IntKind.i64.wrap (1 + (k : Int)) = 1 + (k : Int) := IntWalk.i64_in _ (by omega)
 have BX := Aside0.mk belX
 have KX := Lib.hid kepX
 have nq1 : ¬ w8.heap.size = q := by have := blt HL8.out.blk; omega
 have nq2 : ¬ q = w8.heap.size := fun e => nq1 e.symm
 have nq3 : ¬ w.heap.size + 1 = q := by have := HLT.out q hq; omega
 have nq4 : ¬ q = w.heap.size + 1 := fun e => nq3 e.symm
 have nq5 : ¬ w8.heap.size = w.heap.size + 1 := by have := blt X88.out; omega
 have nq6 : ¬ w.heap.size + 1 = w8.heap.size := fun e => nq5 e.symm
 clear qY bY bYd fY lY belX kepX bNY kNY happ hY y0 y17 y18 hHeld
 go_wp2_with fail
 refine wp_region_held_drew (S := (fun w' => w'.cell? ⟨q, 0, none⟩ = some (.pointer (some ⟨p, 0, none⟩)) ∧ w'.cell? ⟨q, 17, none⟩ = some (.int .i64 (m : Int)) ∧ w'.cell? ⟨q, 18, none⟩ = some (.int .i64 1) ∧ w'.cell? ⟨q, 19, none⟩ = some (.int .u64 (g.nx + 1)) ∧ w'.cell? ⟨w.heap.size, 0, none⟩ = some (.slice A n c))) (by kernel_rfl) ?_ (fun hHeld => ?_)
 ·first | exact ⟨zY0, zY17, zY18, zY19, zY6⟩ | exact ⟨s0, s17, s18, s19, s6⟩
 first | refine tkY 0 ?_ | refine tkN 0 ?_
 try simp only [Act.put, tk1, tk2, tk3]
 first | refine tkY 1 ?_ | refine tkN 1 ?_
 try simp only [Act.put, tk1, tk2, tk3]
 first | refine tkY 2 ?_ | refine tkN 2 ?_
 try simp only [Act.put, tk1, tk2, tk3]
 first | refine tkY 3 ?_ | refine tkN 3 ?_
 try simp only [Act.put, tk1, tk2, tk3]
 first | refine tkY 4 ?_ | refine tkN 4 ?_
 try simp only [Act.put, tk1, tk2, tk3]
 first | refine tkY 5 ?_ | refine tkN 5 ?_
 try simp only [Act.put, tk1, tk2, tk3]
 first | refine tkY 6 ?_ | refine tkN 6 ?_
 try simp only [Act.put, tk1, tk2, tk3]
 first | refine tkY 7 ?_ | refine tkN 7 ?_
 try simp only [Act.put, tk1, tk2, tk3]
 first | refine tkY 8 ?_ | refine tkN 8 ?_
 try simp only [Act.put, tk1, tk2, tk3]
 first | refine tkY 9 ?_ | refine tkN 9 ?_
 try simp only [Act.put, tk1, tk2, tk3]
 first | refine tkY 10 ?_ | refine tkN 10 ?_
 try simp only [Act.put, tk1, tk2, tk3]
 first | refine tkY 11 ?_ | refine tkN 11 ?_
 try simp only [Act.put, tk1, tk2, tk3]
 first | refine tkY 12 ?_ | refine tkN 12 ?_
 try simp only [Act.put, tk1, tk2, tk3]
 first | refine tkY 13 ?_ | refine tkN 13 ?_
 try simp only [Act.put, tk1, tk2, tk3]
 first | refine tkY 14 ?_ | refine tkN 14 ?_
 try simp only [Act.put, tk1, tk2, tk3]
 first | refine tkY 15 ?_ | refine tkN 15 ?_
 try simp only [Act.put, tk1, tk2, tk3]
 first | refine tkY 16 ?_ | refine tkN 16 ?_
 try simp only [Act.put, tk1, tk2, tk3]
 first | refine tkY 17 ?_ | refine tkN 17 ?_
 try simp only [Act.put, tk1, tk2, tk3]
 first | refine tkY 18 ?_ | refine tkN 18 ?_
 try simp only [Act.put, tk1, tk2, tk3]
 refine wpAnyH_ready (rs := [19]) (by kernel_rfl) (by simp) ?_
 refine AllReadyH.cons (by (simp only [List.getElem?_toArray, List.getElem?_cons_succ, List.getElem?_cons_zero]; rfl)) (fun K hK => ?_) AllReadyH.nil
 go_simp
 (go_at_call 87; (with_reducible refine HAPP.out.mono ?_); rintro e w10 ⟨rfl, hf10, hb10, hk10⟩; have hl10 : LogIs q p { st := (sealG g).st.set m 1, op := (m : Int), pg := 1, nx := g.nx + 1 } w10 := ⟨LY.out.len, (hk10 q (.inl (.inl (.inl hq)))).trans LY.out.blk⟩; have s0 := hl10.c0; have s17 := hl10.c17; have s18 := hl10.c18; have s19 := hl10.c19; have fr18 := hl10.frozen 18; have x6 := (hk10 w.heap.size (.inl (.inl (.inr ⟨Nat.le_refl _, by omega⟩)))).trans ((BY.out.block _ (blt X68.out)).trans X68.out); have x8 := (hk10 (w.heap.size + 1) (.inl (.inl (.inr ⟨Nat.le_succ _, by omega⟩)))).trans ((BY.out.block _ (blt X88.out)).trans X88.out); have x12 := (hk10 w8.heap.size (.inr ⟨Nat.le_refl _, by show _ < Y.heap.size; omega⟩)).trans QY.out; have s6 : w10.cell? ⟨w.heap.size, 0, none⟩ = some (.slice A n c) := bcell x6 0; have m0 : w10.cell? ⟨w.heap.size + 1, 0, none⟩ = some (.int .i64 0) := bcell x8 0; have m1 : w10.cell? ⟨w.heap.size + 1, 1, none⟩ = some (.int .i64 0) := bcell x8 1; have mf : ∀ j, w10.frozen? ⟨w.heap.size + 1, j, none⟩ = false := (fun j => bfrozen x8 j); have t0 : w10.cell? ⟨w8.heap.size, 0, none⟩ = some (.int .i64 (m : Int)) := bcell x12 0; have t1 : w10.cell? ⟨w8.heap.size, 1, none⟩ = some (.int .i64 1) := bcell x12 1; have HL10 := Aside0.mk hl10; have X810 := Lib.hid x8; have HF10 := Aside0.mk hf10; have HB10 := Aside0.mk (BX.out.trans ((show Below N0 w8 Y.drew from (BY.out.drew).mono (by have := BX.out.size; omega)).trans hb10)); have HKR := Lib.hid hk10; clear hl10 hf10 hb10 hk10 x6 x8 x12)
 (try dsimp only)
 refine hK.out _ _ ?_ (fun hHeld => ?_)
 ·first | exact ⟨zY0, zY17, zY18, zY19, zY6⟩ | exact ⟨s0, s17, s18, s19, s6⟩
 clear hK K
 try simp only [Act.put, tk1, tk2, tk3]
 first | refine tkY 20 ?_ | refine tkN 20 ?_
 try simp only [Act.put, tk1, tk2, tk3]
 first | refine tkY 21 ?_ | refine tkN 21 ?_
 try simp only [Act.put, tk1, tk2, tk3]
 first | refine tkY 22 ?_ | refine tkN 22 ?_
 try simp only [Act.put, tk1, tk2, tk3]
 first | refine tkY 23 ?_ | refine tkN 23 ?_
 try simp only [Act.put, tk1, tk2, tk3]
 first | refine tkY 24 ?_ | refine tkN 24 ?_
 try simp only [Act.put, tk1, tk2, tk3]
 refine wpAnyH_done (by kernel_rfl) ?_ _
 go_wp2_with fail
 have HK10 := Lib.hid (show Kept (fun k => K k ∧ k ≠ q) w w10 from fun k hk => (HKR.out k (.inl (.inl (.inl hk.1)))).trans ((BY.out.block k (by have := HLT.out k hk.1; have := BX.out.size; omega)).trans (KX.out k hk)))
 have hl11 := HL10.out.setPg (1 + (k : Int))
 have hu11 := Upd.setCell w10 (p := ⟨q, 18, none⟩) (S := fun k => k = q) rfl (.int .i64 (1 + (k : Int)))
 have hf11 := hSt _ _ w10 _ q _ _ _ HF10.out (.inl (.inl (.inl hq))) HL10.out.blk hl11.blk (by decide) hu11
 have s10 := hF.size HF10.out
 have hb11 := HB10.out.trans (hu11.below s10 (fun k hk => by rw [hk]; exact hN))
 have x811 := (hu11.block (w.heap.size + 1) (blt X810.out) (fun e => nq3 e)).trans X810.out
 have hk11 : Kept (fun k => K k ∧ k ≠ q) w (w10.setCell ⟨q, 18, none⟩ (.int .i64 (1 + (k : Int)))) := fun k hk => (hu11.block k (hF.lt HF10.out k (.inl (.inl (.inl hk.1)))) hk.2).trans (HK10.out k hk)
 obtain ⟨w9, hw9⟩ : ∃ w9, w9 = ((w10.setCell ⟨q, 18, none⟩ (.int .i64 (1 + (k : Int)))).setCell ⟨w.heap.size + 1, 0, none⟩ (.int .i64 (m : Int))).setCell ⟨w.heap.size + 1, 1, none⟩ (.int .i64 1) := ⟨_, rfl⟩
 rw [← hw9]
 obtain ⟨r8, hf9, hl9, hb9, hk9⟩ := put_end hF hSt hf11 hl11 hq HLT.out hsz (Nat.le_succ _) x811 (.inl (.inl (.inr ⟨Nat.le_succ _, by omega⟩))) (fun k hk => .inl (.inl (.inl hk))) hb11 hk11 hw9
 have r0 := bcell r8 0
 have r1 := bcell r8 1
 exact bodyPost_ret (v := .tuple #[.agg #[.int .i64 (m : Int), .int .i64 1], .int .i64 0]) (by simp [results, Tryz.results45, go_sem, r0, r1]) rfl ⟨rfl, hf9, hl9, hb9, hk9⟩
end
end Go.Proofs.YtmbiebdcnadhkaaGreat.Fl
namespace Go.Proofs.YtmbiebdcnadhkaaGreat.Fl
open Go.RowKit Go.Proofs.YtmbiebdcnadhkaaGreatW.PrintWords Go.Proofs.YtmbiebdcnadhkaaGreatW.PrintMore Go.Maps
abbrev TRL : TypeId := 57
abbrev TNi : TypeId := 3
def rlogC (x t cap : Nat) (g : LG) : Array Value := #[.pointer (some ⟨x, 0, none⟩), .slice (some ⟨t, 0, none⟩) g.st.length cap, .int .i64 g.op, .int .i64 g.pg, .int .u64 g.nx]
structure RLog (r t x cap : Nat) (rest : List Value) (g : LG) (w : World) : Prop where
 blk : w.heap[r]? = some (.cells (rlogC x t cap g) TRL (0, 0))
 row : w.heap[t]? = some (.cells (g.st.map (fun x => Value.int .i64 x) ++ rest).toArray TNi (0, 0))
section
variable {r t x cap : Nat} {rest : List Value} {g : LG} {w w' : World}
theorem RLog.ne (h : RLog r t x cap rest g w) : r ≠ t := fun e => by
 have h1 := h.blk
 rw [e, h.row] at h1
 injection h1 with h1
 injection h1 with _ h1 _
 exact absurd h1 (by decide)
theorem RLog.step (h : RLog r t x cap rest g w) (hr : w'.heap[r]? = w.heap[r]?) (ht : w'.heap[t]? = w.heap[t]?) : RLog r t x cap rest g w' := ⟨hr.trans h.blk, ht.trans h.row⟩
theorem RLog.below (h : RLog r t x cap rest g w) (hb : Below w.heap.size w w') : RLog r t x cap rest g w' := h.step (hb.block _ (blt h.blk)) (hb.block _ (blt h.row))
theorem RLog.c0 (h : RLog r t x cap rest g w) : w.cell? ⟨r, 0, none⟩ = some (.pointer (some ⟨x, 0, none⟩)) := bcell h.blk 0
theorem RLog.c1 (h : RLog r t x cap rest g w) : w.cell? ⟨r, 1, none⟩ = some (.slice (some ⟨t, 0, none⟩) g.st.length cap) := bcell h.blk 1
theorem RLog.c2 (h : RLog r t x cap rest g w) : w.cell? ⟨r, 2, none⟩ = some (.int .i64 g.op) := bcell h.blk 2
theorem RLog.c3 (h : RLog r t x cap rest g w) : w.cell? ⟨r, 3, none⟩ = some (.int .i64 g.pg) := bcell h.blk 3
theorem RLog.c4 (h : RLog r t x cap rest g w) : w.cell? ⟨r, 4, none⟩ = some (.int .u64 g.nx) := bcell h.blk 4
theorem RLog.fr (h : RLog r t x cap rest g w) (j : Nat) : w.frozen? ⟨r, j, none⟩ = false := bfrozen h.blk _
theorem RLog.ft (h : RLog r t x cap rest g w) (j : Nat) : w.frozen? ⟨t, j, none⟩ = false := bfrozen h.row _
theorem RLog.cst (h : RLog r t x cap rest g w) {i : Nat} {y : Int} (hy : g.st[i]? = some y) : w.cell? ⟨t, i, none⟩ = some (.int .i64 y) := by
 have hl := (List.getElem?_eq_some_iff.1 hy).1
 rw [bcell h.row]
 simp only [List.getElem?_toArray]
 rw [List.getElem?_append_left (by simpa using hl), List.getElem?_map, hy]
 rfl
theorem RLog.setSt (h : RLog r t x cap rest g w) {i : Nat} (hi : i < g.st.length) (y : Int) : RLog r t x cap rest { g with st := g.st.set i y } (w.setCell ⟨t, i, none⟩ (.int .i64 y)) := by
 refine ⟨(Below.heap_setCell _ ⟨t, i, none⟩ _ r h.ne).trans (h.blk.trans ?_), (setCell_blk h.row _ _).trans ?_⟩
 ·simp [rlogC]
 ·congr 2
  simp only [List.setIfInBounds_toArray]
  congr 1
  rw [List.set_append_left _ _ (by simpa using hi), ← List.map_set]
theorem RLog.setOp (h : RLog r t x cap rest g w) (y : Int) : RLog r t x cap rest { g with op := y } (w.setCell ⟨r, 2, none⟩ (.int .i64 y)) :=
 ⟨(setCell_blk h.blk _ _).trans rfl, (Below.heap_setCell _ ⟨r, 2, none⟩ _ t (fun e => h.ne e.symm)).trans h.row⟩
theorem RLog.setPg (h : RLog r t x cap rest g w) (y : Int) : RLog r t x cap rest { g with pg := y } (w.setCell ⟨r, 3, none⟩ (.int .i64 y)) :=
 ⟨(setCell_blk h.blk _ _).trans rfl, (Below.heap_setCell _ ⟨r, 3, none⟩ _ t (fun e => h.ne e.symm)).trans h.row⟩
theorem RLog.setNx (h : RLog r t x cap rest g w) (y : Int) : RLog r t x cap rest { g with nx := y } (w.setCell ⟨r, 4, none⟩ (.int .u64 y)) :=
 ⟨(setCell_blk h.blk _ _).trans rfl, (Below.heap_setCell _ ⟨r, 4, none⟩ _ t (fun e => h.ne e.symm)).trans h.row⟩
def rsealG (g : LG) : LG := { st := if g.op < 0 then g.st else g.st.set g.op.toNat 2, op := -1, pg := 0, nx := g.nx }
set_option maxHeartbeats 1000000 in
set_option maxRecDepth 100000 in
theorem RSeal_any (h : RLog r t x cap rest g w) (ho : g.op < g.st.length) : Calls Tryz.prog 56 #[.pointer (some ⟨r, 0, none⟩)] w fun e w' => e = .returned (.tuple #[]) ∧ RLog r t x cap rest (rsealG g) w' ∧ ∃ w1 g1, RLog r t x cap rest g1 w1 ∧ Upd (fun k => k = t) w w1 ∧ Upd (fun k => k = r) w1 w' := by
 have k1 := h.c1
 have k2 := h.c2
 have k3 := h.c3
 have f2 := h.fr 2
 have f3 := h.fr 3
 by_cases h0 : g.op < 0
 ·have e_o : decide (g.op ≥ 0) = false := decide_eq_false (by omega)
  have hs : rsealG g = { st := g.st, op := -1, pg := 0, nx := g.nx } := by unfold rsealG; rw [if_pos h0]
  rw [hs]
  have HL := Aside0.mk h
  clear h hs
  go_enter Tryz.func56, Tryz.ntmps56
  go_wp2_with fail
  go_end0
  exact ⟨rfl, (HL.out.setOp (-1)).setPg 0, w, g, HL.out, Upd.ofBelow (Below.refl _ _) _, (Upd.setCell w (p := ⟨r, 2, none⟩) (S := fun k => k = r) rfl _).trans (Upd.setCell _ (p := ⟨r, 3, none⟩) (S := fun k => k = r) rfl _) (fun k hk _ => hk)⟩
 ·obtain ⟨n, hn⟩ := Int.eq_ofNat_of_zero_le (show 0 ≤ g.op by omega)
  have hs : rsealG g = { st := g.st.set n 2, op := -1, pg := 0, nx := g.nx } := by unfold rsealG; rw [if_neg h0, hn, Int.toNat_natCast]
  rw [hs]
  obtain ⟨m, hm⟩ : ∃ m, m = g.st.length := ⟨_, rfl⟩
  obtain ⟨y, hy⟩ : ∃ y, g.st[n]? = some y := ⟨_, List.getElem?_eq_getElem (by omega)⟩
  have c5 := h.cst hy
  have f5 := h.ft n
  have hni : n < g.st.length := by omega
  have n1 := h.ne
  have n2 : ¬ t = r := fun e => n1 e.symm
  rw [hn] at k2
  rw [← hm] at k1
  have q1 : (n : Int) < (m : Int) := by omega
  have q0 : (0 : Int) ≤ (n : Int) := by omega
  have e_o : decide ((n : Int) ≥ 0) = true := decide_eq_true (by omega)
  have HL := Aside0.mk h
  have HN := Lib.hid hni
  clear h hs hy hm hni hn h0 ho
  go_enter Tryz.func56, Tryz.ntmps56
  go_wp2_with fail
  go_region_held3 (fun w' => w'.cell? ⟨r, 1, none⟩ = some (.slice (some ⟨t, 0, none⟩) m cap) ∧ w'.cell? ⟨r, 2, none⟩ = some (.int .i64 (n : Int))) (go_keep) (fail)
  go_wp2_with fail
  go_end0
  have hu := (Upd.setCell (w.setCell ⟨t, n, none⟩ (.int .i64 2)) (p := ⟨r, 2, none⟩) (S := fun k => k = r) rfl (.int .i64 (-1))).trans (Upd.setCell _ (p := ⟨r, 3, none⟩) (S := fun k => k = r) rfl (.int .i64 0)) (fun k hk _ => hk)
  have hz := ((HL.out.setSt HN.out 2).setOp (-1)).setPg 0
  exact ⟨rfl, ⟨hz.blk, hz.row⟩, _, _, HL.out.setSt HN.out 2, Upd.setCell w (p := ⟨t, n, none⟩) (S := fun k => k = t) rfl (.int .i64 2), ⟨hu.os, hu.tape, hu.output, hu.size, hu.block⟩⟩
set_option maxHeartbeats 1000000 in
set_option maxRecDepth 100000 in
theorem RCount_any (h : RLog r t x cap rest g w) (hlen : g.st.length < 1000) (a : Int) : Calls Tryz.prog 38 #[.pointer (some ⟨r, 0, none⟩), .int .i64 a] w fun e w' => e = .returned (.int .i64 (cnt a g.st : Int)) ∧ Below w.heap.size w w' := by
 obtain ⟨n, hn⟩ : ∃ n, n = g.st.length := ⟨_, rfl⟩
 have k1 := h.c1
 have hc := fun (X : World) (hb : Below w.heap.size w X) (i : Nat) (x : Int) (hx : g.st[i]? = some x) => (h.below hb).cst hx
 have htk : g.st.take n = g.st := List.take_of_length_le (by omega)
 have HC := Lib.hid hc
 have HTK := Lib.hid htk
 have HN := Lib.hid hn
 have hm : n < 1000 := by omega
 rw [← hn] at k1
 clear hc h hn hlen htk
 go_enter Tryz.func38, Tryz.ntmps38
 go_wp2
 go_loopw [5, 13] (fun v5 v13 wr => ∃ k : Nat, k ≤ n ∧ v13 = .int .i64 (k : Int) ∧ v5 = .int .i64 (cnt a (g.st.take k) : Int) ∧ Below w.heap.size w wr) (fun _ v13 _ => n - (intOf v13).toNat)
 case atStart => exact ⟨0, Nat.zero_le _, rfl, rfl, Below.refl _ _⟩
 case round =>
  obtain ⟨k, hk, rfl, rfl, hb⟩ := hrel
  have HB := Aside0.mk hb
  clear hb
  have hcl := cnt_le a (g.st.take k)
  rw [List.length_take] at hcl
  by_cases hlt : k < n
  ·obtain ⟨x, hx⟩ : ∃ x, g.st[k]? = some x := ⟨_, List.getElem?_eq_getElem (by have := HN.out; omega)⟩
   have hct := cnt_take (a := a) hx
   have c5 := HC.out _ HB.out k x hx
   have HCT := Lib.hid hct
   have k0 : (0 : Int) ≤ (k : Int) := by omega
   have k1 : (k : Int) < (n : Int) := by omega
   obtain ⟨cv, hcv⟩ : ∃ cv, cv = cnt a (g.st.take k) := ⟨_, rfl⟩
   rw [← hcv] at hcl ⊢
   have HCV := Lib.hid hcv
   clear hx hct hcv
   by_cases hxa : x = a
   ·have e1 : (x == a) = true := by simpa using hxa
    have hxa2 := Lib.hid hxa
    clear hxa
    go_wp2
    exact ⟨⟨k + 1, by omega, by go_num, by rw [HCT.out, if_pos hxa2.out, ← HCV.out]; go_num, HB.out⟩, by simp [intOf]; omega⟩
   ·have e1 : (x == a) = false := by simpa using hxa
    have hxa2 := Lib.hid hxa
    clear hxa
    go_wp2
    exact ⟨⟨k + 1, by omega, by go_num, by rw [HCT.out, if_neg hxa2.out, ← HCV.out]; rfl, HB.out⟩, by simp [intOf]; omega⟩
  ·obtain rfl : k = n := by omega
   go_wp2
   go_ret
   exact ⟨by rw [HTK.out]; rfl, HB.out⟩
end
end Go.Proofs.YtmbiebdcnadhkaaGreat.Fl
namespace Go.Proofs.YtmbiebdcnadhkaaGreat.Fl
open Go.RowKit Go.Proofs.YtmbiebdcnadhkaaGreatW.PrintWords Go.Proofs.YtmbiebdcnadhkaaGreatW.PrintMore Go.Maps
def rEraseE (g : LG) (a : Int) : Int := if a < 0 ∨ (g.st.length : Int) ≤ a then 6 else if g.st.getD a.toNat 0 = 1 then 1 else 0
def rEraseG (g : LG) (a : Int) : LG := if rEraseE g a = 0 then { g with st := g.st.set a.toNat 0 } else g
def rEraseP (ps : List Pg) (g : LG) (a : Int) : List Pg := if rEraseE g a = 0 then eraseP a ps else ps
section
variable {N0 x r t cap : Nat} {rest : List Value} {s : Int × Int × Int} {G : (Nat → Prop) → List Pg → World → Prop} {K : Nat → Prop} {ps : List Pg} {g : LG} {w : World}
set_option maxHeartbeats 1000000 in
set_option maxRecDepth 100000 in
theorem RLErase_G (hG : RefFrame N0 x s G) (hSt : ∀ ps, Stays (fun K w => G K ps w)) (h : G K ps w) (hl : RLog r t x cap rest g w) (hr : K r) (ht : K t) (hN : N0 ≤ t) (hlen : g.st.length < 1000) (hpl : ps.length < 1000000) (a : Int) : Calls Tryz.prog 55 #[.pointer (some ⟨r, 0, none⟩), .int .i64 a] w fun e w' => e = .returned (.int .i64 (rEraseE g a)) ∧ G K (rEraseP ps g a) w' ∧ RLog r t x cap rest (rEraseG g a) w' ∧ Below N0 w w' ∧ Kept (fun k => K k ∧ k ≠ r ∧ k ≠ t) w w' := by
 have k0 := hl.c0
 have k1 := hl.c1
 have hsz := hG.size h
 obtain ⟨m, hm⟩ : ∃ m, m = g.st.length := ⟨_, rfl⟩
 have HL := Aside0.mk hl
 have HFR := Aside0.mk h
 have HM := Lib.hid hm
 by_cases hout : a < 0 ∨ (g.st.length : Int) ≤ a
 ·have he : rEraseE g a = 6 := by unfold rEraseE; rw [if_pos hout]
  have h1 : rEraseP ps g a = ps := by unfold rEraseP; rw [he]; rfl
  have h2 : rEraseG g a = g := by unfold rEraseG; rw [he]; rfl
  rw [he, h1, h2]
  rw [← hm] at hout k1 hlen
  by_cases h0 : a < 0
  ·have e_o : decide (a < 0) = true := decide_eq_true h0
   clear h hl hm he h1 h2 hout
   go_enter Tryz.func55, Tryz.ntmps55
   go_wp2_with fail
   go_ret
   exact ⟨rfl, HFR.out, HL.out, Below.refl _ _, fun k _ => rfl⟩
  ·have e_o : decide (a < 0) = false := decide_eq_false h0
   have e_1 : decide (a ≥ (m : Int)) = true := decide_eq_true (by omega)
   clear h hl hm he h1 h2 hout
   go_enter Tryz.func55, Tryz.ntmps55
   go_wp2_with fail
   go_ret
   exact ⟨rfl, HFR.out, HL.out, Below.refl _ _, fun k _ => rfl⟩
 ·have ha0 : ¬ a < 0 := fun h => hout (.inl h)
  have ha1 : ¬ (m : Int) ≤ a := fun h => hout (.inr (by rw [← hm]; exact h))
  obtain ⟨n, rfl⟩ := Int.eq_ofNat_of_zero_le (show 0 ≤ a by omega)
  obtain ⟨y, hy⟩ : ∃ y, g.st[n]? = some y := ⟨_, List.getElem?_eq_getElem (by omega)⟩
  have hyv : g.st.getD (n : Int).toNat 0 = y := by rw [Int.toNat_natCast, List.getD_eq_getElem?_getD, hy]; rfl
  have hev : rEraseE g (n : Int) = if y = 1 then 1 else 0 := by unfold rEraseE; rw [if_neg hout, hyv]
  have c5 := hl.cst hy
  have e_o : decide ((n : Int) < 0) = false := decide_eq_false (by omega)
  have e_1 : decide ((n : Int) ≥ (m : Int)) = false := decide_eq_false (by omega)
  have q0 : (0 : Int) ≤ (n : Int) := by omega
  have q1 : (n : Int) < (m : Int) := by omega
  have hni : n < g.st.length := by omega
  have HNI := Lib.hid hni
  rw [← hm] at k1 hlen
  by_cases hy1 : y = 1
  ·have he : rEraseE g (n : Int) = 1 := by rw [hev, if_pos hy1]
   have h1 : rEraseP ps g (n : Int) = ps := by unfold rEraseP; rw [he]; rfl
   have h2 : rEraseG g (n : Int) = g := by unfold rEraseG; rw [he]; rfl
   have e1 : (y == 1) = true := by simpa using hy1
   rw [he, h1, h2]
   clear h hl hm he h1 h2 hout hev hy hyv hy1 ha0 ha1 hni
   go_enter Tryz.func55, Tryz.ntmps55
   go_wp2_with fail
   go_ret
   exact ⟨rfl, HFR.out, HL.out, Below.refl _ _, fun k _ => rfl⟩
  ·have he : rEraseE g (n : Int) = 0 := by rw [hev, if_neg hy1]
   have h1 : rEraseP ps g (n : Int) = eraseP (n : Int) ps := by unfold rEraseP; rw [he]; rfl
   have h2 : rEraseG g (n : Int) = { g with st := g.st.set n 0 } := by unfold rEraseG; rw [he]; rfl
   have e1 : (y == 1) = false := by simpa using hy1
   rw [he, h1, h2]
   have her := hG.upd h (fun ok hX => RErase_any hX hpl (n : Int))
   have HER := Lib.hid her
   have HY := Lib.hid hy
   clear h hl hm he h1 h2 hout hev hy hyv hy1 ha0 ha1 hni her
   go_enter Tryz.func55, Tryz.ntmps55
   go_wp2_with (go_at_call 97; (with_reducible refine HER.out.mono ?_); rintro e w3 ⟨rfl, hf3, hb, hk⟩; have hl3 : RLog r t x cap rest g w3 := HL.out.step (hk r hr) (hk t ht); have z1 := hl3.c1; (rw [← HM.out] at z1); have z5 := hl3.cst HY.out; have z3 := hl3.ft n; have HL3 := Aside0.mk hl3; have HF3 := Aside0.mk hf3; have HB3 := Aside0.mk hb; have HK3 := Lib.hid hk; clear hl3 hf3 hb hk k0 k1 c5)
   go_ret
   have hz := HL3.out.setSt HNI.out 0
   have hu := Upd.setCell w3 (p := ⟨t, n, none⟩) (S := fun k => k = t) rfl (.int .i64 0)
   exact ⟨rfl, hSt _ K _ _ t _ _ _ HF3.out ht HL3.out.row hz.row (by decide) hu, hz, HB3.out.trans (hu.below (hG.size HF3.out) (fun k hk => by rw [hk]; exact hN)), fun k hk => (hu.block k (hG.lt HF3.out k hk.1) hk.2.2).trans (HK3.out k hk.1)⟩
end
end Go.Proofs.YtmbiebdcnadhkaaGreat.Fl
namespace Go.Proofs.YtmbiebdcnadhkaaGreat.Fl
open Go.RowKit Go.Proofs.YtmbiebdcnadhkaaGreatW.PrintWords Go.Proofs.YtmbiebdcnadhkaaGreatW.PrintMore Go.Maps
def RPutPost (N0 r t x cap : Nat) (rest : List Value) (G : (Nat → Prop) → List Pg → World → Prop) (K : Nat → Prop) (w : World) (at_ : Adr) (er : Int) (ps : List Pg) (g : LG) (e : Ending) (w' : World) : Prop :=
 e = .returned (.tuple #[.agg #[.int .i64 at_.1, .int .i64 at_.2], .int .i64 er]) ∧ G K ps w' ∧ RLog r t x cap rest g w' ∧ Below N0 w w' ∧ Kept (fun k => K k ∧ k ≠ r ∧ k ≠ t) w w'
section
variable {N0 x r t cap : Nat} {rest : List Value} {s : Int × Int × Int} {G : (Nat → Prop) → List Pg → World → Prop} {K : Nat → Prop} {ps : List Pg} {g : LG} {w : World} {A : Option Addr} {c : Nat} {l : List Int} {kind need : Int}
theorem rput_end {K2 : Nat → Prop} {X w9 : World} {b : Nat} {a0 a1 v0 v1 : Value} {ps2 : List Pg} {g2 : LG} (hG : RefFrame N0 x s G) (hSt : ∀ ps, Stays (fun K w => G K ps w)) (hf : G K2 ps2 X) (hl : RLog r t x cap rest g2 X) (hr : K r) (ht : K t) (hlt : ∀ k, K k → k < w.heap.size) (hN : N0 ≤ w.heap.size) (hwb : w.heap.size ≤ b) (hb : X.heap[b]? = some (.cells #[a0, a1] TA (0, 0))) (hKb : K2 b) (hKK : ∀ k, K k → K2 k) (hbl : Below N0 w X) (hkp : Kept (fun k => K k ∧ k ≠ r ∧ k ≠ t) w X) (he : w9 = (X.setCell ⟨b, 0, none⟩ v0).setCell ⟨b, 1, none⟩ v1) :
  w9.heap[b]? = some (.cells #[v0, v1] TA (0, 0)) ∧ G K ps2 w9 ∧ RLog r t x cap rest g2 w9 ∧ Below N0 w w9 ∧ Kept (fun k => K k ∧ k ≠ r ∧ k ≠ t) w w9 := by
 subst he
 have hne : r ≠ b := by have := hlt r hr; omega
 have hnt : t ≠ b := by have := hlt t ht; omega
 have hu : Upd (fun k => k = b) X ((X.setCell ⟨b, 0, none⟩ v0).setCell ⟨b, 1, none⟩ v1) := (Upd.setCell X (p := ⟨b, 0, none⟩) (S := fun k => k = b) rfl _).trans (Upd.setCell _ (p := ⟨b, 1, none⟩) (S := fun k => k = b) rfl _) (fun k hk _ => hk)
 have hb9 : ((X.setCell ⟨b, 0, none⟩ v0).setCell ⟨b, 1, none⟩ v1).heap[b]? = some (.cells #[v0, v1] TA (0, 0)) := setCell_blk (setCell_blk hb 0 v0) 1 v1
 exact ⟨hb9, hG.less (hSt ps2 K2 X _ b _ _ _ hf hKb hb hb9 (by decide) hu) hKK, hl.step (hu.block r (blt hl.blk) hne) (hu.block t (blt hl.row) hnt), hbl.trans (hu.below (by have := hbl.size; omega) (fun k hk => by rw [hk]; omega)), fun k hk => (hu.block k (hG.lt hf k (hKK k hk.1)) (fun e => by have := hlt k hk.1; omega)).trans (hkp k hk)⟩
set_option maxHeartbeats 4000000 in
set_option maxRecDepth 100000 in
theorem RPut_head (hG : RefFrame N0 x s G) (hSt : ∀ ps, Stays (fun K w => G K ps w)) (h : G K ps w) (hl : RLog r t x cap rest g w) (hr : K r) (ht : K t) (hNr : N0 ≤ r) (hNt : N0 ≤ t) (hsh : ShapeOk s) (hc : l.length ≤ c) (hm : l.length ≤ 4096) : Calls Tryz.prog 54 #[.pointer (some ⟨r, 0, none⟩), .int .u8 1, .slice A l.length c, .int .i64 need] w (RPutPost N0 r t x cap rest G K w (0, 0) 1 ps g) := by
 obtain ⟨n, hn⟩ : ∃ n, n = l.length := ⟨_, rfl⟩
 have hsz := hG.size h
 have hlt := fun k hk => hG.lt h k hk
 obtain ⟨okx, hX⟩ := hG.ref h
 obtain ⟨vx, hxb, _⟩ := hX.blk
 obtain ⟨W0, hW0⟩ : ∃ W0, W0 = w.alloc (.cells #[.int .i64 0, .int .i64 0] TA) := ⟨_, rfl⟩
 have wb0 : Below w.heap.size w W0 := by rw [hW0]; exact below_alloc (Below.refl _ _) _
 have wz0 : W0.heap.size = w.heap.size + 1 := by rw [hW0]; exact size_alloc _ _
 have hxb0 := (wb0.block _ (blt hxb)).trans hxb
 have u0 : W0.cell? ⟨x, 0, none⟩ = some (.int .i64 s.1) := bcell hxb0 0
 have u1 : W0.cell? ⟨x, 1, none⟩ = some (.int .i64 s.2.1) := bcell hxb0 1
 have u2 : W0.cell? ⟨x, 2, none⟩ = some (.int .i64 s.2.2) := bcell hxb0 2
 have k0 := (hl.below wb0).c0
 obtain ⟨W, hW⟩ : ∃ W, W = W0.alloc (.cells #[.int .i64 s.1, .int .i64 s.2.1, .int .i64 s.2.2] TSh) := ⟨_, rfl⟩
 obtain ⟨q8, q10⟩ := pair_blk w (.cells #[.int .i64 0, .int .i64 0] TA) (.cells #[.int .i64 s.1, .int .i64 s.2.1, .int .i64 s.2.2] TSh)
 rw [← hW0, ← hW] at q8 q10
 have y2 : W.cell? ⟨w.heap.size + 1, 2, none⟩ = some (.int .i64 s.2.2) := bcell q10 2
 have wb : Below w.heap.size w W := by rw [hW]; exact below_alloc wb0 _
 have wsz : W.heap.size = w.heap.size + 2 := by rw [hW, size_alloc, wz0]
 have hf1 := hG.keep h wb
 have hl1 := hl.below wb
 rw [← hn] at hc hm
 obtain ⟨kk, hkp⟩ : ∃ kk, kk = kpg s n := ⟨_, rfl⟩
 have hkb : kk ≤ 257 := by rw [hkp]; exact (kpg_bd hsh hm).2
 have hpg : ∀ X : World, Calls Tryz.prog 95 #[.int .i64 (n : Int), .int .i64 s.2.2] X fun e w' => e = .returned (.int .i64 (kk : Int)) ∧ Below X.heap.size X w' := fun X => by
  rw [hkp]
  exact RPages_ok n s hsh hm X
 have s10 := hsh.b0
 have s11 := hsh.b1
 have HPG := Lib.hid hpg
 have HG1 := Aside0.mk hf1
 have HL1 := Aside0.mk hl1
 have HW := Lib.hid hW
 have HW0 := Lib.hid hW0
 have Q8 := Lib.hid q8
 have Q10 := Lib.hid q10
 have WB := Aside0.mk wb
 have HN := Lib.hid hn
 have HKP := Lib.hid hkp
 have HLT := Lib.hid hlt
 have e_n : decide ((n : Int) > 4096) = false := decide_eq_false (by omega)
 have kw1 : IntKind.i64.wrap ((kk : Int) + 1) = (kk : Int) + 1 := IntWalk.i64_in _ (by omega)
 rw [← hn]
 clear h hl hn hlt hf1 hl1 hX hxb hxb0 wb0 hW hW0 q8 q10 wb hkp hpg
 go_enter Tryz.func54, Tryz.ntmps54
 go_wp2_with (first
  | (rw [← HW0.out])
  | (rw [← HW.out])
  | (go_at_call 95; (with_reducible refine (HPG.out _).mono ?_); rintro e w4 ⟨rfl, hb4⟩; have HB4 := Aside0.mk hb4; have x8 := (hb4.block _ (blt Q8.out)).trans Q8.out; have x10 := (hb4.block _ (blt Q10.out)).trans Q10.out; have hl4 := HL1.out.below hb4; have k04 := hl4.c0; have k14 := hl4.c1; have k24 := hl4.c2; have k34 := hl4.c3; have m0 : w4.cell? ⟨w.heap.size, 0, none⟩ = some (.int .i64 0) := bcell x8 0; have m1 : w4.cell? ⟨w.heap.size, 1, none⟩ = some (.int .i64 0) := bcell x8 1; have mf : ∀ j, w4.frozen? ⟨w.heap.size, j, none⟩ = false := (fun j => bfrozen x8 j); have y1 : w4.cell? ⟨w.heap.size + 1, 1, none⟩ = some (.int .i64 s.2.1) := bcell x10 1; have X84 := Lib.hid x8; have X104 := Lib.hid x10; have HL4 := Aside0.mk hl4; have HG4 := Aside0.mk (hG.below HG1.out hb4); clear hb4 x8 x10 hl4)
  | fail)
 obtain ⟨w9, hw9⟩ : ∃ w9, w9 = (w4.setCell ⟨w.heap.size, 0, none⟩ (.int .i64 0)).setCell ⟨w.heap.size, 1, none⟩ (.int .i64 0) := ⟨_, rfl⟩
 rw [← hw9]
 obtain ⟨r8, hf9, hl9, hb9, hk9⟩ := rput_end hG hSt HG4.out HL4.out hr ht HLT.out hsz (Nat.le_refl _) X84.out (.inr ⟨Nat.le_refl _, by omega⟩) (fun k hk => .inl hk) ((WB.out.trans ((HB4.out).mono (by omega))).mono hsz) (fun k hk => (((HB4.out).mono (by omega)).block k (HLT.out k hk.1)).trans (WB.out.block k (HLT.out k hk.1))) hw9
 have r0 := bcell r8 0
 have r1 := bcell r8 1
 exact bodyPost_ret (v := .tuple #[.agg #[.int .i64 0, .int .i64 0], .int .i64 1]) (by simp [results, Tryz.results54, go_sem, r0, r1]) rfl ⟨rfl, hf9, hl9, hb9, hk9⟩
set_option maxHeartbeats 4000000 in
set_option maxRecDepth 100000 in
theorem RPut_big (hG : RefFrame N0 x s G) (hSt : ∀ ps, Stays (fun K w => G K ps w)) (h : G K ps w) (hl : RLog r t x cap rest g w) (hr : K r) (ht : K t) (hNr : N0 ≤ r) (hNt : N0 ≤ t) (hsh : ShapeOk s) (hc : l.length ≤ c) (hm : l.length ≤ 4096) (hk : kind ≠ 1) (hb1 : s.2.1 < (kpg s l.length : Int) + 1) : Calls Tryz.prog 54 #[.pointer (some ⟨r, 0, none⟩), .int .u8 kind, .slice A l.length c, .int .i64 need] w (RPutPost N0 r t x cap rest G K w (0, 0) 10 ps g) := by
 obtain ⟨n, hn⟩ : ∃ n, n = l.length := ⟨_, rfl⟩
 have hsz := hG.size h
 have hlt := fun k hk => hG.lt h k hk
 obtain ⟨okx, hX⟩ := hG.ref h
 obtain ⟨vx, hxb, _⟩ := hX.blk
 obtain ⟨W0, hW0⟩ : ∃ W0, W0 = w.alloc (.cells #[.int .i64 0, .int .i64 0] TA) := ⟨_, rfl⟩
 have wb0 : Below w.heap.size w W0 := by rw [hW0]; exact below_alloc (Below.refl _ _) _
 have wz0 : W0.heap.size = w.heap.size + 1 := by rw [hW0]; exact size_alloc _ _
 have hxb0 := (wb0.block _ (blt hxb)).trans hxb
 have u0 : W0.cell? ⟨x, 0, none⟩ = some (.int .i64 s.1) := bcell hxb0 0
 have u1 : W0.cell? ⟨x, 1, none⟩ = some (.int .i64 s.2.1) := bcell hxb0 1
 have u2 : W0.cell? ⟨x, 2, none⟩ = some (.int .i64 s.2.2) := bcell hxb0 2
 have k0 := (hl.below wb0).c0
 obtain ⟨W, hW⟩ : ∃ W, W = W0.alloc (.cells #[.int .i64 s.1, .int .i64 s.2.1, .int .i64 s.2.2] TSh) := ⟨_, rfl⟩
 obtain ⟨q8, q10⟩ := pair_blk w (.cells #[.int .i64 0, .int .i64 0] TA) (.cells #[.int .i64 s.1, .int .i64 s.2.1, .int .i64 s.2.2] TSh)
 rw [← hW0, ← hW] at q8 q10
 have y2 : W.cell? ⟨w.heap.size + 1, 2, none⟩ = some (.int .i64 s.2.2) := bcell q10 2
 have wb : Below w.heap.size w W := by rw [hW]; exact below_alloc wb0 _
 have wsz : W.heap.size = w.heap.size + 2 := by rw [hW, size_alloc, wz0]
 have hf1 := hG.keep h wb
 have hl1 := hl.below wb
 rw [← hn] at hc hm
 obtain ⟨kk, hkp⟩ : ∃ kk, kk = kpg s n := ⟨_, rfl⟩
 have hkb : kk ≤ 257 := by rw [hkp]; exact (kpg_bd hsh hm).2
 have hpg : ∀ X : World, Calls Tryz.prog 95 #[.int .i64 (n : Int), .int .i64 s.2.2] X fun e w' => e = .returned (.int .i64 (kk : Int)) ∧ Below X.heap.size X w' := fun X => by
  rw [hkp]
  exact RPages_ok n s hsh hm X
 have s10 := hsh.b0
 have s11 := hsh.b1
 have HPG := Lib.hid hpg
 have HG1 := Aside0.mk hf1
 have HL1 := Aside0.mk hl1
 have HW := Lib.hid hW
 have HW0 := Lib.hid hW0
 have Q8 := Lib.hid q8
 have Q10 := Lib.hid q10
 have WB := Aside0.mk wb
 have HN := Lib.hid hn
 have HKP := Lib.hid hkp
 have HLT := Lib.hid hlt
 have e_n : decide ((n : Int) > 4096) = false := decide_eq_false (by omega)
 have kw1 : IntKind.i64.wrap ((kk : Int) + 1) = (kk : Int) + 1 := IntWalk.i64_in _ (by omega)
 rw [← hn]
 clear h hl hn hlt hf1 hl1 hX hxb hxb0 wb0 hW hW0 q8 q10 wb hkp hpg
 rw [← HN.out, ← HKP.out] at hb1
 have e_b : decide ((kk : Int) + 1 > s.2.1) = true := decide_eq_true hb1
 have e_k : (kind == 1) = false := by simpa using hk
 clear hk
 go_enter Tryz.func54, Tryz.ntmps54
 go_wp2_with (first
  | (rw [← HW0.out])
  | (rw [← HW.out])
  | (go_at_call 95; (with_reducible refine (HPG.out _).mono ?_); rintro e w4 ⟨rfl, hb4⟩; have HB4 := Aside0.mk hb4; have x8 := (hb4.block _ (blt Q8.out)).trans Q8.out; have x10 := (hb4.block _ (blt Q10.out)).trans Q10.out; have hl4 := HL1.out.below hb4; have k04 := hl4.c0; have k14 := hl4.c1; have k24 := hl4.c2; have k34 := hl4.c3; have m0 : w4.cell? ⟨w.heap.size, 0, none⟩ = some (.int .i64 0) := bcell x8 0; have m1 : w4.cell? ⟨w.heap.size, 1, none⟩ = some (.int .i64 0) := bcell x8 1; have mf : ∀ j, w4.frozen? ⟨w.heap.size, j, none⟩ = false := (fun j => bfrozen x8 j); have y1 : w4.cell? ⟨w.heap.size + 1, 1, none⟩ = some (.int .i64 s.2.1) := bcell x10 1; have X84 := Lib.hid x8; have X104 := Lib.hid x10; have HL4 := Aside0.mk hl4; have HG4 := Aside0.mk (hG.below HG1.out hb4); clear hb4 x8 x10 hl4)
  | fail)
 obtain ⟨w9, hw9⟩ : ∃ w9, w9 = (w4.setCell ⟨w.heap.size, 0, none⟩ (.int .i64 0)).setCell ⟨w.heap.size, 1, none⟩ (.int .i64 0) := ⟨_, rfl⟩
 rw [← hw9]
 obtain ⟨r8, hf9, hl9, hb9, hk9⟩ := rput_end hG hSt HG4.out HL4.out hr ht HLT.out hsz (Nat.le_refl _) X84.out (.inr ⟨Nat.le_refl _, by omega⟩) (fun k hk => .inl hk) ((WB.out.trans ((HB4.out).mono (by omega))).mono hsz) (fun k hk => (((HB4.out).mono (by omega)).block k (HLT.out k hk.1)).trans (WB.out.block k (HLT.out k hk.1))) hw9
 have r0 := bcell r8 0
 have r1 := bcell r8 1
 exact bodyPost_ret (v := .tuple #[.agg #[.int .i64 0, .int .i64 0], .int .i64 10]) (by simp [results, Tryz.results54, go_sem, r0, r1]) rfl ⟨rfl, hf9, hl9, hb9, hk9⟩
set_option maxHeartbeats 4000000 in
set_option maxRecDepth 100000 in
theorem RPut_full0 (hG : RefFrame N0 x s G) (hSt : ∀ ps, Stays (fun K w => G K ps w)) (h : G K ps w) (hl : RLog r t x cap rest g w) (hr : K r) (ht : K t) (hNr : N0 ≤ r) (hNt : N0 ≤ t) (hsh : ShapeOk s) (hc : l.length ≤ c) (hm : l.length ≤ 4096) (hk : kind ≠ 1) (hb1 : (kpg s l.length : Int) + 1 ≤ s.2.1) (ho : g.op < 0) (hsl : g.st.length < 1000) (hcn : (cnt 0 g.st : Int) < need) : Calls Tryz.prog 54 #[.pointer (some ⟨r, 0, none⟩), .int .u8 kind, .slice A l.length c, .int .i64 need] w (RPutPost N0 r t x cap rest G K w (0, 0) 5 ps g) := by
 obtain ⟨n, hn⟩ : ∃ n, n = l.length := ⟨_, rfl⟩
 have hsz := hG.size h
 have hlt := fun k hk => hG.lt h k hk
 obtain ⟨okx, hX⟩ := hG.ref h
 obtain ⟨vx, hxb, _⟩ := hX.blk
 obtain ⟨W0, hW0⟩ : ∃ W0, W0 = w.alloc (.cells #[.int .i64 0, .int .i64 0] TA) := ⟨_, rfl⟩
 have wb0 : Below w.heap.size w W0 := by rw [hW0]; exact below_alloc (Below.refl _ _) _
 have wz0 : W0.heap.size = w.heap.size + 1 := by rw [hW0]; exact size_alloc _ _
 have hxb0 := (wb0.block _ (blt hxb)).trans hxb
 have u0 : W0.cell? ⟨x, 0, none⟩ = some (.int .i64 s.1) := bcell hxb0 0
 have u1 : W0.cell? ⟨x, 1, none⟩ = some (.int .i64 s.2.1) := bcell hxb0 1
 have u2 : W0.cell? ⟨x, 2, none⟩ = some (.int .i64 s.2.2) := bcell hxb0 2
 have k0 := (hl.below wb0).c0
 obtain ⟨W, hW⟩ : ∃ W, W = W0.alloc (.cells #[.int .i64 s.1, .int .i64 s.2.1, .int .i64 s.2.2] TSh) := ⟨_, rfl⟩
 obtain ⟨q8, q10⟩ := pair_blk w (.cells #[.int .i64 0, .int .i64 0] TA) (.cells #[.int .i64 s.1, .int .i64 s.2.1, .int .i64 s.2.2] TSh)
 rw [← hW0, ← hW] at q8 q10
 have y2 : W.cell? ⟨w.heap.size + 1, 2, none⟩ = some (.int .i64 s.2.2) := bcell q10 2
 have wb : Below w.heap.size w W := by rw [hW]; exact below_alloc wb0 _
 have wsz : W.heap.size = w.heap.size + 2 := by rw [hW, size_alloc, wz0]
 have hf1 := hG.keep h wb
 have hl1 := hl.below wb
 rw [← hn] at hc hm
 obtain ⟨kk, hkp⟩ : ∃ kk, kk = kpg s n := ⟨_, rfl⟩
 have hkb : kk ≤ 257 := by rw [hkp]; exact (kpg_bd hsh hm).2
 have hpg : ∀ X : World, Calls Tryz.prog 95 #[.int .i64 (n : Int), .int .i64 s.2.2] X fun e w' => e = .returned (.int .i64 (kk : Int)) ∧ Below X.heap.size X w' := fun X => by
  rw [hkp]
  exact RPages_ok n s hsh hm X
 have s10 := hsh.b0
 have s11 := hsh.b1
 have HPG := Lib.hid hpg
 have HG1 := Aside0.mk hf1
 have HL1 := Aside0.mk hl1
 have HW := Lib.hid hW
 have HW0 := Lib.hid hW0
 have Q8 := Lib.hid q8
 have Q10 := Lib.hid q10
 have WB := Aside0.mk wb
 have HN := Lib.hid hn
 have HKP := Lib.hid hkp
 have HLT := Lib.hid hlt
 have e_n : decide ((n : Int) > 4096) = false := decide_eq_false (by omega)
 have kw1 : IntKind.i64.wrap ((kk : Int) + 1) = (kk : Int) + 1 := IntWalk.i64_in _ (by omega)
 rw [← hn]
 clear h hl hn hlt hf1 hl1 hX hxb hxb0 wb0 hW hW0 q8 q10 wb hkp hpg
 rw [← HN.out, ← HKP.out] at hb1
 have e_b : decide ((kk : Int) + 1 > s.2.1) = false := decide_eq_false (by omega)
 have e_k : (kind == 1) = false := by simpa using hk
 clear hk
 have e_o : decide (g.op < 0) = true := decide_eq_true ho
 obtain ⟨c0, hc0⟩ : ∃ c0, c0 = cnt 0 g.st := ⟨_, rfl⟩
 rw [← hc0] at hcn
 have HC0 := Lib.hid hc0
 have HSL := Lib.hid hsl
 clear hc0 hsl
 have e_c : decide ((c0 : Int) < need) = true := decide_eq_true hcn
 go_enter Tryz.func54, Tryz.ntmps54
 go_wp2_with (first
  | (rw [← HW0.out])
  | (rw [← HW.out])
  | (go_at_call 95; (with_reducible refine (HPG.out _).mono ?_); rintro e w4 ⟨rfl, hb4⟩; have HB4 := Aside0.mk hb4; have x8 := (hb4.block _ (blt Q8.out)).trans Q8.out; have x10 := (hb4.block _ (blt Q10.out)).trans Q10.out; have hl4 := HL1.out.below hb4; have k04 := hl4.c0; have k14 := hl4.c1; have k24 := hl4.c2; have k34 := hl4.c3; have m0 : w4.cell? ⟨w.heap.size, 0, none⟩ = some (.int .i64 0) := bcell x8 0; have m1 : w4.cell? ⟨w.heap.size, 1, none⟩ = some (.int .i64 0) := bcell x8 1; have mf : ∀ j, w4.frozen? ⟨w.heap.size, j, none⟩ = false := (fun j => bfrozen x8 j); have y1 : w4.cell? ⟨w.heap.size + 1, 1, none⟩ = some (.int .i64 s.2.1) := bcell x10 1; have X84 := Lib.hid x8; have X104 := Lib.hid x10; have HL4 := Aside0.mk hl4; have HG4 := Aside0.mk (hG.below HG1.out hb4); clear hb4 x8 x10 hl4)
  | fail)
 have e_u : decide ((n : Int) > 4096) = false := e_n
 refine wp_region_held_drew (S := (fun w' => w'.cell? ⟨r, 2, none⟩ = some (.int .i64 g.op) ∧ w'.cell? ⟨r, 3, none⟩ = some (.int .i64 g.pg) ∧ w'.cell? ⟨w.heap.size + 1, 1, none⟩ = some (.int .i64 s.2.1))) (by kernel_rfl) ?_ (fun hHeld => ?_)
 ·first | go_keep | exact ⟨k24, k34, y1⟩
 first | refine tkY 0 ?_ | refine tkN 0 ?_
 try simp only [Act.put, tk1, tk2, tk3]
 first | refine tkY 1 ?_ | refine tkN 1 ?_
 try simp only [Act.put, tk1, tk2, tk3]
 first | refine tkY 2 ?_ | refine tkN 2 ?_
 try simp only [Act.put, tk1, tk2, tk3]
 first | refine tkY 3 ?_ | refine tkN 3 ?_
 try simp only [Act.put, tk1, tk2, tk3]
 first | refine tkY 4 ?_ | refine tkN 4 ?_
 try simp only [Act.put, tk1, tk2, tk3]
 first | refine tkY 5 ?_ | refine tkN 5 ?_
 try simp only [Act.put, tk1, tk2, tk3]
 first | refine tkY 6 ?_ | refine tkN 6 ?_
 try simp only [Act.put, tk1, tk2, tk3]
 first | refine tkY 7 ?_ | refine tkN 7 ?_
 try simp only [Act.put, tk1, tk2, tk3]
 first | refine tkY 8 ?_ | refine tkN 8 ?_
 try simp only [Act.put, tk1, tk2, tk3]
 first | refine tkY 9 ?_ | refine tkN 9 ?_
 try simp only [Act.put, tk1, tk2, tk3]
 first | refine tkY 10 ?_ | refine tkN 10 ?_
 try simp only [Act.put, tk1, tk2, tk3]
 first | refine tkY 11 ?_ | refine tkN 11 ?_
 try simp only [Act.put, tk1, tk2, tk3]
 first | refine tkY 12 ?_ | refine tkN 12 ?_
 try simp only [Act.put, tk1, tk2, tk3]
 first | refine tkY 13 ?_ | refine tkN 13 ?_
 try simp only [Act.put, tk1, tk2, tk3]
 first | refine tkY 14 ?_ | refine tkN 14 ?_
 try simp only [Act.put, tk1, tk2, tk3]
 first | refine tkY 15 ?_ | refine tkN 15 ?_
 try simp only [Act.put, tk1, tk2, tk3]
 refine wpAnyH_done (by kernel_rfl) ?_ _
 obtain ⟨w5, hw5⟩ : ∃ w5, w5 = w4.drew := ⟨_, rfl⟩
 rw [← hw5]
 have b5 : Below w4.heap.size w4 w5 := by rw [hw5]; exact (Below.refl _ _).drew
 have HB5 := Aside0.mk (HB4.out.trans (b5.mono HB4.out.size))
 have hl5 := HL4.out.below b5
 have k05 := hl5.c0
 have k15 := hl5.c1
 have k25 := hl5.c2
 have k35 := hl5.c3
 have k45 := hl5.c4
 have x85 := (b5.block _ (blt X84.out)).trans X84.out
 have HG5 := Aside0.mk (hG.below HG4.out b5)
 have HL5 := Aside0.mk hl5
 have X85 := Lib.hid x85
 clear hw5 b5 hl5 x85
 go_wp2_with (first
  | (rw [← HW0.out])
  | (rw [← HW.out])
  | (go_at_call 38; (have hcc := RCount_any HL5.out HSL.out 0); (rw [← HC0.out] at hcc); (with_reducible refine hcc.mono ?_); clear hcc; rintro e w7 ⟨rfl, hb7⟩; have HB7 := Aside0.mk (HB5.out.trans (hb7.mono HB5.out.size)); have x8 := (hb7.block _ (blt X85.out)).trans X85.out; have X87 := Lib.hid x8; have n0 : w7.cell? ⟨w.heap.size, 0, none⟩ = some (.int .i64 0) := bcell x8 0; have n1 : w7.cell? ⟨w.heap.size, 1, none⟩ = some (.int .i64 0) := bcell x8 1; have nf : ∀ j, w7.frozen? ⟨w.heap.size, j, none⟩ = false := (fun j => bfrozen x8 j); have HL7 := Aside0.mk (HL5.out.below hb7); have HG7 := Aside0.mk (hG.below HG5.out hb7); clear hb7 x8)
  | fail)
 obtain ⟨w9, hw9⟩ : ∃ w9, w9 = (w7.setCell ⟨w.heap.size, 0, none⟩ (.int .i64 0)).setCell ⟨w.heap.size, 1, none⟩ (.int .i64 0) := ⟨_, rfl⟩
 rw [← hw9]
 obtain ⟨r8, hf9, hl9, hb9, hk9⟩ := rput_end hG hSt HG7.out HL7.out hr ht HLT.out hsz (Nat.le_refl _) X87.out (.inr ⟨Nat.le_refl _, by omega⟩) (fun k hk => .inl hk) ((WB.out.trans ((HB7.out).mono (by omega))).mono hsz) (fun k hk => (((HB7.out).mono (by omega)).block k (HLT.out k hk.1)).trans (WB.out.block k (HLT.out k hk.1))) hw9
 have r0 := bcell r8 0
 have r1 := bcell r8 1
 exact bodyPost_ret (v := .tuple #[.agg #[.int .i64 0, .int .i64 0], .int .i64 5]) (by simp [results, Tryz.results54, go_sem, r0, r1]) rfl ⟨rfl, hf9, hl9, hb9, hk9⟩
set_option maxHeartbeats 4000000 in
set_option maxRecDepth 100000 in
theorem RPut_fullN (hG : RefFrame N0 x s G) (hSt : ∀ ps, Stays (fun K w => G K ps w)) (h : G K ps w) (hl : RLog r t x cap rest g w) (hr : K r) (ht : K t) (hNr : N0 ≤ r) (hNt : N0 ≤ t) (hsh : ShapeOk s) (hc : l.length ≤ c) (hm : l.length ≤ 4096) (hk : kind ≠ 1) (hb1 : (kpg s l.length : Int) + 1 ≤ s.2.1) (ho : 0 ≤ g.op) (hp0 : 0 ≤ g.pg) (hp1 : g.pg ≤ 100000) (hb2 : s.2.1 < g.pg + (kpg s l.length : Int)) (hsl : g.st.length < 1000) (hcn : (cnt 0 g.st : Int) < need) : Calls Tryz.prog 54 #[.pointer (some ⟨r, 0, none⟩), .int .u8 kind, .slice A l.length c, .int .i64 need] w (RPutPost N0 r t x cap rest G K w (0, 0) 5 ps g) := by
 obtain ⟨n, hn⟩ : ∃ n, n = l.length := ⟨_, rfl⟩
 have hsz := hG.size h
 have hlt := fun k hk => hG.lt h k hk
 obtain ⟨okx, hX⟩ := hG.ref h
 obtain ⟨vx, hxb, _⟩ := hX.blk
 obtain ⟨W0, hW0⟩ : ∃ W0, W0 = w.alloc (.cells #[.int .i64 0, .int .i64 0] TA) := ⟨_, rfl⟩
 have wb0 : Below w.heap.size w W0 := by rw [hW0]; exact below_alloc (Below.refl _ _) _
 have wz0 : W0.heap.size = w.heap.size + 1 := by rw [hW0]; exact size_alloc _ _
 have hxb0 := (wb0.block _ (blt hxb)).trans hxb
 have u0 : W0.cell? ⟨x, 0, none⟩ = some (.int .i64 s.1) := bcell hxb0 0
 have u1 : W0.cell? ⟨x, 1, none⟩ = some (.int .i64 s.2.1) := bcell hxb0 1
 have u2 : W0.cell? ⟨x, 2, none⟩ = some (.int .i64 s.2.2) := bcell hxb0 2
 have k0 := (hl.below wb0).c0
 obtain ⟨W, hW⟩ : ∃ W, W = W0.alloc (.cells #[.int .i64 s.1, .int .i64 s.2.1, .int .i64 s.2.2] TSh) := ⟨_, rfl⟩
 obtain ⟨q8, q10⟩ := pair_blk w (.cells #[.int .i64 0, .int .i64 0] TA) (.cells #[.int .i64 s.1, .int .i64 s.2.1, .int .i64 s.2.2] TSh)
 rw [← hW0, ← hW] at q8 q10
 have y2 : W.cell? ⟨w.heap.size + 1, 2, none⟩ = some (.int .i64 s.2.2) := bcell q10 2
 have wb : Below w.heap.size w W := by rw [hW]; exact below_alloc wb0 _
 have wsz : W.heap.size = w.heap.size + 2 := by rw [hW, size_alloc, wz0]
 have hf1 := hG.keep h wb
 have hl1 := hl.below wb
 rw [← hn] at hc hm
 obtain ⟨kk, hkp⟩ : ∃ kk, kk = kpg s n := ⟨_, rfl⟩
 have hkb : kk ≤ 257 := by rw [hkp]; exact (kpg_bd hsh hm).2
 have hpg : ∀ X : World, Calls Tryz.prog 95 #[.int .i64 (n : Int), .int .i64 s.2.2] X fun e w' => e = .returned (.int .i64 (kk : Int)) ∧ Below X.heap.size X w' := fun X => by
  rw [hkp]
  exact RPages_ok n s hsh hm X
 have s10 := hsh.b0
 have s11 := hsh.b1
 have HPG := Lib.hid hpg
 have HG1 := Aside0.mk hf1
 have HL1 := Aside0.mk hl1
 have HW := Lib.hid hW
 have HW0 := Lib.hid hW0
 have Q8 := Lib.hid q8
 have Q10 := Lib.hid q10
 have WB := Aside0.mk wb
 have HN := Lib.hid hn
 have HKP := Lib.hid hkp
 have HLT := Lib.hid hlt
 have e_n : decide ((n : Int) > 4096) = false := decide_eq_false (by omega)
 have kw1 : IntKind.i64.wrap ((kk : Int) + 1) = (kk : Int) + 1 := IntWalk.i64_in _ (by omega)
 rw [← hn]
 clear h hl hn hlt hf1 hl1 hX hxb hxb0 wb0 hW hW0 q8 q10 wb hkp hpg
 rw [← HN.out, ← HKP.out] at hb1
 have e_b : decide ((kk : Int) + 1 > s.2.1) = false := decide_eq_false (by omega)
 have e_k : (kind == 1) = false := by simpa using hk
 clear hk
 rw [← HN.out, ← HKP.out] at hb2
 have e_o : decide (g.op < 0) = false := decide_eq_false (by omega)
 have kw2 : IntKind.i64.wrap (g.pg + (kk : Int)) = g.pg + (kk : Int) := IntWalk.i64_in _ (by omega)
 have e_p : decide (g.pg + (kk : Int) > s.2.1) = true := decide_eq_true (by omega)
 obtain ⟨c0, hc0⟩ : ∃ c0, c0 = cnt 0 g.st := ⟨_, rfl⟩
 rw [← hc0] at hcn
 have HC0 := Lib.hid hc0
 have HSL := Lib.hid hsl
 clear hc0 hsl
 have e_c : decide ((c0 : Int) < need) = true := decide_eq_true hcn
 go_enter Tryz.func54, Tryz.ntmps54
 go_wp2_with (first
  | (rw [← HW0.out])
  | (rw [← HW.out])
  | (go_at_call 95; (with_reducible refine (HPG.out _).mono ?_); rintro e w4 ⟨rfl, hb4⟩; have HB4 := Aside0.mk hb4; have x8 := (hb4.block _ (blt Q8.out)).trans Q8.out; have x10 := (hb4.block _ (blt Q10.out)).trans Q10.out; have hl4 := HL1.out.below hb4; have k04 := hl4.c0; have k14 := hl4.c1; have k24 := hl4.c2; have k34 := hl4.c3; have m0 : w4.cell? ⟨w.heap.size, 0, none⟩ = some (.int .i64 0) := bcell x8 0; have m1 : w4.cell? ⟨w.heap.size, 1, none⟩ = some (.int .i64 0) := bcell x8 1; have mf : ∀ j, w4.frozen? ⟨w.heap.size, j, none⟩ = false := (fun j => bfrozen x8 j); have y1 : w4.cell? ⟨w.heap.size + 1, 1, none⟩ = some (.int .i64 s.2.1) := bcell x10 1; have X84 := Lib.hid x8; have X104 := Lib.hid x10; have HL4 := Aside0.mk hl4; have HG4 := Aside0.mk (hG.below HG1.out hb4); clear hb4 x8 x10 hl4)
  | fail)
 have e_u : decide ((n : Int) > 4096) = false := e_n
 refine wp_region_held_drew (S := (fun w' => w'.cell? ⟨r, 2, none⟩ = some (.int .i64 g.op) ∧ w'.cell? ⟨r, 3, none⟩ = some (.int .i64 g.pg) ∧ w'.cell? ⟨w.heap.size + 1, 1, none⟩ = some (.int .i64 s.2.1))) (by kernel_rfl) ?_ (fun hHeld => ?_)
 ·first | go_keep | exact ⟨k24, k34, y1⟩
 first | refine tkY 0 ?_ | refine tkN 0 ?_
 try simp only [Act.put, tk1, tk2, tk3]
 first | refine tkY 1 ?_ | refine tkN 1 ?_
 try simp only [Act.put, tk1, tk2, tk3]
 first | refine tkY 2 ?_ | refine tkN 2 ?_
 try simp only [Act.put, tk1, tk2, tk3]
 first | refine tkY 3 ?_ | refine tkN 3 ?_
 try simp only [Act.put, tk1, tk2, tk3]
 first | refine tkY 4 ?_ | refine tkN 4 ?_
 try simp only [Act.put, tk1, tk2, tk3]
 first | refine tkY 5 ?_ | refine tkN 5 ?_
 try simp only [Act.put, tk1, tk2, tk3]
 first | refine tkY 6 ?_ | refine tkN 6 ?_
 try simp only [Act.put, tk1, tk2, tk3]
 first | refine tkY 7 ?_ | refine tkN 7 ?_
 try simp only [Act.put, tk1, tk2, tk3]
 first | refine tkY 8 ?_ | refine tkN 8 ?_
 try simp only [Act.put, tk1, tk2, tk3]
 first | refine tkY 9 ?_ | refine tkN 9 ?_
 try simp only [Act.put, tk1, tk2, tk3]
 first | refine tkY 10 ?_ | refine tkN 10 ?_
 try simp only [Act.put, tk1, tk2, tk3]
 first | refine tkY 11 ?_ | refine tkN 11 ?_
 try simp only [Act.put, tk1, tk2, tk3]
 first | refine tkY 12 ?_ | refine tkN 12 ?_
 try simp only [Act.put, tk1, tk2, tk3]
 first | refine tkY 13 ?_ | refine tkN 13 ?_
 try simp only [Act.put, tk1, tk2, tk3]
 first | refine tkY 14 ?_ | refine tkN 14 ?_
 try simp only [Act.put, tk1, tk2, tk3]
 first | refine tkY 15 ?_ | refine tkN 15 ?_
 try simp only [Act.put, tk1, tk2, tk3]
 refine wpAnyH_done (by kernel_rfl) ?_ _
 obtain ⟨w5, hw5⟩ : ∃ w5, w5 = w4.drew := ⟨_, rfl⟩
 rw [← hw5]
 have b5 : Below w4.heap.size w4 w5 := by rw [hw5]; exact (Below.refl _ _).drew
 have HB5 := Aside0.mk (HB4.out.trans (b5.mono HB4.out.size))
 have hl5 := HL4.out.below b5
 have k05 := hl5.c0
 have k15 := hl5.c1
 have k25 := hl5.c2
 have k35 := hl5.c3
 have k45 := hl5.c4
 have x85 := (b5.block _ (blt X84.out)).trans X84.out
 have HG5 := Aside0.mk (hG.below HG4.out b5)
 have HL5 := Aside0.mk hl5
 have X85 := Lib.hid x85
 clear hw5 b5 hl5 x85
 go_wp2_with (first
  | (rw [← HW0.out])
  | (rw [← HW.out])
  | (go_at_call 38; (have hcc := RCount_any HL5.out HSL.out 0); (rw [← HC0.out] at hcc); (with_reducible refine hcc.mono ?_); clear hcc; rintro e w7 ⟨rfl, hb7⟩; have HB7 := Aside0.mk (HB5.out.trans (hb7.mono HB5.out.size)); have x8 := (hb7.block _ (blt X85.out)).trans X85.out; have X87 := Lib.hid x8; have n0 : w7.cell? ⟨w.heap.size, 0, none⟩ = some (.int .i64 0) := bcell x8 0; have n1 : w7.cell? ⟨w.heap.size, 1, none⟩ = some (.int .i64 0) := bcell x8 1; have nf : ∀ j, w7.frozen? ⟨w.heap.size, j, none⟩ = false := (fun j => bfrozen x8 j); have HL7 := Aside0.mk (HL5.out.below hb7); have HG7 := Aside0.mk (hG.below HG5.out hb7); clear hb7 x8)
  | fail)
 obtain ⟨w9, hw9⟩ : ∃ w9, w9 = (w7.setCell ⟨w.heap.size, 0, none⟩ (.int .i64 0)).setCell ⟨w.heap.size, 1, none⟩ (.int .i64 0) := ⟨_, rfl⟩
 rw [← hw9]
 obtain ⟨r8, hf9, hl9, hb9, hk9⟩ := rput_end hG hSt HG7.out HL7.out hr ht HLT.out hsz (Nat.le_refl _) X87.out (.inr ⟨Nat.le_refl _, by omega⟩) (fun k hk => .inl hk) ((WB.out.trans ((HB7.out).mono (by omega))).mono hsz) (fun k hk => (((HB7.out).mono (by omega)).block k (HLT.out k hk.1)).trans (WB.out.block k (HLT.out k hk.1))) hw9
 have r0 := bcell r8 0
 have r1 := bcell r8 1
 exact bodyPost_ret (v := .tuple #[.agg #[.int .i64 0, .int .i64 0], .int .i64 5]) (by simp [results, Tryz.results54, go_sem, r0, r1]) rfl ⟨rfl, hf9, hl9, hb9, hk9⟩
set_option maxHeartbeats 4000000 in
set_option maxRecDepth 100000 in
theorem RPut_app (hG : RefFrame N0 x s G) (hSt : ∀ ps, Stays (fun K w => G K ps w)) (h : G K ps w) (hl : RLog r t x cap rest g w) (hr : K r) (ht : K t) (hNr : N0 ≤ r) (hNt : N0 ≤ t) (hsh : ShapeOk s) (hc : l.length ≤ c) (hm : l.length ≤ 4096) (hk : kind ≠ 1) (hb1 : (kpg s l.length : Int) + 1 ≤ s.2.1) (ho : 0 ≤ g.op) (hp0 : 0 ≤ g.pg) (hp1 : g.pg ≤ 100000) (hb2 : g.pg + (kpg s l.length : Int) ≤ s.2.1) (hkk : KindOk kind) (hBl : Byt l) (hCx : ∀ X, Below N0 w X → kB.C X A l.length l) (hdd : ps.length < 900000) (hsq : SeqOk (g.nx - 1)) (hn1 : 1 ≤ g.nx) (hn2 : g.nx < 1000000) : Calls Tryz.prog 54 #[.pointer (some ⟨r, 0, none⟩), .int .u8 kind, .slice A l.length c, .int .i64 need] w (RPutPost N0 r t x cap rest G K w (g.op, g.pg) 0 (appP s ps g.op g.pg l.length (rec kind (g.nx - 1) l)) { g with pg := g.pg + (kpg s l.length : Int) }) := by
 obtain ⟨n, hn⟩ : ∃ n, n = l.length := ⟨_, rfl⟩
 have hsz := hG.size h
 have hlt := fun k hk => hG.lt h k hk
 obtain ⟨okx, hX⟩ := hG.ref h
 obtain ⟨vx, hxb, _⟩ := hX.blk
 obtain ⟨W0, hW0⟩ : ∃ W0, W0 = w.alloc (.cells #[.int .i64 0, .int .i64 0] TA) := ⟨_, rfl⟩
 have wb0 : Below w.heap.size w W0 := by rw [hW0]; exact below_alloc (Below.refl _ _) _
 have wz0 : W0.heap.size = w.heap.size + 1 := by rw [hW0]; exact size_alloc _ _
 have hxb0 := (wb0.block _ (blt hxb)).trans hxb
 have u0 : W0.cell? ⟨x, 0, none⟩ = some (.int .i64 s.1) := bcell hxb0 0
 have u1 : W0.cell? ⟨x, 1, none⟩ = some (.int .i64 s.2.1) := bcell hxb0 1
 have u2 : W0.cell? ⟨x, 2, none⟩ = some (.int .i64 s.2.2) := bcell hxb0 2
 have k0 := (hl.below wb0).c0
 obtain ⟨W, hW⟩ : ∃ W, W = W0.alloc (.cells #[.int .i64 s.1, .int .i64 s.2.1, .int .i64 s.2.2] TSh) := ⟨_, rfl⟩
 obtain ⟨q8, q10⟩ := pair_blk w (.cells #[.int .i64 0, .int .i64 0] TA) (.cells #[.int .i64 s.1, .int .i64 s.2.1, .int .i64 s.2.2] TSh)
 rw [← hW0, ← hW] at q8 q10
 have y2 : W.cell? ⟨w.heap.size + 1, 2, none⟩ = some (.int .i64 s.2.2) := bcell q10 2
 have wb : Below w.heap.size w W := by rw [hW]; exact below_alloc wb0 _
 have wsz : W.heap.size = w.heap.size + 2 := by rw [hW, size_alloc, wz0]
 have hf1 := hG.keep h wb
 have hl1 := hl.below wb
 rw [← hn] at hc hm
 obtain ⟨kk, hkp⟩ : ∃ kk, kk = kpg s n := ⟨_, rfl⟩
 have hkb : kk ≤ 257 := by rw [hkp]; exact (kpg_bd hsh hm).2
 have hpg : ∀ X : World, Calls Tryz.prog 95 #[.int .i64 (n : Int), .int .i64 s.2.2] X fun e w' => e = .returned (.int .i64 (kk : Int)) ∧ Below X.heap.size X w' := fun X => by
  rw [hkp]
  exact RPages_ok n s hsh hm X
 have s10 := hsh.b0
 have s11 := hsh.b1
 have HPG := Lib.hid hpg
 have HG1 := Aside0.mk hf1
 have HL1 := Aside0.mk hl1
 have HW := Lib.hid hW
 have HW0 := Lib.hid hW0
 have Q8 := Lib.hid q8
 have Q10 := Lib.hid q10
 have WB := Aside0.mk wb
 have HN := Lib.hid hn
 have HKP := Lib.hid hkp
 have HLT := Lib.hid hlt
 have e_n : decide ((n : Int) > 4096) = false := decide_eq_false (by omega)
 have kw1 : IntKind.i64.wrap ((kk : Int) + 1) = (kk : Int) + 1 := IntWalk.i64_in _ (by omega)
 rw [← hn]
 clear h hl hn hlt hf1 hl1 hX hxb hxb0 wb0 hW hW0 q8 q10 wb hkp hpg
 rw [← HN.out, ← HKP.out] at hb1
 have e_b : decide ((kk : Int) + 1 > s.2.1) = false := decide_eq_false (by omega)
 have e_k : (kind == 1) = false := by simpa using hk
 clear hk
 rw [← HN.out, ← HKP.out] at hb2
 have e_o : decide (g.op < 0) = false := decide_eq_false (by omega)
 have kw2 : IntKind.i64.wrap (g.pg + (kk : Int)) = g.pg + (kk : Int) := IntWalk.i64_in _ (by omega)
 have e_p : decide (g.pg + (kk : Int) > s.2.1) = false := decide_eq_false (by omega)
 have HCX := Lib.hid hCx
 have HSH := Lib.hid hsh
 clear hCx
 go_enter Tryz.func54, Tryz.ntmps54
 go_wp2_with (first
  | (rw [← HW0.out])
  | (rw [← HW.out])
  | (go_at_call 95; (with_reducible refine (HPG.out _).mono ?_); rintro e w4 ⟨rfl, hb4⟩; have HB4 := Aside0.mk hb4; have x8 := (hb4.block _ (blt Q8.out)).trans Q8.out; have x10 := (hb4.block _ (blt Q10.out)).trans Q10.out; have hl4 := HL1.out.below hb4; have k04 := hl4.c0; have k14 := hl4.c1; have k24 := hl4.c2; have k34 := hl4.c3; have m0 : w4.cell? ⟨w.heap.size, 0, none⟩ = some (.int .i64 0) := bcell x8 0; have m1 : w4.cell? ⟨w.heap.size, 1, none⟩ = some (.int .i64 0) := bcell x8 1; have mf : ∀ j, w4.frozen? ⟨w.heap.size, j, none⟩ = false := (fun j => bfrozen x8 j); have y1 : w4.cell? ⟨w.heap.size + 1, 1, none⟩ = some (.int .i64 s.2.1) := bcell x10 1; have X84 := Lib.hid x8; have X104 := Lib.hid x10; have HL4 := Aside0.mk hl4; have HG4 := Aside0.mk (hG.below HG1.out hb4); clear hb4 x8 x10 hl4)
  | fail)
 have e_u : decide ((n : Int) > 4096) = false := e_n
 refine wp_region_held_drew (S := (fun w' => w'.cell? ⟨r, 2, none⟩ = some (.int .i64 g.op) ∧ w'.cell? ⟨r, 3, none⟩ = some (.int .i64 g.pg) ∧ w'.cell? ⟨w.heap.size + 1, 1, none⟩ = some (.int .i64 s.2.1))) (by kernel_rfl) ?_ (fun hHeld => ?_)
 ·first | go_keep | exact ⟨k24, k34, y1⟩
 first | refine tkY 0 ?_ | refine tkN 0 ?_
 try simp only [Act.put, tk1, tk2, tk3]
 first | refine tkY 1 ?_ | refine tkN 1 ?_
 try simp only [Act.put, tk1, tk2, tk3]
 first | refine tkY 2 ?_ | refine tkN 2 ?_
 try simp only [Act.put, tk1, tk2, tk3]
 first | refine tkY 3 ?_ | refine tkN 3 ?_
 try simp only [Act.put, tk1, tk2, tk3]
 first | refine tkY 4 ?_ | refine tkN 4 ?_
 try simp only [Act.put, tk1, tk2, tk3]
 first | refine tkY 5 ?_ | refine tkN 5 ?_
 try simp only [Act.put, tk1, tk2, tk3]
 first | refine tkY 6 ?_ | refine tkN 6 ?_
 try simp only [Act.put, tk1, tk2, tk3]
 first | refine tkY 7 ?_ | refine tkN 7 ?_
 try simp only [Act.put, tk1, tk2, tk3]
 first | refine tkY 8 ?_ | refine tkN 8 ?_
 try simp only [Act.put, tk1, tk2, tk3]
 first | refine tkY 9 ?_ | refine tkN 9 ?_
 try simp only [Act.put, tk1, tk2, tk3]
 first | refine tkY 10 ?_ | refine tkN 10 ?_
 try simp only [Act.put, tk1, tk2, tk3]
 first | refine tkY 11 ?_ | refine tkN 11 ?_
 try simp only [Act.put, tk1, tk2, tk3]
 first | refine tkY 12 ?_ | refine tkN 12 ?_
 try simp only [Act.put, tk1, tk2, tk3]
 first | refine tkY 13 ?_ | refine tkN 13 ?_
 try simp only [Act.put, tk1, tk2, tk3]
 first | refine tkY 14 ?_ | refine tkN 14 ?_
 try simp only [Act.put, tk1, tk2, tk3]
 first | refine tkY 15 ?_ | refine tkN 15 ?_
 try simp only [Act.put, tk1, tk2, tk3]
 refine wpAnyH_done (by kernel_rfl) ?_ _
 obtain ⟨w5, hw5⟩ : ∃ w5, w5 = w4.drew := ⟨_, rfl⟩
 rw [← hw5]
 have b5 : Below w4.heap.size w4 w5 := by rw [hw5]; exact (Below.refl _ _).drew
 have HB5 := Aside0.mk (HB4.out.trans (b5.mono HB4.out.size))
 have hl5 := HL4.out.below b5
 have k05 := hl5.c0
 have k15 := hl5.c1
 have k25 := hl5.c2
 have k35 := hl5.c3
 have k45 := hl5.c4
 have x85 := (b5.block _ (blt X84.out)).trans X84.out
 have HG5 := Aside0.mk (hG.below HG4.out b5)
 have HL5 := Aside0.mk hl5
 have X85 := Lib.hid x85
 clear hw5 b5 hl5 x85
 go_wp2_with fail
 have y2_ := HL5.out.c2
 have y3_ := HL5.out.c3
 refine wp_region_held_drew (S := (fun w' => w'.cell? ⟨r, 2, none⟩ = some (.int .i64 g.op) ∧ w'.cell? ⟨r, 3, none⟩ = some (.int .i64 g.pg))) (by kernel_rfl) ?_ (fun hHeld => ?_)
 ·first | go_keep | exact ⟨y2_, y3_⟩
 first | refine tkY 0 ?_ | refine tkN 0 ?_
 try simp only [Act.put, tk1, tk2, tk3]
 first | refine tkY 1 ?_ | refine tkN 1 ?_
 try simp only [Act.put, tk1, tk2, tk3]
 first | refine tkY 2 ?_ | refine tkN 2 ?_
 try simp only [Act.put, tk1, tk2, tk3]
 first | refine tkY 3 ?_ | refine tkN 3 ?_
 try simp only [Act.put, tk1, tk2, tk3]
 first | refine tkY 4 ?_ | refine tkN 4 ?_
 try simp only [Act.put, tk1, tk2, tk3]
 first | refine tkY 5 ?_ | refine tkN 5 ?_
 try simp only [Act.put, tk1, tk2, tk3]
 first | refine tkY 6 ?_ | refine tkN 6 ?_
 try simp only [Act.put, tk1, tk2, tk3]
 first | refine tkY 7 ?_ | refine tkN 7 ?_
 try simp only [Act.put, tk1, tk2, tk3]
 first | refine tkY 8 ?_ | refine tkN 8 ?_
 try simp only [Act.put, tk1, tk2, tk3]
 refine wpAnyH_ready (rs := [9]) (by kernel_rfl) (by simp) ?_
 refine AllReadyH.cons (by (simp only [List.getElem?_toArray, List.getElem?_cons_succ, List.getElem?_cons_zero]; rfl)) (fun K hK => ?_) AllReadyH.nil
 go_simp
 (try dsimp only)
 refine hK.out _ _ ?_ (fun hHeld => ?_)
 ·first | go_keep | exact ⟨y2_, y3_⟩
 clear hK K
 try simp only [Act.put, tk1, tk2, tk3]
 refine wpAnyH_ready (rs := [10]) (by kernel_rfl) (by simp) ?_
 refine AllReadyH.cons (by (simp only [List.getElem?_toArray, List.getElem?_cons_succ, List.getElem?_cons_zero]; rfl)) (fun K hK => ?_) AllReadyH.nil
 go_simp
 (try dsimp only)
 refine hK.out _ _ ?_ (fun hHeld => ?_)
 ·first | go_keep | exact ⟨y2_, y3_⟩
 clear hK K
 try simp only [Act.put, tk1, tk2, tk3]
 refine wpAnyH_done (by kernel_rfl) ?_ _
 obtain ⟨Y, hY⟩ : ∃ Y, Y = (w5.alloc (.cells #[.int .i64 g.op, .int .i64 g.pg] TA)).drew := ⟨_, rfl⟩
 rw [← hY]
 have qY : Y.heap[w5.heap.size]? = some (.cells #[.int .i64 g.op, .int .i64 g.pg] TA (0, 0)) := by rw [hY]; exact blk_new _ _
 have bY : Below w5.heap.size w5 Y := by rw [hY]; exact (below_alloc (Below.refl _ _) _).drew
 have bYd : Below w5.heap.size w5 Y.drew := bY.drew
 have sY : Y.heap.size = w5.heap.size + 1 := by rw [hY]; exact size_alloc _ _
 have fY := hG.keep HG5.out bYd
 have lY := HL5.out.below bY
 have zY0 := lY.c0
 have zY2 := lY.c2
 have zY3 := lY.c3
 have zY4 := lY.c4
 have belX : Below N0 w w5 := ((WB.out.trans ((HB5.out).mono (by omega))).mono hsz)
 have kepX : Kept (fun k => K k ∧ k ≠ r ∧ k ≠ t) w w5 := (fun k hk => (((HB5.out).mono (by omega)).block k (HLT.out k hk.1)).trans (WB.out.block k (HLT.out k hk.1)))
 have bNY : Below N0 w Y.drew := belX.trans (bYd.mono (by have := belX.size; omega))
 have happ := RAppend_G (kind := kind) (seq := (g.nx - 1)) (l := l) (c := c) hG fY HSH.out g.op g.pg hkk hsq hBl (HCX.out _ bNY) (by rw [← HN.out]; exact hc) (by rw [← HN.out]; omega) hdd
 rw [← HN.out] at happ
 have HAPP := Lib.hid happ
 have LY := Aside0.mk lY
 have QY := Lib.hid qY
 have BY := Aside0.mk bY
 have HY := Lib.hid hY
 have hwx : IntKind.u64.wrap (g.nx - 1) = g.nx - 1 := IntWalk.u64_in _ (by omega)
 have hwk : IntKind.i64.wrap (g.pg + (kk : Int)) = g.pg + (kk : Int) := IntWalk.i64_in _ (by omega)
 have BX := Aside0.mk belX
 have KX := Lib.hid kepX
 have nq1 : ¬ w5.heap.size = r := by have := blt HL5.out.blk; omega
 have nq2 : ¬ r = w5.heap.size := fun e => nq1 e.symm
 have nq3 : ¬ w.heap.size = r := by have := HLT.out r hr; omega
 have nq4 : ¬ r = w.heap.size := fun e => nq3 e.symm
 have nq5 : ¬ w5.heap.size = w.heap.size := by have := blt X85.out; omega
 have nq6 : ¬ w.heap.size = w5.heap.size := fun e => nq5 e.symm
 clear qY bY bYd fY lY belX kepX bNY happ hY y2_ y3_ hHeld
 go_wp2_with fail
 refine wp_region_held_drew (S := (fun w' => w'.cell? ⟨r, 0, none⟩ = some (.pointer (some ⟨x, 0, none⟩)) ∧ w'.cell? ⟨r, 2, none⟩ = some (.int .i64 g.op) ∧ w'.cell? ⟨r, 3, none⟩ = some (.int .i64 g.pg) ∧ w'.cell? ⟨r, 4, none⟩ = some (.int .u64 g.nx))) (by kernel_rfl) ?_ (fun hHeld => ?_)
 ·first | exact ⟨zY0, zY2, zY3, zY4⟩ | exact ⟨s0, s2, s3, s4⟩
 first | refine tkY 0 ?_ | refine tkN 0 ?_
 try simp only [Act.put, tk1, tk2, tk3]
 first | refine tkY 1 ?_ | refine tkN 1 ?_
 try simp only [Act.put, tk1, tk2, tk3]
 first | refine tkY 2 ?_ | refine tkN 2 ?_
 try simp only [Act.put, tk1, tk2, tk3]
 first | refine tkY 3 ?_ | refine tkN 3 ?_
 try simp only [Act.put, tk1, tk2, tk3]
 first | refine tkY 4 ?_ | refine tkN 4 ?_
 try simp only [Act.put, tk1, tk2, tk3]
 first | refine tkY 5 ?_ | refine tkN 5 ?_
 try simp only [Act.put, tk1, tk2, tk3]
 first | refine tkY 6 ?_ | refine tkN 6 ?_
 try simp only [Act.put, tk1, tk2, tk3]
 first | refine tkY 7 ?_ | refine tkN 7 ?_
 try simp only [Act.put, tk1, tk2, tk3]
 first | refine tkY 8 ?_ | refine tkN 8 ?_
 try simp only [Act.put, tk1, tk2, tk3]
 first | refine tkY 9 ?_ | refine tkN 9 ?_
 try simp only [Act.put, tk1, tk2, tk3]
 first | refine tkY 10 ?_ | refine tkN 10 ?_
 try simp only [Act.put, tk1, tk2, tk3]
 first | refine tkY 11 ?_ | refine tkN 11 ?_
 try simp only [Act.put, tk1, tk2, tk3]
 first | refine tkY 12 ?_ | refine tkN 12 ?_
 try simp only [Act.put, tk1, tk2, tk3]
 first | refine tkY 13 ?_ | refine tkN 13 ?_
 try simp only [Act.put, tk1, tk2, tk3]
 first | refine tkY 14 ?_ | refine tkN 14 ?_
 try simp only [Act.put, tk1, tk2, tk3]
 first | refine tkY 15 ?_ | refine tkN 15 ?_
 try simp only [Act.put, tk1, tk2, tk3]
 first | refine tkY 16 ?_ | refine tkN 16 ?_
 try simp only [Act.put, tk1, tk2, tk3]
 first | refine tkY 17 ?_ | refine tkN 17 ?_
 try simp only [Act.put, tk1, tk2, tk3]
 first | refine tkY 18 ?_ | refine tkN 18 ?_
 try simp only [Act.put, tk1, tk2, tk3]
 refine wpAnyH_ready (rs := [19]) (by kernel_rfl) (by simp) ?_
 refine AllReadyH.cons (by (simp only [List.getElem?_toArray, List.getElem?_cons_succ, List.getElem?_cons_zero]; rfl)) (fun K hK => ?_) AllReadyH.nil
 go_simp
 (go_at_call 96; (with_reducible refine HAPP.out.mono ?_); rintro e w10 ⟨rfl, hf10, hb10, hk10⟩; have hl10 : RLog r t x cap rest g w10 := LY.out.step (hk10 r (.inl (.inl hr))) (hk10 t (.inl (.inl ht))); have s0 := hl10.c0; have s2 := hl10.c2; have s3 := hl10.c3; have s4 := hl10.c4; have fr3 := hl10.fr 3; have x8 := (hk10 w.heap.size (.inl (.inr ⟨Nat.le_refl _, by omega⟩))).trans ((BY.out.block _ (blt X85.out)).trans X85.out); have x12 := (hk10 w5.heap.size (.inr ⟨Nat.le_refl _, by show _ < Y.heap.size; omega⟩)).trans QY.out; have m0 : w10.cell? ⟨w.heap.size, 0, none⟩ = some (.int .i64 0) := bcell x8 0; have m1 : w10.cell? ⟨w.heap.size, 1, none⟩ = some (.int .i64 0) := bcell x8 1; have mf : ∀ j, w10.frozen? ⟨w.heap.size, j, none⟩ = false := (fun j => bfrozen x8 j); have t0 : w10.cell? ⟨w5.heap.size, 0, none⟩ = some (.int .i64 g.op) := bcell x12 0; have t1 : w10.cell? ⟨w5.heap.size, 1, none⟩ = some (.int .i64 g.pg) := bcell x12 1; have HL10 := Aside0.mk hl10; have X810 := Lib.hid x8; have HG10 := Aside0.mk hf10; have HB10 := Aside0.mk (BX.out.trans ((show Below N0 w5 Y.drew from (BY.out.drew).mono (by have := BX.out.size; omega)).trans hb10)); have HKR := Lib.hid hk10; clear hl10 hf10 hb10 hk10 x8 x12)
 (try dsimp only)
 refine hK.out _ _ ?_ (fun hHeld => ?_)
 ·first | exact ⟨zY0, zY2, zY3, zY4⟩ | exact ⟨s0, s2, s3, s4⟩
 clear hK K
 try simp only [Act.put, tk1, tk2, tk3]
 refine wpAnyH_done (by kernel_rfl) ?_ _
 go_wp2_with fail
 have HK10 := Lib.hid (show Kept (fun k => K k ∧ k ≠ r ∧ k ≠ t) w w10 from fun k hk => (HKR.out k (.inl (.inl hk.1))).trans ((BY.out.block k (by have := HLT.out k hk.1; have := BX.out.size; omega)).trans (KX.out k hk)))
 have hl11 := HL10.out.setPg (g.pg + (kk : Int))
 have hu11 := Upd.setCell w10 (p := ⟨r, 3, none⟩) (S := fun k => k = r) rfl (.int .i64 (g.pg + (kk : Int)))
 have hf11 := hSt _ _ w10 _ r _ _ _ HG10.out (.inl (.inl hr)) HL10.out.blk hl11.blk (by decide) hu11
 have s10' := hG.size HG10.out
 have hb11 := HB10.out.trans (hu11.below s10' (fun k hk => by rw [hk]; exact hNr))
 have x811 := (hu11.block w.heap.size (blt X810.out) (fun e => nq3 e)).trans X810.out
 have hk11 : Kept (fun k => K k ∧ k ≠ r ∧ k ≠ t) w (w10.setCell ⟨r, 3, none⟩ (.int .i64 (g.pg + (kk : Int)))) := fun k hk => (hu11.block k (hG.lt HG10.out k (.inl (.inl hk.1))) hk.2.1).trans (HK10.out k hk)
 obtain ⟨w9, hw9⟩ : ∃ w9, w9 = ((w10.setCell ⟨r, 3, none⟩ (.int .i64 (g.pg + (kk : Int)))).setCell ⟨w.heap.size, 0, none⟩ (.int .i64 g.op)).setCell ⟨w.heap.size, 1, none⟩ (.int .i64 g.pg) := ⟨_, rfl⟩
 rw [← hw9]
 obtain ⟨r8, hf9, hl9, hb9, hk9⟩ := rput_end hG hSt hf11 hl11 hr ht HLT.out hsz (Nat.le_refl _) x811 (.inl (.inr ⟨Nat.le_refl _, by omega⟩)) (fun k hk => .inl (.inl hk)) hb11 hk11 hw9
 have r0 := bcell r8 0
 have r1 := bcell r8 1
 exact bodyPost_ret (v := .tuple #[.agg #[.int .i64 g.op, .int .i64 g.pg], .int .i64 0]) (by simp [results, Tryz.results54, go_sem, r0, r1]) rfl ⟨rfl, hf9, by rw [← HKP.out]; exact hl9, hb9, hk9⟩
end
end Go.Proofs.YtmbiebdcnadhkaaGreat.Fl
namespace Go.Proofs.YtmbiebdcnadhkaaGreat.Fl
open Go.RowKit Go.Proofs.YtmbiebdcnadhkaaGreatW.PrintWords Go.Proofs.YtmbiebdcnadhkaaGreatW.PrintMore Go.Maps
section
variable {N0 x r t cap : Nat} {rest : List Value} {s : Int × Int × Int} {G : (Nat → Prop) → List Pg → World → Prop} {K : Nat → Prop} {ps : List Pg} {g : LG} {w : World} {A : Option Addr} {c : Nat} {l : List Int} {kind need : Int}
theorem RSeal_G (hG : RefFrame N0 x s G) (hSt : ∀ ps, Stays (fun K w => G K ps w)) (h : G K ps w) (hl : RLog r t x cap rest g w) (hr : K r) (ht : K t) (hNr : N0 ≤ r) (hNt : N0 ≤ t) (ho : g.op < g.st.length) : Calls Tryz.prog 56 #[.pointer (some ⟨r, 0, none⟩)] w fun e w' => e = .returned (.tuple #[]) ∧ G K ps w' ∧ RLog r t x cap rest (rsealG g) w' ∧ Below N0 w w' ∧ Kept (fun k => K k ∧ k ≠ r ∧ k ≠ t) w w' :=
 (RSeal_any hl ho).mono fun e w' ⟨h1, h2, w1, g1, h3, h4, h5⟩ => by
  have f1 := hSt ps K w w1 t _ _ _ h ht hl.row h3.row (by decide) h4
  have f2 := hSt ps K w1 w' r _ _ _ f1 hr h3.blk h2.blk (by decide) h5
  exact ⟨h1, f2, h2, (h4.below (hG.size h) (fun k hk => by rw [hk]; exact hNt)).trans (h5.below (hG.size f1) (fun k hk => by rw [hk]; exact hNr)), fun k hk => (h5.block k (hG.lt f1 k hk.1) hk.2.1).trans (h4.block k (hG.lt h k hk.1) hk.2.2)⟩
theorem rseal_len (g : LG) : (rsealG g).st.length = g.st.length := by
 unfold rsealG
 split <;> simp
set_option maxHeartbeats 4000000 in
set_option maxRecDepth 100000 in
theorem RPut_turn0 (hG : RefFrame N0 x s G) (hSt : ∀ ps, Stays (fun K w => G K ps w)) (h : G K ps w) (hl : RLog r t x cap rest g w) (hr : K r) (ht : K t) (hNr : N0 ≤ r) (hNt : N0 ≤ t) (hsh : ShapeOk s) (hc : l.length ≤ c) (hm : l.length ≤ 4096) (hk : kind ≠ 1) (hb1 : (kpg s l.length : Int) + 1 ≤ s.2.1) (ho : g.op < 0) (hsl : g.st.length < 1000) (hol : g.op < (g.st.length : Int)) (hcn : ¬ (cnt 0 g.st : Int) < need) (hkk : KindOk kind) (hBl : Byt l) (hCx : ∀ X, Below N0 w X → kB.C X A l.length l) (hd0 : ps.length < 900000) {m : Nat} (hdd : (appP s ps (m : Int) 0 0 (rec 1 g.nx [])).length < 900000) (hm0 : (rsealG g).st[m]? = some 0) (hmf : ∀ i, i < m → (rsealG g).st[i]? ≠ some 0) (hsq : SeqOk g.nx) (hn1 : 0 ≤ g.nx) (hn2 : g.nx < 1000000) : Calls Tryz.prog 54 #[.pointer (some ⟨r, 0, none⟩), .int .u8 kind, .slice A l.length c, .int .i64 need] w (RPutPost N0 r t x cap rest G K w ((m : Int), 1) 0 (appP s (appP s ps (m : Int) 0 0 (rec 1 g.nx [])) (m : Int) 1 l.length (rec kind g.nx l)) { st := (rsealG g).st.set m 1, op := (m : Int), pg := 1 + (kpg s l.length : Int), nx := g.nx + 1 }) := by
 obtain ⟨n, hn⟩ : ∃ n, n = l.length := ⟨_, rfl⟩
 have hsz := hG.size h
 have hlt := fun k hk => hG.lt h k hk
 obtain ⟨okx, hX⟩ := hG.ref h
 obtain ⟨vx, hxb, _⟩ := hX.blk
 obtain ⟨W0, hW0⟩ : ∃ W0, W0 = w.alloc (.cells #[.int .i64 0, .int .i64 0] TA) := ⟨_, rfl⟩
 have wb0 : Below w.heap.size w W0 := by rw [hW0]; exact below_alloc (Below.refl _ _) _
 have wz0 : W0.heap.size = w.heap.size + 1 := by rw [hW0]; exact size_alloc _ _
 have hxb0 := (wb0.block _ (blt hxb)).trans hxb
 have u0 : W0.cell? ⟨x, 0, none⟩ = some (.int .i64 s.1) := bcell hxb0 0
 have u1 : W0.cell? ⟨x, 1, none⟩ = some (.int .i64 s.2.1) := bcell hxb0 1
 have u2 : W0.cell? ⟨x, 2, none⟩ = some (.int .i64 s.2.2) := bcell hxb0 2
 have k0 := (hl.below wb0).c0
 obtain ⟨W, hW⟩ : ∃ W, W = W0.alloc (.cells #[.int .i64 s.1, .int .i64 s.2.1, .int .i64 s.2.2] TSh) := ⟨_, rfl⟩
 obtain ⟨q8, q10⟩ := pair_blk w (.cells #[.int .i64 0, .int .i64 0] TA) (.cells #[.int .i64 s.1, .int .i64 s.2.1, .int .i64 s.2.2] TSh)
 rw [← hW0, ← hW] at q8 q10
 have y2 : W.cell? ⟨w.heap.size + 1, 2, none⟩ = some (.int .i64 s.2.2) := bcell q10 2
 have wb : Below w.heap.size w W := by rw [hW]; exact below_alloc wb0 _
 have wsz : W.heap.size = w.heap.size + 2 := by rw [hW, size_alloc, wz0]
 have hf1 := hG.keep h wb
 have hl1 := hl.below wb
 rw [← hn] at hc hm
 obtain ⟨kk, hkp⟩ : ∃ kk, kk = kpg s n := ⟨_, rfl⟩
 have hkb : kk ≤ 257 := by rw [hkp]; exact (kpg_bd hsh hm).2
 have hpg : ∀ X : World, Calls Tryz.prog 95 #[.int .i64 (n : Int), .int .i64 s.2.2] X fun e w' => e = .returned (.int .i64 (kk : Int)) ∧ Below X.heap.size X w' := fun X => by
  rw [hkp]
  exact RPages_ok n s hsh hm X
 have s10 := hsh.b0
 have s11 := hsh.b1
 have HPG := Lib.hid hpg
 have HG1 := Aside0.mk hf1
 have HL1 := Aside0.mk hl1
 have HW := Lib.hid hW
 have HW0 := Lib.hid hW0
 have Q8 := Lib.hid q8
 have Q10 := Lib.hid q10
 have WB := Aside0.mk wb
 have HN := Lib.hid hn
 have HKP := Lib.hid hkp
 have HLT := Lib.hid hlt
 have e_n : decide ((n : Int) > 4096) = false := decide_eq_false (by omega)
 have kw1 : IntKind.i64.wrap ((kk : Int) + 1) = (kk : Int) + 1 := IntWalk.i64_in _ (by omega)
 rw [← hn]
 clear h hl hn hlt hf1 hl1 hX hxb hxb0 wb0 hW hW0 q8 q10 wb hkp hpg
 rw [← HN.out, ← HKP.out] at hb1
 have e_b : decide ((kk : Int) + 1 > s.2.1) = false := decide_eq_false (by omega)
 have e_k : (kind == 1) = false := by simpa using hk
 clear hk
 have e_o : decide (g.op < 0) = true := decide_eq_true ho
 have HOL := Lib.hid hol
 have HM0 := Lib.hid hm0
 have HMF := Lib.hid hmf
 obtain ⟨nl, hnl⟩ : ∃ nl, nl = g.st.length := ⟨_, rfl⟩
 have hnl2 : nl < 1000 := by omega
 have HNL := Lib.hid hnl
 have BBW := Aside0.mk WB.out
 clear hol hm0 hmf hnl
 obtain ⟨c0, hc0⟩ : ∃ c0, c0 = cnt 0 g.st := ⟨_, rfl⟩
 rw [← hc0] at hcn
 have HC0 := Lib.hid hc0
 have HSL := Lib.hid hsl
 clear hc0 hsl
 have e_c : decide ((c0 : Int) < need) = false := decide_eq_false hcn
 have HCX := Lib.hid hCx
 have HSH := Lib.hid hsh
 clear hCx
 go_enter Tryz.func54, Tryz.ntmps54
 go_wp2_with (first
  | (rw [← HW0.out])
  | (rw [← HW.out])
  | (go_at_call 95; (with_reducible refine (HPG.out _).mono ?_); rintro e w4 ⟨rfl, hb4⟩; have HB4 := Aside0.mk hb4; have x8 := (hb4.block _ (blt Q8.out)).trans Q8.out; have x10 := (hb4.block _ (blt Q10.out)).trans Q10.out; have hl4 := HL1.out.below hb4; have k04 := hl4.c0; have k14 := hl4.c1; have k24 := hl4.c2; have k34 := hl4.c3; have m0 : w4.cell? ⟨w.heap.size, 0, none⟩ = some (.int .i64 0) := bcell x8 0; have m1 : w4.cell? ⟨w.heap.size, 1, none⟩ = some (.int .i64 0) := bcell x8 1; have mf : ∀ j, w4.frozen? ⟨w.heap.size, j, none⟩ = false := (fun j => bfrozen x8 j); have y1 : w4.cell? ⟨w.heap.size + 1, 1, none⟩ = some (.int .i64 s.2.1) := bcell x10 1; have X84 := Lib.hid x8; have X104 := Lib.hid x10; have HL4 := Aside0.mk hl4; have HG4 := Aside0.mk (hG.below HG1.out hb4); clear hb4 x8 x10 hl4)
  | fail)
 have e_u : decide ((n : Int) > 4096) = false := e_n
 refine wp_region_held_drew (S := (fun w' => w'.cell? ⟨r, 2, none⟩ = some (.int .i64 g.op) ∧ w'.cell? ⟨r, 3, none⟩ = some (.int .i64 g.pg) ∧ w'.cell? ⟨w.heap.size + 1, 1, none⟩ = some (.int .i64 s.2.1))) (by kernel_rfl) ?_ (fun hHeld => ?_)
 ·first | go_keep | exact ⟨k24, k34, y1⟩
 first | refine tkY 0 ?_ | refine tkN 0 ?_
 try simp only [Act.put, tk1, tk2, tk3]
 first | refine tkY 1 ?_ | refine tkN 1 ?_
 try simp only [Act.put, tk1, tk2, tk3]
 first | refine tkY 2 ?_ | refine tkN 2 ?_
 try simp only [Act.put, tk1, tk2, tk3]
 first | refine tkY 3 ?_ | refine tkN 3 ?_
 try simp only [Act.put, tk1, tk2, tk3]
 first | refine tkY 4 ?_ | refine tkN 4 ?_
 try simp only [Act.put, tk1, tk2, tk3]
 first | refine tkY 5 ?_ | refine tkN 5 ?_
 try simp only [Act.put, tk1, tk2, tk3]
 first | refine tkY 6 ?_ | refine tkN 6 ?_
 try simp only [Act.put, tk1, tk2, tk3]
 first | refine tkY 7 ?_ | refine tkN 7 ?_
 try simp only [Act.put, tk1, tk2, tk3]
 first | refine tkY 8 ?_ | refine tkN 8 ?_
 try simp only [Act.put, tk1, tk2, tk3]
 first | refine tkY 9 ?_ | refine tkN 9 ?_
 try simp only [Act.put, tk1, tk2, tk3]
 first | refine tkY 10 ?_ | refine tkN 10 ?_
 try simp only [Act.put, tk1, tk2, tk3]
 first | refine tkY 11 ?_ | refine tkN 11 ?_
 try simp only [Act.put, tk1, tk2, tk3]
 first | refine tkY 12 ?_ | refine tkN 12 ?_
 try simp only [Act.put, tk1, tk2, tk3]
 first | refine tkY 13 ?_ | refine tkN 13 ?_
 try simp only [Act.put, tk1, tk2, tk3]
 first | refine tkY 14 ?_ | refine tkN 14 ?_
 try simp only [Act.put, tk1, tk2, tk3]
 first | refine tkY 15 ?_ | refine tkN 15 ?_
 try simp only [Act.put, tk1, tk2, tk3]
 refine wpAnyH_done (by kernel_rfl) ?_ _
 obtain ⟨w5, hw5⟩ : ∃ w5, w5 = w4.drew := ⟨_, rfl⟩
 rw [← hw5]
 have b5 : Below w4.heap.size w4 w5 := by rw [hw5]; exact (Below.refl _ _).drew
 have HB5 := Aside0.mk (HB4.out.trans (b5.mono HB4.out.size))
 have hl5 := HL4.out.below b5
 have k05 := hl5.c0
 have k15 := hl5.c1
 have k25 := hl5.c2
 have k35 := hl5.c3
 have k45 := hl5.c4
 have x85 := (b5.block _ (blt X84.out)).trans X84.out
 have HG5 := Aside0.mk (hG.below HG4.out b5)
 have HL5 := Aside0.mk hl5
 have X85 := Lib.hid x85
 clear hw5 b5 hl5 x85
 go_wp2_with (first
  | (rw [← HW0.out])
  | (rw [← HW.out])
  | (go_at_call 38; (have hcc := RCount_any HL5.out HSL.out 0); (rw [← HC0.out] at hcc); (with_reducible refine hcc.mono ?_); clear hcc; rintro e w7 ⟨rfl, hb7⟩; have HB7 := Aside0.mk (HB5.out.trans (hb7.mono HB5.out.size)); have x8 := (hb7.block _ (blt X85.out)).trans X85.out; have X87 := Lib.hid x8; have n0 : w7.cell? ⟨w.heap.size, 0, none⟩ = some (.int .i64 0) := bcell x8 0; have n1 : w7.cell? ⟨w.heap.size, 1, none⟩ = some (.int .i64 0) := bcell x8 1; have nf : ∀ j, w7.frozen? ⟨w.heap.size, j, none⟩ = false := (fun j => bfrozen x8 j); have HL7 := Aside0.mk (HL5.out.below hb7); have HG7 := Aside0.mk (hG.below HG5.out hb7); clear hb7 x8)
  | (go_at_call 56; (have hse := RSeal_G hG hSt HG7.out HL7.out (.inl hr) (.inl ht) hNr hNt HOL.out); (with_reducible refine hse.mono ?_); clear hse; rintro e w8 ⟨rfl, hf8, hl8, hb8, hk8⟩; have bel8 : Below N0 w w8 := (((WB.out.trans ((HB7.out).mono (by omega))).mono hsz)).trans hb8; have kep8 : Kept (fun k => K k ∧ k ≠ r ∧ k ≠ t) w w8 := (fun k hk => (hk8 k ⟨.inl hk.1, hk.2⟩).trans ((show Kept (fun k => K k ∧ k ≠ r ∧ k ≠ t) w w7 from fun k hk => ((BBW.out.trans (HB7.out.mono BBW.out.size)).block k (HLT.out k hk.1))) k hk)); have x8 := (hk8 w.heap.size ⟨.inr ⟨Nat.le_refl _, by omega⟩, (by have := HLT.out r hr; omega), (by have := HLT.out t ht; omega)⟩).trans X87.out; (obtain ⟨g8, hg8⟩ : ∃ g8, g8 = rsealG g := ⟨_, rfl⟩); (rw [← hg8] at hl8); (have hgl : g8.st.length = nl := (by rw [hg8, rseal_len]; exact HNL.out.symm)); (have hgo : g8.op = -1 := (by rw [hg8]; rfl)); have k18 := hl8.c1; (rw [hgl] at k18); have X88 := Lib.hid x8; have HG8 := Aside0.mk hf8; have HL8 := Aside0.mk hl8; have BEL8 := Aside0.mk bel8; have KEP8 := Lib.hid kep8; have HG8E := Lib.hid hg8; have HGL := Lib.hid hgl; have HGO := Lib.hid hgo; clear hf8 hl8 hb8 hk8 bel8 kep8 x8 hg8 hgl hgo)
  | fail)
 go_loopw [12, 13, 69] (fun v12 v13 v69 wr => ∃ k : Nat, k ≤ nl ∧ v69 = .int .i64 (k : Int) ∧ RLog r t x cap rest (if k ≤ m then g8 else { g8 with op := (m : Int) }) wr ∧ Upd (fun k => k = r) w8 wr) (fun _ _ v69 _ => nl - (intOf v69).toNat)
 case atStart => exact ⟨0, Nat.zero_le _, rfl, by rw [if_pos (Nat.zero_le _)]; exact HL8.out, Upd.ofBelow (Below.refl _ _) _⟩
 case round =>
  obtain ⟨k, hk, rfl, hlr, hur⟩ := hrel
  have hmg : g8.st[m]? = some 0 := by rw [HG8E.out]; exact HM0.out
  have hml : m < nl := by have := (List.getElem?_eq_some_iff.1 hmg).1; have := HGL.out; omega
  have k0' : (0 : Int) ≤ (k : Int) := by omega
  have e_m : decide ((m : Int) < 0) = false := decide_eq_false (by omega)
  by_cases hlt : k < nl
  ·have k1' : (k : Int) < (nl : Int) := by omega
   obtain ⟨y, hy⟩ : ∃ y, g8.st[k]? = some y := ⟨_, List.getElem?_eq_getElem (by have := HGL.out; omega)⟩
   by_cases hkm : k ≤ m
   ·rw [if_pos hkm] at hlr
    have c5 := hlr.cst hy
    have c2 := hlr.c2
    rw [HGO.out] at c2
    have f2 := hlr.fr 2
    have HLR := Aside0.mk hlr
    have HUR := Aside0.mk hur
    by_cases hkm2 : k = m
    ·have hy0 : y = 0 := by rw [hkm2, hmg] at hy; exact (Option.some.inj hy).symm
     rw [hy0] at c5
     have HKM := Lib.hid hkm2
     clear hlr hur hy hy0 hkm2 hmg
     go_wp2
     exact ⟨⟨k + 1, by omega, by go_num, by rw [if_neg (by have := HKM.out; omega), ← HKM.out]; exact HLR.out.setOp (k : Int), HUR.out.trans (Upd.setCell wr (p := ⟨r, 2, none⟩) (S := fun k => k = r) rfl _) (fun k hk _ => hk)⟩, by simp [intOf]; omega⟩
    ·have hy0 : y ≠ 0 := fun e => by rw [e] at hy; exact HMF.out k (by omega) (by rw [← HG8E.out]; exact hy)
     have e1 : (y == 0) = false := by simpa using hy0
     have HKM := Lib.hid hkm2
     clear hlr hur hy hy0 hkm2 hmg
     go_wp2
     exact ⟨⟨k + 1, by omega, by go_num, by rw [if_pos (by have := HKM.out; omega)]; exact HLR.out, HUR.out⟩, by simp [intOf]; omega⟩
   ·rw [if_neg hkm] at hlr
    have c5 := hlr.cst hy
    have c2 := hlr.c2
    simp only at c2
    have HLR := Aside0.mk hlr
    have HUR := Aside0.mk hur
    by_cases hy0 : y = 0
    ·rw [hy0] at c5
     clear hlr hur hy hy0 hmg
     go_wp2
     exact ⟨⟨k + 1, by omega, by go_num, by rw [if_neg (by omega)]; exact HLR.out, HUR.out⟩, by simp [intOf]; omega⟩
    ·have e1 : (y == 0) = false := by simpa using hy0
     clear hlr hur hy hy0 hmg
     go_wp2
     exact ⟨⟨k + 1, by omega, by go_num, by rw [if_neg (by omega)]; exact HLR.out, HUR.out⟩, by simp [intOf]; omega⟩
  ·obtain rfl : k = nl := by omega
   rw [if_neg (by omega)] at hlr
   have c1 := hlr.c1
   simp only [HGL.out] at c1
   have c2 := hlr.c2
   simp only at c2
   have c5 := hlr.cst (i := m) (y := 0) hmg
   have f5 := hlr.ft m
   have q0 : (0 : Int) ≤ (m : Int) := by omega
   have q1 : (m : Int) < (k : Int) := by omega
   have n1 := hlr.ne
   have n2 : ¬ t = r := fun e => n1 e.symm
   have HMG := Lib.hid hmg
   have HLR := Aside0.mk hlr
   have HUR := Aside0.mk hur
   clear hlr hur hmg
   go_wp2_with fail
   go_region_held3 (fun w' => w'.cell? ⟨r, 1, none⟩ = some (.slice (some ⟨t, 0, none⟩) k cap) ∧ w'.cell? ⟨r, 2, none⟩ = some (.int .i64 (m : Int))) (first | go_keep | exact ⟨c1, c2⟩) (fail)
   obtain ⟨w11, hw11⟩ : ∃ w11, w11 = (wr.setCell ⟨t, m, none⟩ (.int .i64 1)).drew := ⟨_, rfl⟩
   rw [← hw11]
   have hfr := hSt _ _ w8 wr r _ _ _ HG8.out (.inl hr) HL8.out.blk HLR.out.blk (by decide) HUR.out
   have hlz := HLR.out.setSt (i := m) (by show m < g8.st.length; have := HGL.out; omega) 1
   have hlw : RLog r t x cap rest { st := g8.st.set m 1, op := (m : Int), pg := g8.pg, nx := g8.nx } w11 := by rw [hw11]; exact ⟨hlz.blk, hlz.row⟩
   have huw : Upd (fun k => k = t) wr w11 := by
    have := Upd.setCell wr (p := ⟨t, m, none⟩) (S := fun k => k = t) rfl (.int .i64 1)
    rw [hw11]
    exact ⟨this.os, this.tape, this.output, this.size, this.block⟩
   have hfw := hSt _ _ wr w11 t _ _ _ hfr (.inl ht) HLR.out.row hlw.row (by decide) huw
   have zr := hG.size hfr
   have z8 := hG.size HG8.out
   have blw : Below N0 w w11 := BEL8.out.trans ((HUR.out.below z8 (fun k hk => by rw [hk]; exact hNr)).trans (huw.below zr (fun k hk => by rw [hk]; exact hNt)))
   have hgn : g8.nx = g.nx := by rw [HG8E.out]; rfl
   have kpw : Kept (fun k => K k ∧ k ≠ r ∧ k ≠ t) w w11 := fun k hk => (huw.block k (hG.lt hfr k (.inl hk.1)) hk.2.2).trans ((HUR.out.block k (hG.lt HG8.out k (.inl hk.1)) hk.2.1).trans (KEP8.out k hk))
   have x8w := (huw.block w.heap.size (by have := hG.lt hfr w.heap.size (.inr ⟨Nat.le_refl _, by omega⟩); omega) (by have := HLT.out t ht; omega)).trans ((HUR.out.block w.heap.size (blt X88.out) (by have := HLT.out r hr; omega)).trans X88.out)
   have d0 := hlw.c0
   have d2 := hlw.c2
   have d4 := hlw.c4
   simp only at d2 d4
   rw [hgn] at d4
   have hap0 := RAppend_G (kind := 1) (seq := g.nx) (l := []) (c := 0) (A := none) hG (hG.below hfw (Below.refl _ w11).drew) HSH.out (m : Int) 0 one_kind hsq Byt.nil (Kd.C_nil kB _) (Nat.le_refl _) (by simp) hd0
   rw [List.length_nil] at hap0
   have HAP0 := Lib.hid hap0
   have HLW := Aside0.mk hlw
   have BLW := Aside0.mk blw
   have KPW := Lib.hid kpw
   have X8W := Lib.hid x8w
   have HGN := Lib.hid hgn
   clear hw11 hfr hlz hlw huw hfw blw hgn kpw x8w hap0 c1 c2 c5 f5
   go_wp2_with fail
   refine wp_region_held_drew (S := (fun w' => w'.cell? ⟨r, 0, none⟩ = some (.pointer (some ⟨x, 0, none⟩)) ∧ w'.cell? ⟨r, 2, none⟩ = some (.int .i64 (m : Int)) ∧ w'.cell? ⟨r, 4, none⟩ = some (.int .u64 g.nx))) (by kernel_rfl) ?_ (fun hHeld => ?_)
   ·first | exact ⟨d0, d2, d4⟩ | exact ⟨v0, v2, v4⟩
   first | refine tkY 0 ?_ | refine tkN 0 ?_
   try simp only [Act.put, tk1, tk2, tk3]
   first | refine tkY 1 ?_ | refine tkN 1 ?_
   try simp only [Act.put, tk1, tk2, tk3]
   first | refine tkY 2 ?_ | refine tkN 2 ?_
   try simp only [Act.put, tk1, tk2, tk3]
   first | refine tkY 3 ?_ | refine tkN 3 ?_
   try simp only [Act.put, tk1, tk2, tk3]
   first | refine tkY 4 ?_ | refine tkN 4 ?_
   try simp only [Act.put, tk1, tk2, tk3]
   first | refine tkY 5 ?_ | refine tkN 5 ?_
   try simp only [Act.put, tk1, tk2, tk3]
   first | refine tkY 6 ?_ | refine tkN 6 ?_
   try simp only [Act.put, tk1, tk2, tk3]
   first | refine tkY 7 ?_ | refine tkN 7 ?_
   try simp only [Act.put, tk1, tk2, tk3]
   first | refine tkY 8 ?_ | refine tkN 8 ?_
   try simp only [Act.put, tk1, tk2, tk3]
   first | refine tkY 9 ?_ | refine tkN 9 ?_
   try simp only [Act.put, tk1, tk2, tk3]
   first | refine tkY 10 ?_ | refine tkN 10 ?_
   try simp only [Act.put, tk1, tk2, tk3]
   first | refine tkY 11 ?_ | refine tkN 11 ?_
   try simp only [Act.put, tk1, tk2, tk3]
   refine wpAnyH_ready (rs := [12]) (by kernel_rfl) (by simp) ?_
   refine AllReadyH.cons (by (simp only [List.getElem?_toArray, List.getElem?_cons_succ, List.getElem?_cons_zero]; rfl)) (fun K hK => ?_) AllReadyH.nil
   go_simp
   (go_at_call 96; (with_reducible refine HAP0.out.mono ?_); rintro e w12 ⟨rfl, hf12, hb12, hk12⟩; have hl12 := HLW.out.step (hk12 r (.inl hr)) (hk12 t (.inl ht)); have v0 := hl12.c0; have v2 := hl12.c2; have v4 := hl12.c4; simp only at v2 v4; rw [HGN.out] at v4; have v3 := hl12.c3; have fr3 := hl12.fr 3; have fr4 := hl12.fr 4; have HL12 := Aside0.mk hl12; have HG12 := Aside0.mk hf12; have HB12 := Aside0.mk hb12; have HK12 := Lib.hid hk12; clear hl12 hf12 hb12 hk12)
   (try dsimp only)
   refine hK.out _ _ ?_ (fun hHeld => ?_)
   ·first | exact ⟨d0, d2, d4⟩ | exact ⟨v0, v2, v4⟩
   clear hK K
   try simp only [Act.put, tk1, tk2, tk3]
   refine wpAnyH_done (by kernel_rfl) ?_ _
   have hwn : IntKind.u64.wrap (g.nx + 1) = g.nx + 1 := IntWalk.u64_in _ (by omega)
   go_wp2_with fail
   obtain ⟨w13, hw13⟩ : ∃ w13, w13 = (w12.setCell ⟨r, 3, none⟩ (.int .i64 1)).setCell ⟨r, 4, none⟩ (.int .u64 (g.nx + 1)) := ⟨_, rfl⟩
   rw [← hw13]
   have hl13 : RLog r t x cap rest { st := g8.st.set m 1, op := (m : Int), pg := 1, nx := g.nx + 1 } w13 := by rw [hw13]; exact (HL12.out.setPg 1).setNx (g.nx + 1)
   have hu13 : Upd (fun k => k = r) w12 w13 := by
    rw [hw13]
    exact (Upd.setCell w12 (p := ⟨r, 3, none⟩) (S := fun k => k = r) rfl _).trans (Upd.setCell _ (p := ⟨r, 4, none⟩) (S := fun k => k = r) rfl _) (fun k hk _ => hk)
   have hg13 := hSt _ _ w12 w13 r _ _ _ HG12.out (.inl hr) HL12.out.blk hl13.blk (by decide) hu13
   have z12 := hG.size HG12.out
   have bel13 : Below N0 w w13 := BLW.out.trans (((show Below N0 w11 w11.drew from (Below.refl _ _).drew).trans HB12.out).trans (hu13.below z12 (fun k hk => by rw [hk]; exact hNr)))
   have kep13 : Kept (fun k => K k ∧ k ≠ r ∧ k ≠ t) w w13 := fun k hk => (hu13.block k (hG.lt HG12.out k (.inl hk.1)) hk.2.1).trans ((HK12.out k (.inl hk.1)).trans (KPW.out k hk))
   have x813 := (hu13.block w.heap.size (hG.lt HG12.out _ (.inr ⟨Nat.le_refl _, by omega⟩)) (by have := HLT.out r hr; omega)).trans ((HK12.out w.heap.size (.inr ⟨Nat.le_refl _, by omega⟩)).trans X8W.out)
   have X813 := Lib.hid x813
   have HL13 := Aside0.mk hl13
   have HG13 := Aside0.mk hg13
   have BEL13 := Aside0.mk bel13
   have KEP13 := Lib.hid kep13
   clear hw13 hl13 hu13 hg13 bel13 kep13 x813 v0 v2 v3 v4 fr3 fr4 hHeld
   go_wp2_with fail
   have y2_ := HL13.out.c2
   have y3_ := HL13.out.c3
   refine wp_region_held_drew (S := (fun w' => w'.cell? ⟨r, 2, none⟩ = some (.int .i64 (m : Int)) ∧ w'.cell? ⟨r, 3, none⟩ = some (.int .i64 1))) (by kernel_rfl) ?_ (fun hHeld => ?_)
   ·first | go_keep | exact ⟨y2_, y3_⟩
   first | refine tkY 0 ?_ | refine tkN 0 ?_
   try simp only [Act.put, tk1, tk2, tk3]
   first | refine tkY 1 ?_ | refine tkN 1 ?_
   try simp only [Act.put, tk1, tk2, tk3]
   first | refine tkY 2 ?_ | refine tkN 2 ?_
   try simp only [Act.put, tk1, tk2, tk3]
   first | refine tkY 3 ?_ | refine tkN 3 ?_
   try simp only [Act.put, tk1, tk2, tk3]
   first | refine tkY 4 ?_ | refine tkN 4 ?_
   try simp only [Act.put, tk1, tk2, tk3]
   first | refine tkY 5 ?_ | refine tkN 5 ?_
   try simp only [Act.put, tk1, tk2, tk3]
   first | refine tkY 6 ?_ | refine tkN 6 ?_
   try simp only [Act.put, tk1, tk2, tk3]
   first | refine tkY 7 ?_ | refine tkN 7 ?_
   try simp only [Act.put, tk1, tk2, tk3]
   first | refine tkY 8 ?_ | refine tkN 8 ?_
   try simp only [Act.put, tk1, tk2, tk3]
   refine wpAnyH_ready (rs := [9]) (by kernel_rfl) (by simp) ?_
   refine AllReadyH.cons (by (simp only [List.getElem?_toArray, List.getElem?_cons_succ, List.getElem?_cons_zero]; rfl)) (fun K hK => ?_) AllReadyH.nil
   go_simp
   (try dsimp only)
   refine hK.out _ _ ?_ (fun hHeld => ?_)
   ·first | go_keep | exact ⟨y2_, y3_⟩
   clear hK K
   try simp only [Act.put, tk1, tk2, tk3]
   refine wpAnyH_ready (rs := [10]) (by kernel_rfl) (by simp) ?_
   refine AllReadyH.cons (by (simp only [List.getElem?_toArray, List.getElem?_cons_succ, List.getElem?_cons_zero]; rfl)) (fun K hK => ?_) AllReadyH.nil
   go_simp
   (try dsimp only)
   refine hK.out _ _ ?_ (fun hHeld => ?_)
   ·first | go_keep | exact ⟨y2_, y3_⟩
   clear hK K
   try simp only [Act.put, tk1, tk2, tk3]
   refine wpAnyH_done (by kernel_rfl) ?_ _
   obtain ⟨Y, hY⟩ : ∃ Y, Y = (w13.alloc (.cells #[.int .i64 (m : Int), .int .i64 1] TA)).drew := ⟨_, rfl⟩
   rw [← hY]
   have qY : Y.heap[w13.heap.size]? = some (.cells #[.int .i64 (m : Int), .int .i64 1] TA (0, 0)) := by rw [hY]; exact blk_new _ _
   have bY : Below w13.heap.size w13 Y := by rw [hY]; exact (below_alloc (Below.refl _ _) _).drew
   have bYd : Below w13.heap.size w13 Y.drew := bY.drew
   have sY : Y.heap.size = w13.heap.size + 1 := by rw [hY]; exact size_alloc _ _
   have fY := hG.keep HG13.out bYd
   have lY := HL13.out.below bY
   have zY0 := lY.c0
   have zY2 := lY.c2
   have zY3 := lY.c3
   have zY4 := lY.c4
   have belX : Below N0 w w13 := BEL13.out
   have kepX : Kept (fun k => K k ∧ k ≠ r ∧ k ≠ t) w w13 := KEP13.out
   have bNY : Below N0 w Y.drew := belX.trans (bYd.mono (by have := belX.size; omega))
   have happ := RAppend_G (kind := kind) (seq := g.nx) (l := l) (c := c) hG fY HSH.out (m : Int) 1 hkk hsq hBl (HCX.out _ bNY) (by rw [← HN.out]; exact hc) (by rw [← HN.out]; omega) hdd
   rw [← HN.out] at happ
   have HAPP := Lib.hid happ
   have LY := Aside0.mk lY
   have QY := Lib.hid qY
   have BY := Aside0.mk bY
   have HY := Lib.hid hY
   have hwx : IntKind.u64.wrap g.nx = g.nx := IntWalk.u64_in _ (by omega)
   have hwk : IntKind.i64.wrap (1 + (kk : Int)) = 1 + (kk : Int) := IntWalk.i64_in _ (by omega)
   have BX := Aside0.mk belX
   have KX := Lib.hid kepX
   have nq1 : ¬ w13.heap.size = r := by have := blt HL13.out.blk; omega
   have nq2 : ¬ r = w13.heap.size := fun e => nq1 e.symm
   have nq3 : ¬ w.heap.size = r := by have := HLT.out r hr; omega
   have nq4 : ¬ r = w.heap.size := fun e => nq3 e.symm
   have nq5 : ¬ w13.heap.size = w.heap.size := by have := blt X813.out; omega
   have nq6 : ¬ w.heap.size = w13.heap.size := fun e => nq5 e.symm
   clear qY bY bYd fY lY belX kepX bNY happ hY y2_ y3_ hHeld
   go_wp2_with fail
   refine wp_region_held_drew (S := (fun w' => w'.cell? ⟨r, 0, none⟩ = some (.pointer (some ⟨x, 0, none⟩)) ∧ w'.cell? ⟨r, 2, none⟩ = some (.int .i64 (m : Int)) ∧ w'.cell? ⟨r, 3, none⟩ = some (.int .i64 1) ∧ w'.cell? ⟨r, 4, none⟩ = some (.int .u64 (g.nx + 1)))) (by kernel_rfl) ?_ (fun hHeld => ?_)
   ·first | exact ⟨zY0, zY2, zY3, zY4⟩ | exact ⟨s0, s2, s3, s4⟩
   first | refine tkY 0 ?_ | refine tkN 0 ?_
   try simp only [Act.put, tk1, tk2, tk3]
   first | refine tkY 1 ?_ | refine tkN 1 ?_
   try simp only [Act.put, tk1, tk2, tk3]
   first | refine tkY 2 ?_ | refine tkN 2 ?_
   try simp only [Act.put, tk1, tk2, tk3]
   first | refine tkY 3 ?_ | refine tkN 3 ?_
   try simp only [Act.put, tk1, tk2, tk3]
   first | refine tkY 4 ?_ | refine tkN 4 ?_
   try simp only [Act.put, tk1, tk2, tk3]
   first | refine tkY 5 ?_ | refine tkN 5 ?_
   try simp only [Act.put, tk1, tk2, tk3]
   first | refine tkY 6 ?_ | refine tkN 6 ?_
   try simp only [Act.put, tk1, tk2, tk3]
   first | refine tkY 7 ?_ | refine tkN 7 ?_
   try simp only [Act.put, tk1, tk2, tk3]
   first | refine tkY 8 ?_ | refine tkN 8 ?_
   try simp only [Act.put, tk1, tk2, tk3]
   first | refine tkY 9 ?_ | refine tkN 9 ?_
   try simp only [Act.put, tk1, tk2, tk3]
   first | refine tkY 10 ?_ | refine tkN 10 ?_
   try simp only [Act.put, tk1, tk2, tk3]
   first | refine tkY 11 ?_ | refine tkN 11 ?_
   try simp only [Act.put, tk1, tk2, tk3]
   first | refine tkY 12 ?_ | refine tkN 12 ?_
   try simp only [Act.put, tk1, tk2, tk3]
   first | refine tkY 13 ?_ | refine tkN 13 ?_
   try simp only [Act.put, tk1, tk2, tk3]
   first | refine tkY 14 ?_ | refine tkN 14 ?_
   try simp only [Act.put, tk1, tk2, tk3]
   first | refine tkY 15 ?_ | refine tkN 15 ?_
   try simp only [Act.put, tk1, tk2, tk3]
   first | refine tkY 16 ?_ | refine tkN 16 ?_
   try simp only [Act.put, tk1, tk2, tk3]
   first | refine tkY 17 ?_ | refine tkN 17 ?_
   try simp only [Act.put, tk1, tk2, tk3]
   first | refine tkY 18 ?_ | refine tkN 18 ?_
   try simp only [Act.put, tk1, tk2, tk3]
   refine wpAnyH_ready (rs := [19]) (by kernel_rfl) (by simp) ?_
   refine AllReadyH.cons (by (simp only [List.getElem?_toArray, List.getElem?_cons_succ, List.getElem?_cons_zero]; rfl)) (fun K hK => ?_) AllReadyH.nil
   go_simp
   (go_at_call 96; (with_reducible refine HAPP.out.mono ?_); rintro e w10 ⟨rfl, hf10, hb10, hk10⟩; have hl10 : RLog r t x cap rest { st := g8.st.set m 1, op := (m : Int), pg := 1, nx := g.nx + 1 } w10 := LY.out.step (hk10 r (.inl (.inl hr))) (hk10 t (.inl (.inl ht))); have s0 := hl10.c0; have s2 := hl10.c2; have s3 := hl10.c3; have s4 := hl10.c4; have fr3 := hl10.fr 3; have x8 := (hk10 w.heap.size (.inl (.inr ⟨Nat.le_refl _, by omega⟩))).trans ((BY.out.block _ (blt X813.out)).trans X813.out); have x12 := (hk10 w13.heap.size (.inr ⟨Nat.le_refl _, by show _ < Y.heap.size; omega⟩)).trans QY.out; have m0 : w10.cell? ⟨w.heap.size, 0, none⟩ = some (.int .i64 0) := bcell x8 0; have m1 : w10.cell? ⟨w.heap.size, 1, none⟩ = some (.int .i64 0) := bcell x8 1; have mf : ∀ j, w10.frozen? ⟨w.heap.size, j, none⟩ = false := (fun j => bfrozen x8 j); have t0 : w10.cell? ⟨w13.heap.size, 0, none⟩ = some (.int .i64 (m : Int)) := bcell x12 0; have t1 : w10.cell? ⟨w13.heap.size, 1, none⟩ = some (.int .i64 1) := bcell x12 1; have HL10 := Aside0.mk hl10; have X810 := Lib.hid x8; have HG10 := Aside0.mk hf10; have HB10 := Aside0.mk (BX.out.trans ((show Below N0 w13 Y.drew from (BY.out.drew).mono (by have := BX.out.size; omega)).trans hb10)); have HKR := Lib.hid hk10; clear hl10 hf10 hb10 hk10 x8 x12)
   (try dsimp only)
   refine hK.out _ _ ?_ (fun hHeld => ?_)
   ·first | exact ⟨zY0, zY2, zY3, zY4⟩ | exact ⟨s0, s2, s3, s4⟩
   clear hK K
   try simp only [Act.put, tk1, tk2, tk3]
   refine wpAnyH_done (by kernel_rfl) ?_ _
   go_wp2_with fail
   have HK10 := Lib.hid (show Kept (fun k => K k ∧ k ≠ r ∧ k ≠ t) w w10 from fun k hk => (HKR.out k (.inl (.inl hk.1))).trans ((BY.out.block k (by have := HLT.out k hk.1; have := BX.out.size; omega)).trans (KX.out k hk)))
   have hl11 := HL10.out.setPg (1 + (kk : Int))
   have hu11 := Upd.setCell w10 (p := ⟨r, 3, none⟩) (S := fun k => k = r) rfl (.int .i64 (1 + (kk : Int)))
   have hf11 := hSt _ _ w10 _ r _ _ _ HG10.out (.inl (.inl hr)) HL10.out.blk hl11.blk (by decide) hu11
   have s10' := hG.size HG10.out
   have hb11 := HB10.out.trans (hu11.below s10' (fun k hk => by rw [hk]; exact hNr))
   have x811 := (hu11.block w.heap.size (blt X810.out) (fun e => nq3 e)).trans X810.out
   have hk11 : Kept (fun k => K k ∧ k ≠ r ∧ k ≠ t) w (w10.setCell ⟨r, 3, none⟩ (.int .i64 (1 + (kk : Int)))) := fun k hk => (hu11.block k (hG.lt HG10.out k (.inl (.inl hk.1))) hk.2.1).trans (HK10.out k hk)
   obtain ⟨w9, hw9⟩ : ∃ w9, w9 = ((w10.setCell ⟨r, 3, none⟩ (.int .i64 (1 + (kk : Int)))).setCell ⟨w.heap.size, 0, none⟩ (.int .i64 (m : Int))).setCell ⟨w.heap.size, 1, none⟩ (.int .i64 1) := ⟨_, rfl⟩
   rw [← hw9]
   obtain ⟨r8, hf9, hl9, hb9, hk9⟩ := rput_end hG hSt hf11 hl11 hr ht HLT.out hsz (Nat.le_refl _) x811 (.inl (.inr ⟨Nat.le_refl _, by omega⟩)) (fun k hk => .inl (.inl hk)) hb11 hk11 hw9
   have r0 := bcell r8 0
   have r1 := bcell r8 1
   exact bodyPost_ret (v := .tuple #[.agg #[.int .i64 (m : Int), .int .i64 1], .int .i64 0]) (by simp [results, Tryz.results54, go_sem, r0, r1]) rfl ⟨rfl, hf9, by rw [← HKP.out, ← HG8E.out]; exact hl9, hb9, hk9⟩
set_option maxHeartbeats 4000000 in
set_option maxRecDepth 100000 in
theorem RPut_turnN (hG : RefFrame N0 x s G) (hSt : ∀ ps, Stays (fun K w => G K ps w)) (h : G K ps w) (hl : RLog r t x cap rest g w) (hr : K r) (ht : K t) (hNr : N0 ≤ r) (hNt : N0 ≤ t) (hsh : ShapeOk s) (hc : l.length ≤ c) (hm : l.length ≤ 4096) (hk : kind ≠ 1) (hb1 : (kpg s l.length : Int) + 1 ≤ s.2.1) (ho : 0 ≤ g.op) (hp0 : 0 ≤ g.pg) (hp1 : g.pg ≤ 100000) (hb2 : s.2.1 < g.pg + (kpg s l.length : Int)) (hsl : g.st.length < 1000) (hol : g.op < (g.st.length : Int)) (hcn : ¬ (cnt 0 g.st : Int) < need) (hkk : KindOk kind) (hBl : Byt l) (hCx : ∀ X, Below N0 w X → kB.C X A l.length l) (hd0 : ps.length < 900000) {m : Nat} (hdd : (appP s ps (m : Int) 0 0 (rec 1 g.nx [])).length < 900000) (hm0 : (rsealG g).st[m]? = some 0) (hmf : ∀ i, i < m → (rsealG g).st[i]? ≠ some 0) (hsq : SeqOk g.nx) (hn1 : 0 ≤ g.nx) (hn2 : g.nx < 1000000) : Calls Tryz.prog 54 #[.pointer (some ⟨r, 0, none⟩), .int .u8 kind, .slice A l.length c, .int .i64 need] w (RPutPost N0 r t x cap rest G K w ((m : Int), 1) 0 (appP s (appP s ps (m : Int) 0 0 (rec 1 g.nx [])) (m : Int) 1 l.length (rec kind g.nx l)) { st := (rsealG g).st.set m 1, op := (m : Int), pg := 1 + (kpg s l.length : Int), nx := g.nx + 1 }) := by
 obtain ⟨n, hn⟩ : ∃ n, n = l.length := ⟨_, rfl⟩
 have hsz := hG.size h
 have hlt := fun k hk => hG.lt h k hk
 obtain ⟨okx, hX⟩ := hG.ref h
 obtain ⟨vx, hxb, _⟩ := hX.blk
 obtain ⟨W0, hW0⟩ : ∃ W0, W0 = w.alloc (.cells #[.int .i64 0, .int .i64 0] TA) := ⟨_, rfl⟩
 have wb0 : Below w.heap.size w W0 := by rw [hW0]; exact below_alloc (Below.refl _ _) _
 have wz0 : W0.heap.size = w.heap.size + 1 := by rw [hW0]; exact size_alloc _ _
 have hxb0 := (wb0.block _ (blt hxb)).trans hxb
 have u0 : W0.cell? ⟨x, 0, none⟩ = some (.int .i64 s.1) := bcell hxb0 0
 have u1 : W0.cell? ⟨x, 1, none⟩ = some (.int .i64 s.2.1) := bcell hxb0 1
 have u2 : W0.cell? ⟨x, 2, none⟩ = some (.int .i64 s.2.2) := bcell hxb0 2
 have k0 := (hl.below wb0).c0
 obtain ⟨W, hW⟩ : ∃ W, W = W0.alloc (.cells #[.int .i64 s.1, .int .i64 s.2.1, .int .i64 s.2.2] TSh) := ⟨_, rfl⟩
 obtain ⟨q8, q10⟩ := pair_blk w (.cells #[.int .i64 0, .int .i64 0] TA) (.cells #[.int .i64 s.1, .int .i64 s.2.1, .int .i64 s.2.2] TSh)
 rw [← hW0, ← hW] at q8 q10
 have y2 : W.cell? ⟨w.heap.size + 1, 2, none⟩ = some (.int .i64 s.2.2) := bcell q10 2
 have wb : Below w.heap.size w W := by rw [hW]; exact below_alloc wb0 _
 have wsz : W.heap.size = w.heap.size + 2 := by rw [hW, size_alloc, wz0]
 have hf1 := hG.keep h wb
 have hl1 := hl.below wb
 rw [← hn] at hc hm
 obtain ⟨kk, hkp⟩ : ∃ kk, kk = kpg s n := ⟨_, rfl⟩
 have hkb : kk ≤ 257 := by rw [hkp]; exact (kpg_bd hsh hm).2
 have hpg : ∀ X : World, Calls Tryz.prog 95 #[.int .i64 (n : Int), .int .i64 s.2.2] X fun e w' => e = .returned (.int .i64 (kk : Int)) ∧ Below X.heap.size X w' := fun X => by
  rw [hkp]
  exact RPages_ok n s hsh hm X
 have s10 := hsh.b0
 have s11 := hsh.b1
 have HPG := Lib.hid hpg
 have HG1 := Aside0.mk hf1
 have HL1 := Aside0.mk hl1
 have HW := Lib.hid hW
 have HW0 := Lib.hid hW0
 have Q8 := Lib.hid q8
 have Q10 := Lib.hid q10
 have WB := Aside0.mk wb
 have HN := Lib.hid hn
 have HKP := Lib.hid hkp
 have HLT := Lib.hid hlt
 have e_n : decide ((n : Int) > 4096) = false := decide_eq_false (by omega)
 have kw1 : IntKind.i64.wrap ((kk : Int) + 1) = (kk : Int) + 1 := IntWalk.i64_in _ (by omega)
 rw [← hn]
 clear h hl hn hlt hf1 hl1 hX hxb hxb0 wb0 hW hW0 q8 q10 wb hkp hpg
 rw [← HN.out, ← HKP.out] at hb1
 have e_b : decide ((kk : Int) + 1 > s.2.1) = false := decide_eq_false (by omega)
 have e_k : (kind == 1) = false := by simpa using hk
 clear hk
 rw [← HN.out, ← HKP.out] at hb2
 have e_o : decide (g.op < 0) = false := decide_eq_false (by omega)
 have kw2 : IntKind.i64.wrap (g.pg + (kk : Int)) = g.pg + (kk : Int) := IntWalk.i64_in _ (by omega)
 have e_p : decide (g.pg + (kk : Int) > s.2.1) = true := decide_eq_true (by omega)
 have HOL := Lib.hid hol
 have HM0 := Lib.hid hm0
 have HMF := Lib.hid hmf
 obtain ⟨nl, hnl⟩ : ∃ nl, nl = g.st.length := ⟨_, rfl⟩
 have hnl2 : nl < 1000 := by omega
 have HNL := Lib.hid hnl
 have BBW := Aside0.mk WB.out
 clear hol hm0 hmf hnl
 obtain ⟨c0, hc0⟩ : ∃ c0, c0 = cnt 0 g.st := ⟨_, rfl⟩
 rw [← hc0] at hcn
 have HC0 := Lib.hid hc0
 have HSL := Lib.hid hsl
 clear hc0 hsl
 have e_c : decide ((c0 : Int) < need) = false := decide_eq_false hcn
 have HCX := Lib.hid hCx
 have HSH := Lib.hid hsh
 clear hCx
 go_enter Tryz.func54, Tryz.ntmps54
 go_wp2_with (first
  | (rw [← HW0.out])
  | (rw [← HW.out])
  | (go_at_call 95; (with_reducible refine (HPG.out _).mono ?_); rintro e w4 ⟨rfl, hb4⟩; have HB4 := Aside0.mk hb4; have x8 := (hb4.block _ (blt Q8.out)).trans Q8.out; have x10 := (hb4.block _ (blt Q10.out)).trans Q10.out; have hl4 := HL1.out.below hb4; have k04 := hl4.c0; have k14 := hl4.c1; have k24 := hl4.c2; have k34 := hl4.c3; have m0 : w4.cell? ⟨w.heap.size, 0, none⟩ = some (.int .i64 0) := bcell x8 0; have m1 : w4.cell? ⟨w.heap.size, 1, none⟩ = some (.int .i64 0) := bcell x8 1; have mf : ∀ j, w4.frozen? ⟨w.heap.size, j, none⟩ = false := (fun j => bfrozen x8 j); have y1 : w4.cell? ⟨w.heap.size + 1, 1, none⟩ = some (.int .i64 s.2.1) := bcell x10 1; have X84 := Lib.hid x8; have X104 := Lib.hid x10; have HL4 := Aside0.mk hl4; have HG4 := Aside0.mk (hG.below HG1.out hb4); clear hb4 x8 x10 hl4)
  | fail)
 have e_u : decide ((n : Int) > 4096) = false := e_n
 refine wp_region_held_drew (S := (fun w' => w'.cell? ⟨r, 2, none⟩ = some (.int .i64 g.op) ∧ w'.cell? ⟨r, 3, none⟩ = some (.int .i64 g.pg) ∧ w'.cell? ⟨w.heap.size + 1, 1, none⟩ = some (.int .i64 s.2.1))) (by kernel_rfl) ?_ (fun hHeld => ?_)
 ·first | go_keep | exact ⟨k24, k34, y1⟩
 first | refine tkY 0 ?_ | refine tkN 0 ?_
 try simp only [Act.put, tk1, tk2, tk3]
 first | refine tkY 1 ?_ | refine tkN 1 ?_
 try simp only [Act.put, tk1, tk2, tk3]
 first | refine tkY 2 ?_ | refine tkN 2 ?_
 try simp only [Act.put, tk1, tk2, tk3]
 first | refine tkY 3 ?_ | refine tkN 3 ?_
 try simp only [Act.put, tk1, tk2, tk3]
 first | refine tkY 4 ?_ | refine tkN 4 ?_
 try simp only [Act.put, tk1, tk2, tk3]
 first | refine tkY 5 ?_ | refine tkN 5 ?_
 try simp only [Act.put, tk1, tk2, tk3]
 first | refine tkY 6 ?_ | refine tkN 6 ?_
 try simp only [Act.put, tk1, tk2, tk3]
 first | refine tkY 7 ?_ | refine tkN 7 ?_
 try simp only [Act.put, tk1, tk2, tk3]
 first | refine tkY 8 ?_ | refine tkN 8 ?_
 try simp only [Act.put, tk1, tk2, tk3]
 first | refine tkY 9 ?_ | refine tkN 9 ?_
 try simp only [Act.put, tk1, tk2, tk3]
 first | refine tkY 10 ?_ | refine tkN 10 ?_
 try simp only [Act.put, tk1, tk2, tk3]
 first | refine tkY 11 ?_ | refine tkN 11 ?_
 try simp only [Act.put, tk1, tk2, tk3]
 first | refine tkY 12 ?_ | refine tkN 12 ?_
 try simp only [Act.put, tk1, tk2, tk3]
 first | refine tkY 13 ?_ | refine tkN 13 ?_
 try simp only [Act.put, tk1, tk2, tk3]
 first | refine tkY 14 ?_ | refine tkN 14 ?_
 try simp only [Act.put, tk1, tk2, tk3]
 first | refine tkY 15 ?_ | refine tkN 15 ?_
 try simp only [Act.put, tk1, tk2, tk3]
 refine wpAnyH_done (by kernel_rfl) ?_ _
 obtain ⟨w5, hw5⟩ : ∃ w5, w5 = w4.drew := ⟨_, rfl⟩
 rw [← hw5]
 have b5 : Below w4.heap.size w4 w5 := by rw [hw5]; exact (Below.refl _ _).drew
 have HB5 := Aside0.mk (HB4.out.trans (b5.mono HB4.out.size))
 have hl5 := HL4.out.below b5
 have k05 := hl5.c0
 have k15 := hl5.c1
 have k25 := hl5.c2
 have k35 := hl5.c3
 have k45 := hl5.c4
 have x85 := (b5.block _ (blt X84.out)).trans X84.out
 have HG5 := Aside0.mk (hG.below HG4.out b5)
 have HL5 := Aside0.mk hl5
 have X85 := Lib.hid x85
 clear hw5 b5 hl5 x85
 go_wp2_with (first
  | (rw [← HW0.out])
  | (rw [← HW.out])
  | (go_at_call 38; (have hcc := RCount_any HL5.out HSL.out 0); (rw [← HC0.out] at hcc); (with_reducible refine hcc.mono ?_); clear hcc; rintro e w7 ⟨rfl, hb7⟩; have HB7 := Aside0.mk (HB5.out.trans (hb7.mono HB5.out.size)); have x8 := (hb7.block _ (blt X85.out)).trans X85.out; have X87 := Lib.hid x8; have n0 : w7.cell? ⟨w.heap.size, 0, none⟩ = some (.int .i64 0) := bcell x8 0; have n1 : w7.cell? ⟨w.heap.size, 1, none⟩ = some (.int .i64 0) := bcell x8 1; have nf : ∀ j, w7.frozen? ⟨w.heap.size, j, none⟩ = false := (fun j => bfrozen x8 j); have HL7 := Aside0.mk (HL5.out.below hb7); have HG7 := Aside0.mk (hG.below HG5.out hb7); clear hb7 x8)
  | (go_at_call 56; (have hse := RSeal_G hG hSt HG7.out HL7.out (.inl hr) (.inl ht) hNr hNt HOL.out); (with_reducible refine hse.mono ?_); clear hse; rintro e w8 ⟨rfl, hf8, hl8, hb8, hk8⟩; have bel8 : Below N0 w w8 := (((WB.out.trans ((HB7.out).mono (by omega))).mono hsz)).trans hb8; have kep8 : Kept (fun k => K k ∧ k ≠ r ∧ k ≠ t) w w8 := (fun k hk => (hk8 k ⟨.inl hk.1, hk.2⟩).trans ((show Kept (fun k => K k ∧ k ≠ r ∧ k ≠ t) w w7 from fun k hk => ((BBW.out.trans (HB7.out.mono BBW.out.size)).block k (HLT.out k hk.1))) k hk)); have x8 := (hk8 w.heap.size ⟨.inr ⟨Nat.le_refl _, by omega⟩, (by have := HLT.out r hr; omega), (by have := HLT.out t ht; omega)⟩).trans X87.out; (obtain ⟨g8, hg8⟩ : ∃ g8, g8 = rsealG g := ⟨_, rfl⟩); (rw [← hg8] at hl8); (have hgl : g8.st.length = nl := (by rw [hg8, rseal_len]; exact HNL.out.symm)); (have hgo : g8.op = -1 := (by rw [hg8]; rfl)); have k18 := hl8.c1; (rw [hgl] at k18); have X88 := Lib.hid x8; have HG8 := Aside0.mk hf8; have HL8 := Aside0.mk hl8; have BEL8 := Aside0.mk bel8; have KEP8 := Lib.hid kep8; have HG8E := Lib.hid hg8; have HGL := Lib.hid hgl; have HGO := Lib.hid hgo; clear hf8 hl8 hb8 hk8 bel8 kep8 x8 hg8 hgl hgo)
  | fail)
 go_loopw [12, 13, 69] (fun v12 v13 v69 wr => ∃ k : Nat, k ≤ nl ∧ v69 = .int .i64 (k : Int) ∧ RLog r t x cap rest (if k ≤ m then g8 else { g8 with op := (m : Int) }) wr ∧ Upd (fun k => k = r) w8 wr) (fun _ _ v69 _ => nl - (intOf v69).toNat)
 case atStart => exact ⟨0, Nat.zero_le _, rfl, by rw [if_pos (Nat.zero_le _)]; exact HL8.out, Upd.ofBelow (Below.refl _ _) _⟩
 case round =>
  obtain ⟨k, hk, rfl, hlr, hur⟩ := hrel
  have hmg : g8.st[m]? = some 0 := by rw [HG8E.out]; exact HM0.out
  have hml : m < nl := by have := (List.getElem?_eq_some_iff.1 hmg).1; have := HGL.out; omega
  have k0' : (0 : Int) ≤ (k : Int) := by omega
  have e_m : decide ((m : Int) < 0) = false := decide_eq_false (by omega)
  by_cases hlt : k < nl
  ·have k1' : (k : Int) < (nl : Int) := by omega
   obtain ⟨y, hy⟩ : ∃ y, g8.st[k]? = some y := ⟨_, List.getElem?_eq_getElem (by have := HGL.out; omega)⟩
   by_cases hkm : k ≤ m
   ·rw [if_pos hkm] at hlr
    have c5 := hlr.cst hy
    have c2 := hlr.c2
    rw [HGO.out] at c2
    have f2 := hlr.fr 2
    have HLR := Aside0.mk hlr
    have HUR := Aside0.mk hur
    by_cases hkm2 : k = m
    ·have hy0 : y = 0 := by rw [hkm2, hmg] at hy; exact (Option.some.inj hy).symm
     rw [hy0] at c5
     have HKM := Lib.hid hkm2
     clear hlr hur hy hy0 hkm2 hmg
     go_wp2
     exact ⟨⟨k + 1, by omega, by go_num, by rw [if_neg (by have := HKM.out; omega), ← HKM.out]; exact HLR.out.setOp (k : Int), HUR.out.trans (Upd.setCell wr (p := ⟨r, 2, none⟩) (S := fun k => k = r) rfl _) (fun k hk _ => hk)⟩, by simp [intOf]; omega⟩
    ·have hy0 : y ≠ 0 := fun e => by rw [e] at hy; exact HMF.out k (by omega) (by rw [← HG8E.out]; exact hy)
     have e1 : (y == 0) = false := by simpa using hy0
     have HKM := Lib.hid hkm2
     clear hlr hur hy hy0 hkm2 hmg
     go_wp2
     exact ⟨⟨k + 1, by omega, by go_num, by rw [if_pos (by have := HKM.out; omega)]; exact HLR.out, HUR.out⟩, by simp [intOf]; omega⟩
   ·rw [if_neg hkm] at hlr
    have c5 := hlr.cst hy
    have c2 := hlr.c2
    simp only at c2
    have HLR := Aside0.mk hlr
    have HUR := Aside0.mk hur
    by_cases hy0 : y = 0
    ·rw [hy0] at c5
     clear hlr hur hy hy0 hmg
     go_wp2
     exact ⟨⟨k + 1, by omega, by go_num, by rw [if_neg (by omega)]; exact HLR.out, HUR.out⟩, by simp [intOf]; omega⟩
    ·have e1 : (y == 0) = false := by simpa using hy0
     clear hlr hur hy hy0 hmg
     go_wp2
     exact ⟨⟨k + 1, by omega, by go_num, by rw [if_neg (by omega)]; exact HLR.out, HUR.out⟩, by simp [intOf]; omega⟩
  ·obtain rfl : k = nl := by omega
   rw [if_neg (by omega)] at hlr
   have c1 := hlr.c1
   simp only [HGL.out] at c1
   have c2 := hlr.c2
   simp only at c2
   have c5 := hlr.cst (i := m) (y := 0) hmg
   have f5 := hlr.ft m
   have q0 : (0 : Int) ≤ (m : Int) := by omega
   have q1 : (m : Int) < (k : Int) := by omega
   have n1 := hlr.ne
   have n2 : ¬ t = r := fun e => n1 e.symm
   have HMG := Lib.hid hmg
   have HLR := Aside0.mk hlr
   have HUR := Aside0.mk hur
   clear hlr hur hmg
   go_wp2_with fail
   go_region_held3 (fun w' => w'.cell? ⟨r, 1, none⟩ = some (.slice (some ⟨t, 0, none⟩) k cap) ∧ w'.cell? ⟨r, 2, none⟩ = some (.int .i64 (m : Int))) (first | go_keep | exact ⟨c1, c2⟩) (fail)
   obtain ⟨w11, hw11⟩ : ∃ w11, w11 = (wr.setCell ⟨t, m, none⟩ (.int .i64 1)).drew := ⟨_, rfl⟩
   rw [← hw11]
   have hfr := hSt _ _ w8 wr r _ _ _ HG8.out (.inl hr) HL8.out.blk HLR.out.blk (by decide) HUR.out
   have hlz := HLR.out.setSt (i := m) (by show m < g8.st.length; have := HGL.out; omega) 1
   have hlw : RLog r t x cap rest { st := g8.st.set m 1, op := (m : Int), pg := g8.pg, nx := g8.nx } w11 := by rw [hw11]; exact ⟨hlz.blk, hlz.row⟩
   have huw : Upd (fun k => k = t) wr w11 := by
    have := Upd.setCell wr (p := ⟨t, m, none⟩) (S := fun k => k = t) rfl (.int .i64 1)
    rw [hw11]
    exact ⟨this.os, this.tape, this.output, this.size, this.block⟩
   have hfw := hSt _ _ wr w11 t _ _ _ hfr (.inl ht) HLR.out.row hlw.row (by decide) huw
   have zr := hG.size hfr
   have z8 := hG.size HG8.out
   have blw : Below N0 w w11 := BEL8.out.trans ((HUR.out.below z8 (fun k hk => by rw [hk]; exact hNr)).trans (huw.below zr (fun k hk => by rw [hk]; exact hNt)))
   have hgn : g8.nx = g.nx := by rw [HG8E.out]; rfl
   have kpw : Kept (fun k => K k ∧ k ≠ r ∧ k ≠ t) w w11 := fun k hk => (huw.block k (hG.lt hfr k (.inl hk.1)) hk.2.2).trans ((HUR.out.block k (hG.lt HG8.out k (.inl hk.1)) hk.2.1).trans (KEP8.out k hk))
   have x8w := (huw.block w.heap.size (by have := hG.lt hfr w.heap.size (.inr ⟨Nat.le_refl _, by omega⟩); omega) (by have := HLT.out t ht; omega)).trans ((HUR.out.block w.heap.size (blt X88.out) (by have := HLT.out r hr; omega)).trans X88.out)
   have d0 := hlw.c0
   have d2 := hlw.c2
   have d4 := hlw.c4
   simp only at d2 d4
   rw [hgn] at d4
   have hap0 := RAppend_G (kind := 1) (seq := g.nx) (l := []) (c := 0) (A := none) hG (hG.below hfw (Below.refl _ w11).drew) HSH.out (m : Int) 0 one_kind hsq Byt.nil (Kd.C_nil kB _) (Nat.le_refl _) (by simp) hd0
   rw [List.length_nil] at hap0
   have HAP0 := Lib.hid hap0
   have HLW := Aside0.mk hlw
   have BLW := Aside0.mk blw
   have KPW := Lib.hid kpw
   have X8W := Lib.hid x8w
   have HGN := Lib.hid hgn
   clear hw11 hfr hlz hlw huw hfw blw hgn kpw x8w hap0 c1 c2 c5 f5
   go_wp2_with fail
   refine wp_region_held_drew (S := (fun w' => w'.cell? ⟨r, 0, none⟩ = some (.pointer (some ⟨x, 0, none⟩)) ∧ w'.cell? ⟨r, 2, none⟩ = some (.int .i64 (m : Int)) ∧ w'.cell? ⟨r, 4, none⟩ = some (.int .u64 g.nx))) (by kernel_rfl) ?_ (fun hHeld => ?_)
   ·first | exact ⟨d0, d2, d4⟩ | exact ⟨v0, v2, v4⟩
   first | refine tkY 0 ?_ | refine tkN 0 ?_
   try simp only [Act.put, tk1, tk2, tk3]
   first | refine tkY 1 ?_ | refine tkN 1 ?_
   try simp only [Act.put, tk1, tk2, tk3]
   first | refine tkY 2 ?_ | refine tkN 2 ?_
   try simp only [Act.put, tk1, tk2, tk3]
   first | refine tkY 3 ?_ | refine tkN 3 ?_
   try simp only [Act.put, tk1, tk2, tk3]
   first | refine tkY 4 ?_ | refine tkN 4 ?_
   try simp only [Act.put, tk1, tk2, tk3]
   first | refine tkY 5 ?_ | refine tkN 5 ?_
   try simp only [Act.put, tk1, tk2, tk3]
   first | refine tkY 6 ?_ | refine tkN 6 ?_
   try simp only [Act.put, tk1, tk2, tk3]
   first | refine tkY 7 ?_ | refine tkN 7 ?_
   try simp only [Act.put, tk1, tk2, tk3]
   first | refine tkY 8 ?_ | refine tkN 8 ?_
   try simp only [Act.put, tk1, tk2, tk3]
   first | refine tkY 9 ?_ | refine tkN 9 ?_
   try simp only [Act.put, tk1, tk2, tk3]
   first | refine tkY 10 ?_ | refine tkN 10 ?_
   try simp only [Act.put, tk1, tk2, tk3]
   first | refine tkY 11 ?_ | refine tkN 11 ?_
   try simp only [Act.put, tk1, tk2, tk3]
   refine wpAnyH_ready (rs := [12]) (by kernel_rfl) (by simp) ?_
   refine AllReadyH.cons (by (simp only [List.getElem?_toArray, List.getElem?_cons_succ, List.getElem?_cons_zero]; rfl)) (fun K hK => ?_) AllReadyH.nil
   go_simp
   (go_at_call 96; (with_reducible refine HAP0.out.mono ?_); rintro e w12 ⟨rfl, hf12, hb12, hk12⟩; have hl12 := HLW.out.step (hk12 r (.inl hr)) (hk12 t (.inl ht)); have v0 := hl12.c0; have v2 := hl12.c2; have v4 := hl12.c4; simp only at v2 v4; rw [HGN.out] at v4; have v3 := hl12.c3; have fr3 := hl12.fr 3; have fr4 := hl12.fr 4; have HL12 := Aside0.mk hl12; have HG12 := Aside0.mk hf12; have HB12 := Aside0.mk hb12; have HK12 := Lib.hid hk12; clear hl12 hf12 hb12 hk12)
   (try dsimp only)
   refine hK.out _ _ ?_ (fun hHeld => ?_)
   ·first | exact ⟨d0, d2, d4⟩ | exact ⟨v0, v2, v4⟩
   clear hK K
   try simp only [Act.put, tk1, tk2, tk3]
   refine wpAnyH_done (by kernel_rfl) ?_ _
   have hwn : IntKind.u64.wrap (g.nx + 1) = g.nx + 1 := IntWalk.u64_in _ (by omega)
   go_wp2_with fail
   obtain ⟨w13, hw13⟩ : ∃ w13, w13 = (w12.setCell ⟨r, 3, none⟩ (.int .i64 1)).setCell ⟨r, 4, none⟩ (.int .u64 (g.nx + 1)) := ⟨_, rfl⟩
   rw [← hw13]
   have hl13 : RLog r t x cap rest { st := g8.st.set m 1, op := (m : Int), pg := 1, nx := g.nx + 1 } w13 := by rw [hw13]; exact (HL12.out.setPg 1).setNx (g.nx + 1)
   have hu13 : Upd (fun k => k = r) w12 w13 := by
    rw [hw13]
    exact (Upd.setCell w12 (p := ⟨r, 3, none⟩) (S := fun k => k = r) rfl _).trans (Upd.setCell _ (p := ⟨r, 4, none⟩) (S := fun k => k = r) rfl _) (fun k hk _ => hk)
   have hg13 := hSt _ _ w12 w13 r _ _ _ HG12.out (.inl hr) HL12.out.blk hl13.blk (by decide) hu13
   have z12 := hG.size HG12.out
   have bel13 : Below N0 w w13 := BLW.out.trans (((show Below N0 w11 w11.drew from (Below.refl _ _).drew).trans HB12.out).trans (hu13.below z12 (fun k hk => by rw [hk]; exact hNr)))
   have kep13 : Kept (fun k => K k ∧ k ≠ r ∧ k ≠ t) w w13 := fun k hk => (hu13.block k (hG.lt HG12.out k (.inl hk.1)) hk.2.1).trans ((HK12.out k (.inl hk.1)).trans (KPW.out k hk))
   have x813 := (hu13.block w.heap.size (hG.lt HG12.out _ (.inr ⟨Nat.le_refl _, by omega⟩)) (by have := HLT.out r hr; omega)).trans ((HK12.out w.heap.size (.inr ⟨Nat.le_refl _, by omega⟩)).trans X8W.out)
   have X813 := Lib.hid x813
   have HL13 := Aside0.mk hl13
   have HG13 := Aside0.mk hg13
   have BEL13 := Aside0.mk bel13
   have KEP13 := Lib.hid kep13
   clear hw13 hl13 hu13 hg13 bel13 kep13 x813 v0 v2 v3 v4 fr3 fr4 hHeld
   go_wp2_with fail
   have y2_ := HL13.out.c2
   have y3_ := HL13.out.c3
   refine wp_region_held_drew (S := (fun w' => w'.cell? ⟨r, 2, none⟩ = some (.int .i64 (m : Int)) ∧ w'.cell? ⟨r, 3, none⟩ = some (.int .i64 1))) (by kernel_rfl) ?_ (fun hHeld => ?_)
   ·first | go_keep | exact ⟨y2_, y3_⟩
   first | refine tkY 0 ?_ | refine tkN 0 ?_
   try simp only [Act.put, tk1, tk2, tk3]
   first | refine tkY 1 ?_ | refine tkN 1 ?_
   try simp only [Act.put, tk1, tk2, tk3]
   first | refine tkY 2 ?_ | refine tkN 2 ?_
   try simp only [Act.put, tk1, tk2, tk3]
   first | refine tkY 3 ?_ | refine tkN 3 ?_
   try simp only [Act.put, tk1, tk2, tk3]
   first | refine tkY 4 ?_ | refine tkN 4 ?_
   try simp only [Act.put, tk1, tk2, tk3]
   first | refine tkY 5 ?_ | refine tkN 5 ?_
   try simp only [Act.put, tk1, tk2, tk3]
   first | refine tkY 6 ?_ | refine tkN 6 ?_
   try simp only [Act.put, tk1, tk2, tk3]
   first | refine tkY 7 ?_ | refine tkN 7 ?_
   try simp only [Act.put, tk1, tk2, tk3]
   first | refine tkY 8 ?_ | refine tkN 8 ?_
   try simp only [Act.put, tk1, tk2, tk3]
   refine wpAnyH_ready (rs := [9]) (by kernel_rfl) (by simp) ?_
   refine AllReadyH.cons (by (simp only [List.getElem?_toArray, List.getElem?_cons_succ, List.getElem?_cons_zero]; rfl)) (fun K hK => ?_) AllReadyH.nil
   go_simp
   (try dsimp only)
   refine hK.out _ _ ?_ (fun hHeld => ?_)
   ·first | go_keep | exact ⟨y2_, y3_⟩
   clear hK K
   try simp only [Act.put, tk1, tk2, tk3]
   refine wpAnyH_ready (rs := [10]) (by kernel_rfl) (by simp) ?_
   refine AllReadyH.cons (by (simp only [List.getElem?_toArray, List.getElem?_cons_succ, List.getElem?_cons_zero]; rfl)) (fun K hK => ?_) AllReadyH.nil
   go_simp
   (try dsimp only)
   refine hK.out _ _ ?_ (fun hHeld => ?_)
   ·first | go_keep | exact ⟨y2_, y3_⟩
   clear hK K
   try simp only [Act.put, tk1, tk2, tk3]
   refine wpAnyH_done (by kernel_rfl) ?_ _
   obtain ⟨Y, hY⟩ : ∃ Y, Y = (w13.alloc (.cells #[.int .i64 (m : Int), .int .i64 1] TA)).drew := ⟨_, rfl⟩
   rw [← hY]
   have qY : Y.heap[w13.heap.size]? = some (.cells #[.int .i64 (m : Int), .int .i64 1] TA (0, 0)) := by rw [hY]; exact blk_new _ _
   have bY : Below w13.heap.size w13 Y := by rw [hY]; exact (below_alloc (Below.refl _ _) _).drew
   have bYd : Below w13.heap.size w13 Y.drew := bY.drew
   have sY : Y.heap.size = w13.heap.size + 1 := by rw [hY]; exact size_alloc _ _
   have fY := hG.keep HG13.out bYd
   have lY := HL13.out.below bY
   have zY0 := lY.c0
   have zY2 := lY.c2
   have zY3 := lY.c3
   have zY4 := lY.c4
   have belX : Below N0 w w13 := BEL13.out
   have kepX : Kept (fun k => K k ∧ k ≠ r ∧ k ≠ t) w w13 := KEP13.out
   have bNY : Below N0 w Y.drew := belX.trans (bYd.mono (by have := belX.size; omega))
   have happ := RAppend_G (kind := kind) (seq := g.nx) (l := l) (c := c) hG fY HSH.out (m : Int) 1 hkk hsq hBl (HCX.out _ bNY) (by rw [← HN.out]; exact hc) (by rw [← HN.out]; omega) hdd
   rw [← HN.out] at happ
   have HAPP := Lib.hid happ
   have LY := Aside0.mk lY
   have QY := Lib.hid qY
   have BY := Aside0.mk bY
   have HY := Lib.hid hY
   have hwx : IntKind.u64.wrap g.nx = g.nx := IntWalk.u64_in _ (by omega)
   have hwk : IntKind.i64.wrap (1 + (kk : Int)) = 1 + (kk : Int) := IntWalk.i64_in _ (by omega)
   have BX := Aside0.mk belX
   have KX := Lib.hid kepX
   have nq1 : ¬ w13.heap.size = r := by have := blt HL13.out.blk; omega
   have nq2 : ¬ r = w13.heap.size := fun e => nq1 e.symm
   have nq3 : ¬ w.heap.size = r := by have := HLT.out r hr; omega
   have nq4 : ¬ r = w.heap.size := fun e => nq3 e.symm
   have nq5 : ¬ w13.heap.size = w.heap.size := by have := blt X813.out; omega
   have nq6 : ¬ w.heap.size = w13.heap.size := fun e => nq5 e.symm
   clear qY bY bYd fY lY belX kepX bNY happ hY y2_ y3_ hHeld
   go_wp2_with fail
   refine wp_region_held_drew (S := (fun w' => w'.cell? ⟨r, 0, none⟩ = some (.pointer (some ⟨x, 0, none⟩)) ∧ w'.cell? ⟨r, 2, none⟩ = some (.int .i64 (m : Int)) ∧ w'.cell? ⟨r, 3, none⟩ = some (.int .i64 1) ∧ w'.cell? ⟨r, 4, none⟩ = some (.int .u64 (g.nx + 1)))) (by kernel_rfl) ?_ (fun hHeld => ?_)
   ·first | exact ⟨zY0, zY2, zY3, zY4⟩ | exact ⟨s0, s2, s3, s4⟩
   first | refine tkY 0 ?_ | refine tkN 0 ?_
   try simp only [Act.put, tk1, tk2, tk3]
   first | refine tkY 1 ?_ | refine tkN 1 ?_
   try simp only [Act.put, tk1, tk2, tk3]
   first | refine tkY 2 ?_ | refine tkN 2 ?_
   try simp only [Act.put, tk1, tk2, tk3]
   first | refine tkY 3 ?_ | refine tkN 3 ?_
   try simp only [Act.put, tk1, tk2, tk3]
   first | refine tkY 4 ?_ | refine tkN 4 ?_
   try simp only [Act.put, tk1, tk2, tk3]
   first | refine tkY 5 ?_ | refine tkN 5 ?_
   try simp only [Act.put, tk1, tk2, tk3]
   first | refine tkY 6 ?_ | refine tkN 6 ?_
   try simp only [Act.put, tk1, tk2, tk3]
   first | refine tkY 7 ?_ | refine tkN 7 ?_
   try simp only [Act.put, tk1, tk2, tk3]
   first | refine tkY 8 ?_ | refine tkN 8 ?_
   try simp only [Act.put, tk1, tk2, tk3]
   first | refine tkY 9 ?_ | refine tkN 9 ?_
   try simp only [Act.put, tk1, tk2, tk3]
   first | refine tkY 10 ?_ | refine tkN 10 ?_
   try simp only [Act.put, tk1, tk2, tk3]
   first | refine tkY 11 ?_ | refine tkN 11 ?_
   try simp only [Act.put, tk1, tk2, tk3]
   first | refine tkY 12 ?_ | refine tkN 12 ?_
   try simp only [Act.put, tk1, tk2, tk3]
   first | refine tkY 13 ?_ | refine tkN 13 ?_
   try simp only [Act.put, tk1, tk2, tk3]
   first | refine tkY 14 ?_ | refine tkN 14 ?_
   try simp only [Act.put, tk1, tk2, tk3]
   first | refine tkY 15 ?_ | refine tkN 15 ?_
   try simp only [Act.put, tk1, tk2, tk3]
   first | refine tkY 16 ?_ | refine tkN 16 ?_
   try simp only [Act.put, tk1, tk2, tk3]
   first | refine tkY 17 ?_ | refine tkN 17 ?_
   try simp only [Act.put, tk1, tk2, tk3]
   first | refine tkY 18 ?_ | refine tkN 18 ?_
   try simp only [Act.put, tk1, tk2, tk3]
   refine wpAnyH_ready (rs := [19]) (by kernel_rfl) (by simp) ?_
   refine AllReadyH.cons (by (simp only [List.getElem?_toArray, List.getElem?_cons_succ, List.getElem?_cons_zero]; rfl)) (fun K hK => ?_) AllReadyH.nil
   go_simp
   (go_at_call 96; (with_reducible refine HAPP.out.mono ?_); rintro e w10 ⟨rfl, hf10, hb10, hk10⟩; have hl10 : RLog r t x cap rest { st := g8.st.set m 1, op := (m : Int), pg := 1, nx := g.nx + 1 } w10 := LY.out.step (hk10 r (.inl (.inl hr))) (hk10 t (.inl (.inl ht))); have s0 := hl10.c0; have s2 := hl10.c2; have s3 := hl10.c3; have s4 := hl10.c4; have fr3 := hl10.fr 3; have x8 := (hk10 w.heap.size (.inl (.inr ⟨Nat.le_refl _, by omega⟩))).trans ((BY.out.block _ (blt X813.out)).trans X813.out); have x12 := (hk10 w13.heap.size (.inr ⟨Nat.le_refl _, by show _ < Y.heap.size; omega⟩)).trans QY.out; have m0 : w10.cell? ⟨w.heap.size, 0, none⟩ = some (.int .i64 0) := bcell x8 0; have m1 : w10.cell? ⟨w.heap.size, 1, none⟩ = some (.int .i64 0) := bcell x8 1; have mf : ∀ j, w10.frozen? ⟨w.heap.size, j, none⟩ = false := (fun j => bfrozen x8 j); have t0 : w10.cell? ⟨w13.heap.size, 0, none⟩ = some (.int .i64 (m : Int)) := bcell x12 0; have t1 : w10.cell? ⟨w13.heap.size, 1, none⟩ = some (.int .i64 1) := bcell x12 1; have HL10 := Aside0.mk hl10; have X810 := Lib.hid x8; have HG10 := Aside0.mk hf10; have HB10 := Aside0.mk (BX.out.trans ((show Below N0 w13 Y.drew from (BY.out.drew).mono (by have := BX.out.size; omega)).trans hb10)); have HKR := Lib.hid hk10; clear hl10 hf10 hb10 hk10 x8 x12)
   (try dsimp only)
   refine hK.out _ _ ?_ (fun hHeld => ?_)
   ·first | exact ⟨zY0, zY2, zY3, zY4⟩ | exact ⟨s0, s2, s3, s4⟩
   clear hK K
   try simp only [Act.put, tk1, tk2, tk3]
   refine wpAnyH_done (by kernel_rfl) ?_ _
   go_wp2_with fail
   have HK10 := Lib.hid (show Kept (fun k => K k ∧ k ≠ r ∧ k ≠ t) w w10 from fun k hk => (HKR.out k (.inl (.inl hk.1))).trans ((BY.out.block k (by have := HLT.out k hk.1; have := BX.out.size; omega)).trans (KX.out k hk)))
   have hl11 := HL10.out.setPg (1 + (kk : Int))
   have hu11 := Upd.setCell w10 (p := ⟨r, 3, none⟩) (S := fun k => k = r) rfl (.int .i64 (1 + (kk : Int)))
   have hf11 := hSt _ _ w10 _ r _ _ _ HG10.out (.inl (.inl hr)) HL10.out.blk hl11.blk (by decide) hu11
   have s10' := hG.size HG10.out
   have hb11 := HB10.out.trans (hu11.below s10' (fun k hk => by rw [hk]; exact hNr))
   have x811 := (hu11.block w.heap.size (blt X810.out) (fun e => nq3 e)).trans X810.out
   have hk11 : Kept (fun k => K k ∧ k ≠ r ∧ k ≠ t) w (w10.setCell ⟨r, 3, none⟩ (.int .i64 (1 + (kk : Int)))) := fun k hk => (hu11.block k (hG.lt HG10.out k (.inl (.inl hk.1))) hk.2.1).trans (HK10.out k hk)
   obtain ⟨w9, hw9⟩ : ∃ w9, w9 = ((w10.setCell ⟨r, 3, none⟩ (.int .i64 (1 + (kk : Int)))).setCell ⟨w.heap.size, 0, none⟩ (.int .i64 (m : Int))).setCell ⟨w.heap.size, 1, none⟩ (.int .i64 1) := ⟨_, rfl⟩
   rw [← hw9]
   obtain ⟨r8, hf9, hl9, hb9, hk9⟩ := rput_end hG hSt hf11 hl11 hr ht HLT.out hsz (Nat.le_refl _) x811 (.inl (.inr ⟨Nat.le_refl _, by omega⟩)) (fun k hk => .inl (.inl hk)) hb11 hk11 hw9
   have r0 := bcell r8 0
   have r1 := bcell r8 1
   exact bodyPost_ret (v := .tuple #[.agg #[.int .i64 (m : Int), .int .i64 1], .int .i64 0]) (by simp [results, Tryz.results54, go_sem, r0, r1]) rfl ⟨rfl, hf9, by rw [← HKP.out, ← HG8E.out]; exact hl9, hb9, hk9⟩
end
end Go.Proofs.YtmbiebdcnadhkaaGreat.Fl
namespace Go.Proofs.YtmbiebdcnadhkaaGreat.Fl
open Go.RowKit Go.Proofs.YtmbiebdcnadhkaaGreatW.PrintWords Go.Proofs.YtmbiebdcnadhkaaGreatW.PrintMore Go.Maps
section
variable {N0 p q : Nat} {F : (Nat → Prop) → PD → World → Prop} {K : Nat → Prop} {D D2 : PD} {g g2 : LG} {w : World} {v : Value} {kind er : Int} {at_ : Adr}
set_option maxHeartbeats 1000000 in
set_option maxRecDepth 100000 in
theorem LAppend_F (hF : DevFrame N0 p F) (hSt : ∀ D, Stays (fun K w => F K D w)) (h : F K D w) (hl : LogIs q p g w) (hq : K q)
  (hput : ∀ (K2 : Nat → Prop) (X : World), (∀ k, K k → K2 k) → F K2 D X → LogIs q p g X → Below w.heap.size w X → Calls Tryz.prog 45 #[.pointer (some ⟨q, 0, none⟩), .int .u8 kind, v, .int .i64 2] X (PutPost N0 q p F K2 X at_ er D2 g2)) :
  Calls Tryz.prog 7 #[.pointer (some ⟨q, 0, none⟩), .int .u8 kind, v] w (PutPost N0 q p F K w at_ er D2 g2) := by
 have hsz := hF.size h
 have hlt := fun k hk => hF.lt h k hk
 obtain ⟨W, hW⟩ : ∃ W, W = w.alloc (.cells #[.int .i64 0, .int .i64 0] TA) := ⟨_, rfl⟩
 have q6 : W.heap[w.heap.size]? = some (.cells #[.int .i64 0, .int .i64 0] TA (0, 0)) := by rw [hW]; exact blk_new _ _
 have wb : Below w.heap.size w W := by rw [hW]; exact below_alloc (Below.refl _ _) _
 have wsz : W.heap.size = w.heap.size + 1 := by rw [hW, size_alloc]
 have hpu := hput _ W (fun k hk => .inl hk) (hF.keep h wb) (hl.below wb) wb
 have HPU := Lib.hid hpu
 have HW := Lib.hid hW
 have Q6 := Lib.hid q6
 have WB := Aside0.mk wb
 have HLT := Lib.hid hlt
 clear hput hpu hW q6 wb hlt h hl
 go_enter Tryz.func7, Tryz.ntmps7
 go_wp2_with (first
  | (rw [← HW.out])
  | (go_at_call 45; (with_reducible refine HPU.out.mono ?_); rintro e w1 ⟨rfl, hf, hl, hb, hk⟩; have x6 := (hk w.heap.size ⟨.inr ⟨Nat.le_refl _, by omega⟩, (by have := HLT.out q hq; omega)⟩).trans Q6.out; have z0 : w1.cell? ⟨w.heap.size, 0, none⟩ = some (.int .i64 0) := bcell x6 0; have z1 : w1.cell? ⟨w.heap.size, 1, none⟩ = some (.int .i64 0) := bcell x6 1; have zf : ∀ j, w1.frozen? ⟨w.heap.size, j, none⟩ = false := (fun j => bfrozen x6 j); have X6 := Lib.hid x6; have HF1 := Aside0.mk hf; have HL1 := Aside0.mk hl; have HB1 := Aside0.mk hb; have HK1 := Lib.hid hk; clear hf hl hb hk x6)
  | fail)
 obtain ⟨w9, hw9⟩ : ∃ w9, w9 = (w1.setCell ⟨w.heap.size, 0, none⟩ (.int .i64 at_.1)).setCell ⟨w.heap.size, 1, none⟩ (.int .i64 at_.2) := ⟨_, rfl⟩
 rw [← hw9]
 obtain ⟨r8, hf9, hl9, hb9, hk9⟩ := put_end hF hSt HF1.out HL1.out hq HLT.out hsz (Nat.le_refl _) X6.out (.inr ⟨Nat.le_refl _, by omega⟩) (fun k hk => .inl hk) ((WB.out.mono hsz).trans HB1.out) (fun k hk => (HK1.out k ⟨.inl hk.1, hk.2⟩).trans (WB.out.block k (HLT.out k hk.1))) hw9
 have r0 := bcell r8 0
 have r1 := bcell r8 1
 exact bodyPost_ret (v := .tuple #[.agg #[.int .i64 at_.1, .int .i64 at_.2], .int .i64 er]) (by simp [results, Tryz.results7, go_sem, r0, r1]) rfl ⟨rfl, hf9, hl9, hb9, hk9⟩
set_option maxHeartbeats 1000000 in
set_option maxRecDepth 100000 in
theorem LMove_F (hF : DevFrame N0 p F) (hSt : ∀ D, Stays (fun K w => F K D w)) (h : F K D w) (hl : LogIs q p g w) (hq : K q)
  (hput : ∀ (K2 : Nat → Prop) (X : World), (∀ k, K k → K2 k) → F K2 D X → LogIs q p g X → Below w.heap.size w X → Calls Tryz.prog 45 #[.pointer (some ⟨q, 0, none⟩), .int .u8 kind, v, .int .i64 1] X (PutPost N0 q p F K2 X at_ er D2 g2)) :
  Calls Tryz.prog 8 #[.pointer (some ⟨q, 0, none⟩), .int .u8 kind, v] w (PutPost N0 q p F K w at_ er D2 g2) := by
 have hsz := hF.size h
 have hlt := fun k hk => hF.lt h k hk
 obtain ⟨W, hW⟩ : ∃ W, W = w.alloc (.cells #[.int .i64 0, .int .i64 0] TA) := ⟨_, rfl⟩
 have q6 : W.heap[w.heap.size]? = some (.cells #[.int .i64 0, .int .i64 0] TA (0, 0)) := by rw [hW]; exact blk_new _ _
 have wb : Below w.heap.size w W := by rw [hW]; exact below_alloc (Below.refl _ _) _
 have wsz : W.heap.size = w.heap.size + 1 := by rw [hW, size_alloc]
 have hpu := hput _ W (fun k hk => .inl hk) (hF.keep h wb) (hl.below wb) wb
 have HPU := Lib.hid hpu
 have HW := Lib.hid hW
 have Q6 := Lib.hid q6
 have WB := Aside0.mk wb
 have HLT := Lib.hid hlt
 clear hput hpu hW q6 wb hlt h hl
 go_enter Tryz.func8, Tryz.ntmps8
 go_wp2_with (first
  | (rw [← HW.out])
  | (go_at_call 45; (with_reducible refine HPU.out.mono ?_); rintro e w1 ⟨rfl, hf, hl, hb, hk⟩; have x6 := (hk w.heap.size ⟨.inr ⟨Nat.le_refl _, by omega⟩, (by have := HLT.out q hq; omega)⟩).trans Q6.out; have z0 : w1.cell? ⟨w.heap.size, 0, none⟩ = some (.int .i64 0) := bcell x6 0; have z1 : w1.cell? ⟨w.heap.size, 1, none⟩ = some (.int .i64 0) := bcell x6 1; have zf : ∀ j, w1.frozen? ⟨w.heap.size, j, none⟩ = false := (fun j => bfrozen x6 j); have X6 := Lib.hid x6; have HF1 := Aside0.mk hf; have HL1 := Aside0.mk hl; have HB1 := Aside0.mk hb; have HK1 := Lib.hid hk; clear hf hl hb hk x6)
  | fail)
 obtain ⟨w9, hw9⟩ : ∃ w9, w9 = (w1.setCell ⟨w.heap.size, 0, none⟩ (.int .i64 at_.1)).setCell ⟨w.heap.size, 1, none⟩ (.int .i64 at_.2) := ⟨_, rfl⟩
 rw [← hw9]
 obtain ⟨r8, hf9, hl9, hb9, hk9⟩ := put_end hF hSt HF1.out HL1.out hq HLT.out hsz (Nat.le_refl _) X6.out (.inr ⟨Nat.le_refl _, by omega⟩) (fun k hk => .inl hk) ((WB.out.mono hsz).trans HB1.out) (fun k hk => (HK1.out k ⟨.inl hk.1, hk.2⟩).trans (WB.out.block k (HLT.out k hk.1))) hw9
 have r0 := bcell r8 0
 have r1 := bcell r8 1
 exact bodyPost_ret (v := .tuple #[.agg #[.int .i64 at_.1, .int .i64 at_.2], .int .i64 er]) (by simp [results, Tryz.results8, go_sem, r0, r1]) rfl ⟨rfl, hf9, hl9, hb9, hk9⟩
end
end Go.Proofs.YtmbiebdcnadhkaaGreat.Fl
namespace Go.Proofs.YtmbiebdcnadhkaaGreat.Fl
open Go.RowKit Go.Proofs.YtmbiebdcnadhkaaGreatW.PrintWords Go.Proofs.YtmbiebdcnadhkaaGreatW.PrintMore Go.Maps
structure SDeed where
 kd : Int
 wh : Int
 l : List Int
 sg : Int
structure SDeedOk (r : SDeed) : Prop where
 kd : KindOk r.wh
 byt : Byt r.l
structure SCell (w : World) (ad : Addr) (i : Nat) (r : SDeed) (A : Option Addr) (c : Nat) : Prop where
 c0 : w.cell? (ad.add (i * 4)) = some (.int .i64 r.kd)
 c1 : w.cell? ⟨(ad.add (i * 4)).block, (ad.add (i * 4)).off + 1, none⟩ = some (.int .u8 r.wh)
 c2 : w.cell? ⟨(ad.add (i * 4)).block, (ad.add (i * 4)).off + 2, none⟩ = some (.slice A r.l.length c)
 c3 : w.cell? ⟨(ad.add (i * 4)).block, (ad.add (i * 4)).off + 3, none⟩ = some (.int .i64 r.sg)
 row : kB.C w A r.l.length r.l
 cap : r.l.length ≤ c
def LRow (w : World) (A : Option Addr) (rs : List SDeed) : Prop := ∀ (i : Nat) (r : SDeed), rs[i]? = some r → ∃ ad A1 c1, A = some ad ∧ SCell w ad i r A1 c1
theorem SCell.below {w w' : World} {ad : Addr} {i : Nat} {r : SDeed} {A : Option Addr} {c : Nat} (h : SCell w ad i r A c) (hb : Below w.heap.size w w') : SCell w' ad i r A c :=
 have f : ∀ {a : Addr} {v : Value}, w.cell? a = some v → w'.cell? a = some v := fun h => (hb.cell (blt_of_cell h)).trans h
 ⟨f h.c0, f h.c1, f h.c2, f h.c3, Kd.C_below h.row hb, h.cap⟩
theorem LRow.below {w w' : World} {A : Option Addr} {rs : List SDeed} (h : LRow w A rs) (hb : Below w.heap.size w w') : LRow w' A rs := fun i d hi => by
 obtain ⟨ad, A1, c1, h1, h2⟩ := h i d hi
 exact ⟨ad, A1, c1, h1, h2.below hb⟩
def fewS (rs : List SDeed) : Bool := rs.all (fun r => decide (r.l.length ≤ 400)) && decide (rs.length ≤ 60)
theorem fewS_ok {rs : List SDeed} (h : fewS rs = true) : rs.length ≤ 60 ∧ ∀ r ∈ rs, r.l.length ≤ 400 := by
 unfold fewS at h
 simp at h
 exact ⟨h.2, h.1⟩
theorem allS_take_succ {q : SDeed → Bool} {rs : List SDeed} {k : Nat} {r : SDeed} (h : rs[k]? = some r) : (rs.take (k + 1)).all q = ((rs.take k).all q && q r) := by
 rw [List.take_add_one, h, List.all_append]
 simp
set_option maxHeartbeats 2000000 in
set_option maxRecDepth 100000 in
theorem Few15_any {w : World} {A : Option Addr} {c : Nat} {rs : List SDeed} (hr : LRow w A rs) (h0 : rs.length ≤ 9223372036854775807) :
  Calls Tryz.prog 20 #[.slice A rs.length c] w fun e w' => e = .returned (.bool (fewS rs)) ∧ Below w.heap.size w w' := by
 obtain ⟨n, hn⟩ : ∃ n, n = rs.length := ⟨_, rfl⟩
 have HR := Lib.hid hr
 have HN := Lib.hid hn
 rw [← hn] at h0
 rw [← hn]
 clear hr hn
 go_enter Tryz.func20, Tryz.ntmps20
 go_wp2
 go_loopw [4, 7] (fun v4 v7 wr => ∃ k : Nat, k ≤ n ∧ v7 = .int .i64 (k : Int) ∧ Below w.heap.size w wr ∧ (rs.take k).all (fun r => decide (r.l.length ≤ 400)) = true) (fun _ v7 _ => n - (intOf v7).toNat)
 case atStart => exact ⟨0, Nat.zero_le _, rfl, Below.refl _ _, rfl⟩
 case round =>
  obtain ⟨k, hk, rfl, hb, ht⟩ := hrel
  have HB := Aside0.mk hb
  have HT := Lib.hid ht
  clear hb ht
  by_cases hlt : k < n
  ·obtain ⟨r, hd⟩ : ∃ r, rs[k]? = some r := ⟨_, List.getElem?_eq_getElem (by have := HN.out; omega)⟩
   obtain ⟨ad, A1, c1, hA, hc⟩ := HR.out k r hd
   have hc := hc.below HB.out
   subst hA
   have d0 := hc.c0; have d1 := hc.c1; have d2 := hc.c2; have d3 := hc.c3
   have HD := Lib.hid hd
   have k0 : (0 : Int) ≤ (k : Int) := by omega
   have k2 : (k : Int) < (n : Int) := by omega
   clear hd hc
   obtain ⟨ra, rb, dl, rk⟩ := r
   simp only at d0 d1 d2 d3
   by_cases hg : dl.length ≤ 400
   ·have e1 : decide (400 < (dl.length : Int)) = false := by simp; omega
    go_wp2
    refine ⟨⟨k + 1, by omega, by go_num, below_alloc HB.out _, ?_⟩, by simp [intOf]; omega⟩
    rw [allS_take_succ HD.out, HT.out]
    simpa using hg
   ·have e1 : decide (400 < (dl.length : Int)) = true := by simp; omega
    go_wp2
    go_ret
    refine ⟨?_, below_alloc HB.out _⟩
    have : fewS rs = false := by
     unfold fewS
     rw [List.all_eq_false.2 ⟨_, List.mem_of_getElem? HD.out, by simpa using hg⟩]
     rfl
    rw [this]
    rfl
  ·obtain rfl : k = n := by omega
   have ha : fewS rs = decide ((k : Int) ≤ 60) := by
    have h := HT.out
    rw [List.take_of_length_le (by have := HN.out; omega)] at h
    unfold fewS
    rw [h, ← HN.out]
    simp only [Bool.true_and, decide_eq_decide]
    omega
   have HA := Lib.hid ha
   clear ha
   go_wp2
   go_ret
   exact ⟨by rw [HA.out]; rfl, HB.out⟩
end Go.Proofs.YtmbiebdcnadhkaaGreat.Fl
namespace Go.Proofs.YtmbiebdcnadhkaaGreat.Opens
open Go.ChangeShapes Go.WideShapes Go.ChangeAt Go.RowKit Go.Joins Go.Deep Go.Proofs.YtmbiebdcnadhkaaGreatW.PrintWords
section
variable {H : Type} {enc : TypeId × Value → H} {P : Program} {w : World} {base : Nat} {spare : Nat → Bool} {held : Bool}
theorem cell_ints {t e : TypeId} {k : IntKind} {fuel : Nat} {u : Value} {x : DataW H × List MemPlace} (ht : P.underlying t = some (.slice e)) (he : P.underlying e = some (.int k)) (hC : P.cellsOf e = 1)
  (h : DataW.trod enc P w base spare held fuel t [u] = some x) :
  ∃ (A : Option Addr) (c : Nat) (l : List Int), [u] = [Value.slice A l.length c] ∧ Kd.C (Kd.int k) w A l.length l ∧ l.length ≤ c ∧ l.length ≤ maxLen ∧ (∀ n ∈ l, (Lit.int k n).wf = true) := by
 rcases open_ints ht he hC h with ⟨hcs, _⟩ | ⟨a, len, cap, zs, hcs, _, hl, hm, hz, _, hcell, hwz⟩
 ·refine ⟨none, 0, [], hcs, ?_, Nat.le_refl _, Nat.zero_le _, fun n hn => by cases hn⟩
  exact Kd.C_of_reads (d := (0 : Int)) (h1 := fun _ => rfl) ⟨rfl, by simp, fun h => absurd h (by simp)⟩
 ·have hlz : len ≤ zs.length := by
   rw [hz]
   split
   ·exact hl
   ·exact Nat.le_refl _
  have e : (zs.take len).length = len := by rw [List.length_take]; omega
  refine ⟨some a, cap, zs.take len, by rw [e]; exact hcs, ?_, by omega, by rw [e]; omega, fun n hn => hwz n (List.mem_of_mem_take hn)⟩
  refine Kd.C_of_reads (d := (0 : Int)) (h1 := fun _ => rfl) ⟨rfl, by rw [e]; unfold maxLen at hm; omega, fun _ => ⟨a, rfl, fun j hj => ?_⟩⟩
  rw [e] at hj
  rw [hcell j (by omega)]
  simp [List.getD_eq_getElem?_getD, hj]
end
end Go.Proofs.YtmbiebdcnadhkaaGreat.Opens
