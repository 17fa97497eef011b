/- The parts of this proof, one after the other (wip/tools/packfl.py). -/
import Derived.Test.YtmbiebdcnadhkaaPkScanAnyD
/- Records put one behind the other, and what is read of them behind a crash. No program in sight. -/
namespace Go.Proofs.Ytmbiebdcnadhkaa.Fl
set_option linter.unusedSimpArgs false
set_option linter.unusedVariables false
theorem Holds.move {D E : PD} (hs : E.s = D.s) {a q kd sq : Int} {l : List Int} (h : Holds D a q kd sq l) (hg : ∀ d, q ≤ d → d < q + (kpg D.s l.length : Int) → gotD E a d = gotD D a d) : Holds E a q kd sq l := by
  refine ⟨h.ok, by rw [hs]; exact h.has, by rw [hs]; exact h.room, fun i hi => ?_⟩
  rw [hs] at hi ⊢
  rw [hg _ (by omega) (by omega)]
  exact h.got i hi
theorem Chain.le {D : PD} {c sq : Int} : ∀ {rs : List (Int × List Int)} {q e : Int}, Chain D c sq q rs e → q ≤ e
  | [], _, _, h => Int.le_of_eq h
  | r :: rs, q, e, h => by have := Chain.le h.2.2; omega
theorem Chain.move {D E : PD} (hs : E.s = D.s) {a sq : Int} : ∀ {rs : List (Int × List Int)} {q e : Int}, Chain D a sq q rs e → (∀ d, q ≤ d → d < e → gotD E a d = gotD D a d) → Chain E a sq q rs e
  | [], _, _, h, _ => h
  | r :: rs, q, e, ⟨h1, h2, h3⟩, hg => by
    have hle := Chain.le h3
    refine ⟨h1.move hs (fun d h4 h5 => hg d h4 (by omega)), h2, ?_⟩
    rw [hs]
    exact Chain.move hs h3 (fun d h4 h5 => hg d (by omega) h5)
/-! ### The crash -/
section
variable {D : PD} {P : PlanT}
end
end Go.Proofs.Ytmbiebdcnadhkaa.Fl

/- The records wanted, as a slice of one's own beside a device: the frame of SegmentCrash. -/
namespace Go.Proofs.Ytmbiebdcnadhkaa.Fl
open Go.RowKit Go.Proofs.YtmbiebdcnadhkaaW.PrintWords Go.Proofs.YtmbiebdcnadhkaaW.PrintMore Go.Maps
set_option linter.unusedSimpArgs false
set_option linter.unusedVariables false
abbrev RecV := RecT × Option Addr × Nat
section
variable {N0 p : Nat} {K : Nat → Prop} {D : PD} {w w1 : World} {v v1 : Value} {want : List RecV}
end
end Go.Proofs.Ytmbiebdcnadhkaa.Fl

/- What holds in SegmentCrash's loop. -/
namespace Go.Proofs.Ytmbiebdcnadhkaa.Fl
open Go.RowKit Go.Proofs.YtmbiebdcnadhkaaW.PrintWords Go.Proofs.YtmbiebdcnadhkaaW.PrintMore Go.Maps
set_option linter.unusedSimpArgs false
set_option linter.unusedVariables false
section
variable {w w4 : World} {p : Nat} {s : Int × Int × Int} {k : Nat} {pg : Int} {v12 v13 : Value} {wr w7 : World} {D : PD} {ps : List Pg} {want : List RecV}
end
theorem kpg_zero {s : Int × Int × Int} (hs : ShapeOk s) : kpg s 0 = 1 := by
  obtain ⟨c, hc⟩ := Int.eq_ofNat_of_zero_le (show 0 ≤ s.2.2 by have := hs.c0; omega)
  have h0 := hs.c0
  unfold kpg
  rw [hc] at h0 ⊢
  simp only [Int.toNat_natCast]
  rw [show 0 + 16 + c - 1 = c + 15 by omega, Nat.add_div_left _ (by omega), Nat.div_eq_of_lt (by omega)]
end Go.Proofs.Ytmbiebdcnadhkaa.Fl

/- The driver's log: its cells; its small questions walked. -/
namespace Go.Proofs.Ytmbiebdcnadhkaa.Fl
open Go.RowKit Go.Proofs.YtmbiebdcnadhkaaW.PrintWords Go.Proofs.YtmbiebdcnadhkaaW.PrintMore Go.Maps
set_option linter.unusedSimpArgs false
set_option linter.unusedVariables false
/-- A log: its device, the states of 16 segments, the opened one, its next page, the next number. -/
structure LG where
  st : List Int
  op : Int
  pg : Int
  nx : Int
abbrev TL : TypeId := 129
def logC (p : Nat) (g : LG) : List Value := .pointer (some ⟨p, 0, none⟩) :: (g.st.map (fun x => Value.int .i64 x) ++ [.int .i64 g.op, .int .i64 g.pg, .int .u64 g.nx])
structure LogIs (q p : Nat) (g : LG) (w : World) : Prop where
  len : g.st.length = 16
  blk : w.heap[q]? = some (.cells (logC p g).toArray TL (0, 0))
section
variable {q p : Nat} {g : LG} {w w' : World}
theorem LogIs.below (h : LogIs q p g w) (hb : Below w.heap.size w w') : LogIs q p g w' := ⟨h.len, (hb.block _ (blt h.blk)).trans h.blk⟩
theorem LogIs.c0 (h : LogIs q p g w) : w.cell? ⟨q, 0, none⟩ = some (.pointer (some ⟨p, 0, none⟩)) := by rw [bcell h.blk]; rfl
theorem LogIs.cst (h : LogIs q p g w) {i : Nat} {x : Int} (hx : g.st[i]? = some x) : w.cell? ⟨q, 1 + i, none⟩ = some (.int .i64 x) := by
  rw [Nat.add_comm 1 i]
  have hl := (List.getElem?_eq_some_iff.1 hx).1
  rw [bcell h.blk]
  simp only [logC, List.getElem?_toArray, List.getElem?_cons_succ]
  rw [List.getElem?_append_left (by simpa using hl), List.getElem?_map, hx]
  rfl
theorem LogIs.c17 (h : LogIs q p g w) : w.cell? ⟨q, 17, none⟩ = some (.int .i64 g.op) := by
  rw [bcell h.blk]
  simp only [logC, List.getElem?_toArray, List.getElem?_cons_succ]
  rw [List.getElem?_append_right (by simp [h.len])]
  simp [h.len]
theorem LogIs.c18 (h : LogIs q p g w) : w.cell? ⟨q, 18, none⟩ = some (.int .i64 g.pg) := by
  rw [bcell h.blk]
  simp only [logC, List.getElem?_toArray, List.getElem?_cons_succ]
  rw [List.getElem?_append_right (by simp [h.len])]
  simp [h.len]
theorem LogIs.c19 (h : LogIs q p g w) : w.cell? ⟨q, 19, none⟩ = some (.int .u64 g.nx) := by
  rw [bcell h.blk]
  simp only [logC, List.getElem?_toArray, List.getElem?_cons_succ]
  rw [List.getElem?_append_right (by simp [h.len])]
  simp [h.len]
set_option maxHeartbeats 1000000 in
set_option maxRecDepth 100000 in
theorem Lok_any (h : LogIs q p g w) : Calls Try.prog 75 #[.pointer (some ⟨q, 0, none⟩)] w fun e w' => e = .returned (.bool true) ∧ w = w' := by
  have k0 := h.c0
  clear h
  go_enter Try.func75, Try.ntmps75
  go_wp2
  go_ret
  exact ⟨rfl, rfl⟩
end
end Go.Proofs.Ytmbiebdcnadhkaa.Fl

/- The driver's log: Open, has, State, Count walked. -/
namespace Go.Proofs.Ytmbiebdcnadhkaa.Fl
open Go.RowKit Go.Proofs.YtmbiebdcnadhkaaW.PrintWords Go.Proofs.YtmbiebdcnadhkaaW.PrintMore Go.Maps
set_option linter.unusedSimpArgs false
set_option linter.unusedVariables false
def openV (g : LG) : Int × Int := if g.op < 0 then (-1, 0) else (g.op, g.pg)
section
variable {q p N0 : Nat} {g : LG} {w w' : World} {D : PD} {ok : Nat → Prop}
set_option maxHeartbeats 1000000 in
set_option maxRecDepth 100000 in
theorem LOpen_any (h : LogIs q p g w) : Calls Try.prog 27 #[.pointer (some ⟨q, 0, none⟩)] w fun e w' => e = .returned (.tuple #[.int .i64 (openV g).1, .int .i64 (openV g).2]) ∧ Below w.heap.size w w' := by
  have k0 := h.c17
  have k1 := h.c18
  have HO := Lib.hid (Lok_any h)
  clear h
  by_cases h0 : g.op < 0
  · have hv : openV g = (-1, 0) := if_pos h0
    have e1 : decide (g.op < 0) = true := decide_eq_true h0
    rw [hv]
    clear hv
    go_enter Try.func27, Try.ntmps27
    go_wp2_with (go_at_call 75; (with_reducible refine HO.out.mono ?_); rintro e w1 ⟨rfl, rfl⟩)
    go_ret2
    exact ⟨rfl, Below.refl _ _⟩
  · have hv : openV g = (g.op, g.pg) := if_neg h0
    have e1 : decide (g.op < 0) = false := decide_eq_false h0
    rw [hv]
    clear hv
    go_enter Try.func27, Try.ntmps27
    go_wp2_with (go_at_call 75; (with_reducible refine HO.out.mono ?_); rintro e w1 ⟨rfl, rfl⟩)
    go_region_held3 (fun w' => w'.cell? ⟨q, 17, none⟩ = some (.int .i64 g.op) ∧ w'.cell? ⟨q, 18, none⟩ = some (.int .i64 g.pg)) (go_keep) (fail)
    go_wp2
    go_ret2
    exact ⟨rfl, below_drew (Below.refl _ _)⟩
set_option maxHeartbeats 1000000 in
set_option maxRecDepth 100000 in
theorem Lhas_any (h : LogIs q p g w) (hD : DevIs N0 p D ok w) (a : Int) : Calls Try.prog 79 #[.pointer (some ⟨q, 0, none⟩), .int .i64 a] w fun e w' => e = .returned (.bool (fitsB a 0 (D.s.1 - 1))) ∧ Below w.heap.size w w' := by
  have hs : ShapeOk D.s := by
    obtain ⟨m, v, es, ck, hD⟩ := hD
    exact hD.shape
  have k0 := h.c0
  have HO := Lib.hid (Lok_any h)
  have HS := Lib.hid (Shape_any hD)
  have rs := fun (X : World) => run_shape1 X D.s.1 D.s.2.1 D.s.2.2
  have a0 := hs.a0
  have a1 := hs.a1
  have hw : IntKind.i64.wrap (D.s.1 - 1) = D.s.1 - 1 := IntWalk.i64_in _ (by omega)
  clear h hs hD
  go_enter Try.func79, Try.ntmps79
  go_wp2_with (first
    | (go_at_call 75; (with_reducible refine HO.out.mono ?_); rintro e w1 ⟨rfl, rfl⟩)
    | (go_at_call 56; (with_reducible refine HS.out.mono ?_); rintro e w2 ⟨rfl, hb⟩; have HB := Aside0.mk hb; clear hb)
    | (go_at_call 59; (with_reducible refine (Fits_any _ _ _ _).mono ?_); rintro e w3 ⟨rfl, rfl⟩))
  go_ret
  exact ⟨rfl, HB.out⟩
end
end Go.Proofs.Ytmbiebdcnadhkaa.Fl

/- The driver's log: Count, Seal walked. -/
namespace Go.Proofs.Ytmbiebdcnadhkaa.Fl
open Go.RowKit Go.Proofs.YtmbiebdcnadhkaaW.PrintWords Go.Proofs.YtmbiebdcnadhkaaW.PrintMore Go.Maps
set_option linter.unusedSimpArgs false
set_option linter.unusedVariables false
/-- How many of a list are so. -/
def cnt (a : Int) (l : List Int) : Nat := (l.filter (fun x => x == a)).length
theorem cnt_le (a : Int) (l : List Int) : cnt a l ≤ l.length := List.length_filter_le _ _
theorem cnt_take {a : Int} {l : List Int} {k : Nat} {x : Int} (h : l[k]? = some x) : cnt a (l.take (k + 1)) = cnt a (l.take k) + if x = a then 1 else 0 := by
  unfold cnt
  rw [List.take_add_one, h, Option.toList_some, List.filter_append, List.length_append]
  by_cases hx : x = a
  · simp [hx]
  · simp [hx]
section
variable {q p N0 : Nat} {g : LG} {w w' : World} {D : PD} {ok : Nat → Prop}
set_option maxHeartbeats 1000000 in
set_option maxRecDepth 100000 in
theorem LCount_any (h : LogIs q p g w) (hD : DevIs N0 p D ok w) (a : Int) : Calls Try.prog 31 #[.pointer (some ⟨q, 0, none⟩), .int .i64 a] w fun e w' => e = .returned (.int .i64 (cnt a (g.st.take D.s.1.toNat) : Int)) ∧ Below w.heap.size w w' := by
  have hs : ShapeOk D.s := by
    obtain ⟨m, v, es, ck, hD⟩ := hD
    exact hD.shape
  have a0 := hs.a0
  have a1 := hs.a1
  obtain ⟨n, hn⟩ := Int.eq_ofNat_of_zero_le (show 0 ≤ D.s.1 by omega)
  have hh := fun (X : World) (hb : Below w.heap.size w X) (y : Int) => Lhas_any (h.below hb) (hD.below hb) y
  have hc := fun (X : World) (hb : Below w.heap.size w X) (i : Nat) (x : Int) (hx : g.st[i]? = some x) => (h.below hb).cst hx
  have hlen := h.len
  rw [hn] at hh a0 a1 ⊢
  rw [Int.toNat_natCast]
  have HH := Lib.hid hh
  have HC := Lib.hid hc
  clear hh hc h hD hs hn
  go_enter Try.func31, Try.ntmps31
  go_wp2
  go_loopw [5, 6] (fun v5 v6 wr => ∃ k : Nat, k ≤ n ∧ v6 = .int .i64 (k : Int) ∧ v5 = .int .i64 (cnt a (g.st.take k) : Int) ∧ Below w.heap.size w wr) (fun _ v6 _ => n - (intOf v6).toNat)
  case atStart => exact ⟨0, Nat.zero_le _, rfl, rfl, Below.refl _ _⟩
  case round =>
    obtain ⟨k, hk, rfl, rfl, hb⟩ := hrel
    have HB := Aside0.mk hb
    clear hb
    have hcl := cnt_le a (g.st.take k)
    rw [List.length_take] at hcl
    by_cases hlt : k < n
    · have hf : fitsB (k : Int) 0 ((n : Int) - 1) = true := by unfold fitsB; rw [decide_eq_true_iff]; omega
      have HF := Lib.hid hf
      obtain ⟨x, hx⟩ : ∃ x, g.st[k]? = some x := ⟨_, List.getElem?_eq_getElem (by omega)⟩
      have hct := cnt_take (a := a) hx
      have HX := Lib.hid hx
      have HCT := Lib.hid hct
      have k0 : (0 : Int) ≤ (k : Int) := by omega
      have k1 : (k : Int) < 16 := by omega
      obtain ⟨cv, hcv⟩ : ∃ cv, cv = cnt a (g.st.take k) := ⟨_, rfl⟩
      rw [← hcv] at hcl ⊢
      have HCV := Lib.hid hcv
      clear hf hx hct hcv
      by_cases hxa : x = a
      · have e1 : (x == a) = true := by simpa using hxa
        have hxa2 := Lib.hid hxa
        clear hxa
        go_wp2_with (go_at_call 79; (with_reducible refine (HH.out _ HB.out _).mono ?_); rw [HF.out]; rintro e w1 ⟨rfl, hb⟩; have kc := HC.out _ (HB.out.trans (hb.mono HB.out.size)) k x HX.out; have HB1 := Aside0.mk (HB.out.trans (hb.mono HB.out.size)); clear hb)
        exact ⟨⟨k + 1, by omega, by go_num, by rw [HCT.out, if_pos hxa2.out, HCV.out]; push_cast; rfl, HB1.out⟩, by simp [intOf]; omega⟩
      · have e1 : (x == a) = false := by simpa using hxa
        have hxa2 := Lib.hid hxa
        clear hxa
        go_wp2_with (go_at_call 79; (with_reducible refine (HH.out _ HB.out _).mono ?_); rw [HF.out]; rintro e w1 ⟨rfl, hb⟩; have kc := HC.out _ (HB.out.trans (hb.mono HB.out.size)) k x HX.out; have HB1 := Aside0.mk (HB.out.trans (hb.mono HB.out.size)); clear hb)
        exact ⟨⟨k + 1, by omega, by go_num, by rw [HCT.out, if_neg hxa2.out, HCV.out]; rfl, HB1.out⟩, by simp [intOf]; omega⟩
    · obtain rfl : k = n := by omega
      have hf : fitsB (k : Int) 0 ((k : Int) - 1) = false := by unfold fitsB; rw [decide_eq_false_iff_not]; omega
      have HF := Lib.hid hf
      clear hf
      go_wp2_with (go_at_call 79; (with_reducible refine (HH.out _ HB.out _).mono ?_); rw [HF.out]; rintro e w1 ⟨rfl, hb⟩; have HB1 := Aside0.mk (HB.out.trans (hb.mono HB.out.size)); clear hb)
      go_ret
      exact ⟨rfl, HB1.out⟩
end
end Go.Proofs.Ytmbiebdcnadhkaa.Fl

/- The driver's log: what is written into it; Seal walked. -/
namespace Go.Proofs.Ytmbiebdcnadhkaa.Fl
open Go.RowKit Go.Proofs.YtmbiebdcnadhkaaW.PrintWords Go.Proofs.YtmbiebdcnadhkaaW.PrintMore Go.Maps
set_option linter.unusedSimpArgs false
set_option linter.unusedVariables false
section
variable {q p N0 : Nat} {g : LG} {w w' : World} {D : PD} {ok : Nat → Prop}
theorem LogIs.frozen (h : LogIs q p g w) (j : Nat) : w.frozen? ⟨q, j, none⟩ = false := bfrozen h.blk _
theorem setCell_blk {o : Array Value} {T : TypeId} (h : w.heap[q]? = some (.cells o T (0, 0))) (j : Nat) (v : Value) : (w.setCell ⟨q, j, none⟩ v).heap[q]? = some (.cells (o.setIfInBounds j v) T (0, 0)) := by
  simp [World.setCell, Array.getElem?_modify, h]
theorem LogIs.setSt (h : LogIs q p g w) {i : Nat} (hi : i < 16) (x : Int) : LogIs q p { g with st := g.st.set i x } (w.setCell ⟨q, 1 + i, none⟩ (.int .i64 x)) := by
  refine ⟨by simp [h.len], (setCell_blk h.blk _ _).trans ?_⟩
  congr 2
  simp only [List.setIfInBounds_toArray]
  congr 1
  rw [Nat.add_comm 1 i]
  simp only [logC, List.set_cons_succ]
  rw [List.set_append_left _ _ (by simp [h.len]; omega), ← List.map_set]
theorem LogIs.setOp (h : LogIs q p g w) (x : Int) : LogIs q p { g with op := x } (w.setCell ⟨q, 17, none⟩ (.int .i64 x)) := by
  refine ⟨h.len, (setCell_blk h.blk _ _).trans ?_⟩
  congr 2
  simp only [List.setIfInBounds_toArray]
  congr 1
  simp only [logC, List.set_cons_succ]
  rw [List.set_append_right _ _ (by simp [h.len])]
  simp [h.len]
theorem LogIs.setPg (h : LogIs q p g w) (x : Int) : LogIs q p { g with pg := x } (w.setCell ⟨q, 18, none⟩ (.int .i64 x)) := by
  refine ⟨h.len, (setCell_blk h.blk _ _).trans ?_⟩
  congr 2
  simp only [List.setIfInBounds_toArray]
  congr 1
  simp only [logC, List.set_cons_succ]
  rw [List.set_append_right _ _ (by simp [h.len])]
  simp [h.len]
theorem LogIs.setNx (h : LogIs q p g w) (x : Int) : LogIs q p { g with nx := x } (w.setCell ⟨q, 19, none⟩ (.int .u64 x)) := by
  refine ⟨h.len, (setCell_blk h.blk _ _).trans ?_⟩
  congr 2
  simp only [List.setIfInBounds_toArray]
  congr 1
  simp only [logC, List.set_cons_succ]
  rw [List.set_append_right _ _ (by simp [h.len])]
  simp [h.len]
def sealG (g : LG) : LG := if g.op < 0 then g else { st := g.st.set g.op.toNat 2, op := -1, pg := 0, nx := g.nx }
theorem seal_post {w3 : World} (h : LogIs q p g w') {n : Nat} (hn : n < 16) (hop : g.op = (n : Int)) (hu : Upd (fun k => k = q) w w') (he : w3 = ((w'.setCell ⟨q, 1 + n, none⟩ (.int .i64 2)).setCell ⟨q, 17, none⟩ (.int .i64 (-1))).setCell ⟨q, 18, none⟩ (.int .i64 0)) :
    LogIs q p (sealG g) w3 ∧ Upd (fun k => k = q) w w3 := by
  subst he
  have h3 := ((h.setSt hn 2).setOp (-1)).setPg 0
  have hs : sealG g = { st := g.st.set n 2, op := -1, pg := 0, nx := g.nx } := by
    unfold sealG
    rw [if_neg (by omega), hop, Int.toNat_natCast]
  rw [hs]
  refine ⟨h3, hu.trans (((Upd.setCell w' (p := ⟨q, 1 + n, none⟩) (S := fun k => k = q) rfl (.int .i64 2)).trans (Upd.setCell _ (p := ⟨q, 17, none⟩) (S := fun k => k = q) rfl (.int .i64 (-1))) (fun k hk _ => hk)).trans (Upd.setCell _ (p := ⟨q, 18, none⟩) (S := fun k => k = q) rfl (.int .i64 0)) (fun k hk _ => hk)) (fun k hk _ => hk)⟩
set_option maxHeartbeats 1000000 in
set_option maxRecDepth 100000 in
theorem LSeal_any (h : LogIs q p g w) (ho : g.op < 16) : Calls Try.prog 72 #[.pointer (some ⟨q, 0, none⟩)] w fun e w' => e = .returned (.tuple #[]) ∧ LogIs q p (sealG g) w' ∧ Upd (fun k => k = q) w w' := by
  have hop := LOpen_any h
  by_cases h0 : g.op < 0
  · have hv : openV g = (-1, 0) := if_pos h0
    have hs : sealG g = g := if_pos h0
    rw [hv] at hop
    rw [hs]
    have HO := Lib.hid hop
    have HL := Aside0.mk h
    clear h hop hv hs
    go_enter Try.func72, Try.ntmps72
    go_wp2_with (go_at_call 27; (with_reducible refine HO.out.mono ?_); rintro e w1 ⟨rfl, hb⟩; have HB := Aside0.mk hb; clear hb)
    go_end0
    exact ⟨rfl, HL.out.below HB.out, Upd.ofBelow HB.out _⟩
  · have hv : openV g = (g.op, g.pg) := if_neg h0
    obtain ⟨n, hn⟩ := Int.eq_ofNat_of_zero_le (show 0 ≤ g.op by omega)
    have hn16 : n < 16 := by omega
    rw [hv, hn] at hop
    simp only at hop
    have hlen := h.len
    obtain ⟨x, hx⟩ : ∃ x, g.st[n]? = some x := ⟨_, List.getElem?_eq_getElem (by omega)⟩
    have hc := fun (X : World) (hb : Below w.heap.size w X) => (show X.cell? ⟨q, 1 + n, none⟩ = some (.int .i64 x) ∧ X.cell? ⟨q, 17, none⟩ = some (.int .i64 g.op) ∧ X.cell? ⟨q, 18, none⟩ = some (.int .i64 g.pg) ∧ X.frozen? ⟨q, 1 + n, none⟩ = false ∧ X.frozen? ⟨q, 17, none⟩ = false ∧ X.frozen? ⟨q, 18, none⟩ = false from ⟨(h.below hb).cst hx, (h.below hb).c17, (h.below hb).c18, (h.below hb).frozen _, (h.below hb).frozen _, (h.below hb).frozen _⟩)
    have HO := Lib.hid hop
    have HL := Aside0.mk h
    have HC := Lib.hid hc
    have HOP := Lib.hid hn
    have n0 : (0 : Int) ≤ (n : Int) := by omega
    have n1 : (n : Int) < 16 := by omega
    have n2 : ¬ 1 + n = 17 := by omega
    have n3 : ¬ 1 + n = 18 := by omega
    have n4 : ¬ 17 = 1 + n := by omega
    have n5 : ¬ 18 = 1 + n := by omega
    clear h hop hv hn hlen hx hc h0 ho
    go_enter Try.func72, Try.ntmps72
    go_wp2_with (go_at_call 27; (with_reducible refine HO.out.mono ?_); rintro e w1 ⟨rfl, hb⟩; have HB := Aside0.mk hb; obtain ⟨t0, t1, t2, f0, f1, f2⟩ := HC.out _ hb; clear hb)
    go_end0
    exact ⟨rfl, seal_post (HL.out.below HB.out) (by omega) HOP.out (Upd.ofBelow HB.out _) rfl⟩
end
end Go.Proofs.Ytmbiebdcnadhkaa.Fl

/- seglog.fresh walked. -/
namespace Go.Proofs.Ytmbiebdcnadhkaa.Fl
open Go.RowKit Go.Proofs.YtmbiebdcnadhkaaW.PrintWords Go.Proofs.YtmbiebdcnadhkaaW.PrintMore Go.Maps
set_option linter.unusedSimpArgs false
set_option linter.unusedVariables false
def newG (nx : Int) : LG := ⟨List.replicate 16 0, -1, 0, nx⟩
section
variable {q p N0 : Nat} {g : LG} {w w' : World} {D : PD} {ok : Nat → Prop}
set_option maxHeartbeats 1000000 in
set_option maxRecDepth 100000 in
theorem fresh_any (hD : DevIs N0 p D ok w) (h4 : 4 ≤ D.s.1) (nx : Int) : Calls Try.prog 65 #[.pointer (some ⟨p, 0, none⟩), .int .u64 nx] w fun e w' => ∃ q, e = .returned (.tuple #[.pointer (some ⟨q, 0, none⟩), .int .i64 0]) ∧ w.heap.size ≤ q ∧ LogIs q p (newG nx) w' ∧ Below w.heap.size w w' := by
  have HS := Lib.hid (Shape_any hD)
  have rs := fun (X : World) => run_shape1 X D.s.1 D.s.2.1 D.s.2.2
  have e1 : (D.s.1 == 0) = false := by simp; omega
  have e2 : decide (D.s.1 < 4) = false := by simp; omega
  clear hD
  go_enter Try.func65, Try.ntmps65
  go_wp2_with (go_at_call 56; (with_reducible refine HS.out.mono ?_); rintro e w2 ⟨rfl, hb⟩; have HB := Aside0.mk hb; clear hb)
  go_ret2
  exact ⟨_, rfl, HB.out.size, ⟨by simp [newG], blk_new _ _⟩, below_alloc HB.out _⟩
end
end Go.Proofs.Ytmbiebdcnadhkaa.Fl

/- seglog.New walked. -/
namespace Go.Proofs.Ytmbiebdcnadhkaa.Fl
open Go.RowKit Go.Proofs.YtmbiebdcnadhkaaW.PrintWords Go.Proofs.YtmbiebdcnadhkaaW.PrintMore Go.Maps
set_option linter.unusedSimpArgs false
set_option linter.unusedVariables false
theorem delTo_nil (a : Int) : ∀ k, delTo a k [] = []
  | 0 => rfl
  | k + 1 => by unfold delTo; rw [delTo_nil a k]; rfl
theorem erased_nil (s : Int × Int × Int) (a : Int) : erasedD ⟨s, [], []⟩ a = ⟨s, [], []⟩ := by
  unfold erasedD
  split
  · unfold eraseD
    simp [delTo_nil, keepF]
  · rfl
section
variable {q p N0 : Nat} {K : Nat → Prop} {g : LG} {w w' : World} {s : Int × Int × Int}
set_option maxHeartbeats 1000000 in
set_option maxRecDepth 100000 in
theorem LNew_any (h : Solo N0 p K ⟨s, [], []⟩ w) (hs : ShapeOk s) (h4 : 4 ≤ s.1) : Calls Try.prog 25 #[.pointer (some ⟨p, 0, none⟩)] w fun e w' => ∃ q, e = .returned (.tuple #[.pointer (some ⟨q, 0, none⟩), .int .i64 0]) ∧ Solo N0 p (fun k => K k ∨ k = q) ⟨s, [], []⟩ w' ∧ LogIs q p (newG 1) w' ∧ Below N0 w w' ∧ Kept K w w' ∧ w.heap.size ≤ q := by
  obtain ⟨ok, hD⟩ := (solo_frame _ _).dev h
  have HF := Lib.hid (fresh_any hD h4 1)
  have HSOLO := Aside0.mk h
  have hsh := fun (X : World) (K' : Nat → Prop) (h' : Solo N0 p K' ⟨s, [], []⟩ X) => (show Calls Try.prog 56 #[.pointer (some ⟨p, 0, none⟩)] X fun e w' => e = .returned (.agg #[.int .i64 s.1, .int .i64 s.2.1, .int .i64 s.2.2]) ∧ Below X.heap.size X w' from by
    obtain ⟨ok, hD⟩ := (solo_frame _ _).dev h'
    exact Shape_any hD)
  have her := fun (X : World) (K' : Nat → Prop) (h' : Solo N0 p K' ⟨s, [], []⟩ X) (a : Int) => (solo_frame N0 p).upd h' (fun ok hD => Erase_any hD a (by simp))
  simp only [erased_nil] at her
  have HSH := Lib.hid hsh
  have HER := Lib.hid her
  have a0 := hs.a0
  have a1 := hs.a1
  have rs := fun (X : World) => run_shape1 X s.1 s.2.1 s.2.2
  clear hD hsh her h hs
  go_enter Try.func25, Try.ntmps25
  go_wp2_with (first
    | (go_at_call 65; (with_reducible refine HF.out.mono ?_); rintro e w1 ⟨q, rfl, hq, hl, hb⟩; have HL1 := Aside0.mk hl; have HB1 := Aside0.mk hb; have hlt := blt hl.blk; have HS1 := Aside0.mk ((solo_frame _ _).less ((solo_frame _ _).keep HSOLO.out hb) (K' := fun k => K k ∨ k = q) (fun k hk => hk.elim .inl (fun e => .inr ⟨by rw [e]; exact hq, by rw [e]; exact hlt⟩))); clear hl hb)
    | (go_at_call 56; (with_reducible refine (HSH.out _ _ HS1.out).mono ?_); rintro e w2 ⟨rfl, hb⟩; have HL2 := Aside0.mk (HL1.out.below hb); have HS2 := Aside0.mk ((solo_frame _ _).below HS1.out hb); have HB2 := Aside0.mk (HB1.out.trans (hb.mono HB1.out.size)); clear hb))
  have hN := (solo_frame _ _).size HSOLO.out
  go_loopw [18] (fun v18 wr => ∃ k : Nat, (k : Int) ≤ s.1 ∧ v18 = .int .i64 (k : Int) ∧ Solo N0 p (fun k => K k ∨ k = q) ⟨s, [], []⟩ wr ∧ LogIs q p (newG 1) wr ∧ Below N0 w wr ∧ Kept K w wr) (fun v18 _ => (s.1 - intOf v18).toNat)
  case atStart => exact ⟨0, by omega, rfl, HS2.out, HL2.out, ⟨HB2.out.os, HB2.out.tape, HB2.out.output, HB2.out.size, fun k hk => HB2.out.block k (by omega)⟩, fun k hk => HB2.out.block k ((solo_frame _ _).lt HSOLO.out k hk)⟩
  case round =>
    obtain ⟨k, hk, rfl, hS, hl, hb, hkp⟩ := hrel
    have HS := Aside0.mk hS
    have HL := Aside0.mk hl
    have HB := Aside0.mk hb
    have HKP := Lib.hid hkp
    clear hS hl hb hkp
    by_cases hlt2 : (k : Int) < s.1
    · go_wp2_with (go_at_call 66; (with_reducible refine (HER.out _ _ HS.out _).mono ?_); rintro e w3 ⟨rfl, hS, hb, hkp⟩; have HS3 := Aside0.mk hS; have HB3 := Aside0.mk (HB.out.trans hb); have HL3 := Aside0.mk (show LogIs q p (newG 1) w3 from ⟨HL.out.len, (hkp q (.inr rfl)).trans HL.out.blk⟩); have HKP3 := Lib.hid (show Kept K w w3 from fun j hj => (hkp j (.inl hj)).trans (HKP.out j hj)); clear hS hb hkp)
      exact ⟨⟨k + 1, by omega, by go_num, HS3.out, HL3.out, HB3.out, HKP3.out⟩, by simp [intOf]; omega⟩
    · go_wp2
      go_ret2
      exact ⟨_, rfl, HS.out, HL.out, HB.out, HKP.out, hq⟩
end
end Go.Proofs.Ytmbiebdcnadhkaa.Fl

/- slices.Index over a log's states; Erase's answer: walked. -/
namespace Go.Proofs.Ytmbiebdcnadhkaa.Fl
open Go.RowKit Go.Proofs.YtmbiebdcnadhkaaW.PrintWords Go.Proofs.YtmbiebdcnadhkaaW.PrintMore Go.Maps
set_option linter.unusedSimpArgs false
set_option linter.unusedVariables false
/-- Where the first such one is. -/
def FirstAt (l : List Int) (a r : Int) : Prop := (r = -1 ∧ ∀ i, i < l.length → l[i]? ≠ some a) ∨ ∃ n : Nat, r = (n : Int) ∧ n < l.length ∧ l[n]? = some a ∧ ∀ i, i < n → l[i]? ≠ some a
def IndexPost (l : List Int) (a : Int) (w : World) (e : Ending) (w' : World) : Prop := ∃ r, e = .returned (.int .i64 r) ∧ FirstAt l a r ∧ w = w'
section
variable {q p N0 : Nat} {g : LG} {w w' : World}
set_option maxHeartbeats 1000000 in
set_option maxRecDepth 100000 in
theorem LIndex_any (h : LogIs q p g w) (a : Int) : Calls Try.prog 112 #[.slice (some ⟨q, 1, none⟩) 16 16, .int .i64 a] w (IndexPost g.st a w) := by
  have hlen := h.len
  have hc := fun (i : Nat) (x : Int) (hx : g.st[i]? = some x) => h.cst hx
  have HC := Lib.hid hc
  clear hc h
  go_enter Try.func112, Try.ntmps112
  go_wp2
  go_loopw [5, 8] (fun v5 v8 wr => ∃ k : Nat, k ≤ 16 ∧ v8 = .int .i64 (k : Int) ∧ (∀ i, i < k → g.st[i]? ≠ some a) ∧ w = wr) (fun _ v8 _ => 16 - (intOf v8).toNat)
  case atStart => exact ⟨0, Nat.zero_le _, rfl, fun i hi => by omega, rfl⟩
  case round =>
    obtain ⟨k, hk, rfl, hn, rfl⟩ := hrel
    have HN := Lib.hid hn
    clear hn
    by_cases hlt : k < 16
    · obtain ⟨x, hx⟩ : ∃ x, g.st[k]? = some x := ⟨_, List.getElem?_eq_getElem (by omega)⟩
      have kc := HC.out k x hx
      have HX := Lib.hid hx
      have k0 : (0 : Int) ≤ (k : Int) := by omega
      have k1 : (k : Int) < 16 := by omega
      clear hx
      by_cases hxa : a = x
      · have e1 : (a == x) = true := by simpa using hxa
        have HXA := Lib.hid hxa
        clear hxa
        go_wp2
        go_ret
        exact ⟨_, rfl, .inr ⟨k, rfl, by omega, by rw [HX.out, HXA.out], HN.out⟩, rfl⟩
      · have e1 : (a == x) = false := by simpa using hxa
        have HXA := Lib.hid hxa
        clear hxa
        go_wp2
        refine ⟨⟨k + 1, by omega, by go_num, ?_⟩, by simp [intOf]; omega⟩
        refine (show (∀ i, i < k + 1 → g.st[i]? ≠ some a) ∧ True from ⟨fun i hi => ?_, trivial⟩)
        by_cases hik : i = k
        · rw [hik, HX.out]
          exact fun he => HXA.out (Option.some.inj he).symm
        · exact HN.out i (by omega)
    · obtain rfl : k = 16 := by omega
      go_wp2
      go_ret
      exact ⟨_, rfl, .inl ⟨rfl, fun i hi => HN.out i (by omega)⟩, rfl⟩
end
end Go.Proofs.Ytmbiebdcnadhkaa.Fl

/- A store into a block beside the devices leaves them. -/
namespace Go.Proofs.Ytmbiebdcnadhkaa.Fl
open Go.RowKit Go.Proofs.YtmbiebdcnadhkaaW.PrintWords Go.Proofs.YtmbiebdcnadhkaaW.PrintMore Go.Maps
set_option linter.unusedSimpArgs false
set_option linter.unusedVariables false
theorem not_byte {w : World} {q : Nat} {o : Array Value} {T : TypeId} (hb : w.heap[q]? = some (.cells o T (0, 0))) (hT : T ≠ TB) {cs : Array Value} {fr : Nat × Nat} : w.heap[q]? ≠ some (.cells cs TB fr) := fun h => by
  rw [hb] at h
  injection h with h
  injection h with _ h _
  exact hT h
end Go.Proofs.Ytmbiebdcnadhkaa.Fl

/- The driver's log: Sync and Erase over any frame: walked. -/
namespace Go.Proofs.Ytmbiebdcnadhkaa.Fl
open Go.RowKit Go.Proofs.YtmbiebdcnadhkaaW.PrintWords Go.Proofs.YtmbiebdcnadhkaaW.PrintMore Go.Maps
set_option linter.unusedSimpArgs false
set_option linter.unusedVariables false
section
variable {N0 p q : Nat} {F : (Nat → Prop) → PD → World → Prop} {K : Nat → Prop} {D : PD} {g : LG} {w : World}
theorem below_self {B : Nat} {w w' : World} (h : Below w.heap.size w w') (hB : B ≤ w.heap.size) : Below B w w' := ⟨h.os, h.tape, h.output, h.size, fun k hk => h.block k (by omega)⟩
end
end Go.Proofs.Ytmbiebdcnadhkaa.Fl

/- A change of one block beside the devices leaves them; Seal over any frame. -/
namespace Go.Proofs.Ytmbiebdcnadhkaa.Fl
open Go.RowKit Go.Proofs.YtmbiebdcnadhkaaW.PrintWords Go.Proofs.YtmbiebdcnadhkaaW.PrintMore Go.Maps
set_option linter.unusedSimpArgs false
set_option linter.unusedVariables false
/-- A change of a kept block that holds no bytes, before and after, leaves the frame. -/
def Stays (F : (Nat → Prop) → World → Prop) : Prop := ∀ (K : Nat → Prop) (w w' : World) (q : Nat) (o o' : Array Value) (T : TypeId), F K w → K q → w.heap[q]? = some (.cells o T (0, 0)) → w'.heap[q]? = some (.cells o' T (0, 0)) → T ≠ TB → Upd (fun k => k = q) w w' → F K w'
theorem solo_stays (N0 p : Nat) (D : PD) : Stays (fun K w => Solo N0 p K D w) := fun K w w' q o o' T h hq hb hb' hT hu => by
  obtain ⟨ok, hD, h1, h0, hK⟩ := h
  have hno : ¬ ok q := fun hok => (hK q hq).2.elim (fun h => h hok) (fun ⟨cs, fr, e⟩ => not_byte hb hT e)
  refine ⟨_, hD.bound.step (fun k hk hlt => hu.block k hlt (fun e => hno (by rw [← e]; exact hk.1))), fun k hk => h1 k hk.1, Nat.le_trans h0 hu.size, fun k hk => ⟨Nat.lt_of_lt_of_le (hK k hk).1 hu.size, (hK k hk).2.imp (fun h2 h => h2 h.1) (fun ⟨cs, fr, e⟩ => ⟨cs, fr, (hu.block k (hK k hk).1 (fun e2 => by rw [e2] at e; exact not_byte hb hT e)).trans e⟩)⟩⟩
section
variable {N0 p q : Nat} {F : (Nat → Prop) → PD → World → Prop} {K : Nat → Prop} {D : PD} {g : LG} {w : World}
theorem LSeal_F (hSt : ∀ D, Stays (fun K w => F K D w)) (h : F K D w) (hl : LogIs q p g w) (hq : K q) (hN : N0 ≤ q) (hN2 : N0 ≤ w.heap.size) (hlt : ∀ k, K k → k < w.heap.size) (ho : g.op < 16) : Calls Try.prog 72 #[.pointer (some ⟨q, 0, none⟩)] w fun e w' => e = .returned (.tuple #[]) ∧ F K D w' ∧ LogIs q p (sealG g) w' ∧ Below N0 w w' ∧ Kept (fun k => K k ∧ k ≠ q) w w' :=
  (LSeal_any hl ho).mono fun e w' ⟨h1, h2, h3⟩ => ⟨h1, hSt D K w w' q _ _ _ h hq hl.blk h2.blk (by decide) h3, h2, h3.below hN2 (fun k hk => by rw [hk]; exact hN), fun k hk => h3.block k (hlt k hk.1) hk.2⟩
end
end Go.Proofs.Ytmbiebdcnadhkaa.Fl

/- The driver's log: turn over any frame: walked. -/
namespace Go.Proofs.Ytmbiebdcnadhkaa.Fl
open Go.RowKit Go.Proofs.YtmbiebdcnadhkaaW.PrintWords Go.Proofs.YtmbiebdcnadhkaaW.PrintMore Go.Maps
set_option linter.unusedSimpArgs false
set_option linter.unusedVariables false
theorem sealG_nx (g : LG) : (sealG g).nx = g.nx := by unfold sealG; split <;> rfl
section
variable {N0 p q : Nat} {F : (Nat → Prop) → PD → World → Prop} {K : Nat → Prop} {D : PD} {g : LG} {w : World}
set_option maxHeartbeats 2000000 in
set_option maxRecDepth 100000 in
theorem LTurn_F (hF : DevFrame N0 p F) (hSt : ∀ D, Stays (fun K w => F K D w)) (h : F K D w) (hl : LogIs q p g w) (hq : K q) (hN : N0 ≤ q) (ho : g.op < 16) (hnx : SeqOk g.nx) (hnx2 : g.nx < 1000000) (hnx0 : 0 ≤ g.nx) (hd : D.dirty.length < 900000) {n : Nat} (hn : n < 16) (hfirst : ∀ r, FirstAt (sealG g).st 0 r → r = (n : Int)) :
    Calls Try.prog 123 #[.pointer (some ⟨q, 0, none⟩)] w fun e w' => e = .returned (.tuple #[]) ∧ F K (appD D (n : Int) 0 0 (rec 1 g.nx [])) w' ∧ LogIs q p ⟨(sealG g).st.set n 1, (n : Int), 1, g.nx + 1⟩ w' ∧ Below N0 w w' ∧ Kept (fun k => K k ∧ k ≠ q) w w' := by
  have hsh := hF.shape h
  have hse := LSeal_F hSt h hl hq hN (hF.size h) (fun k hk => hF.lt h k hk) ho
  obtain ⟨g1, hg1⟩ : ∃ g1, g1 = sealG g := ⟨_, rfl⟩
  have hgn : g1.nx = g.nx := by rw [hg1]; exact sealG_nx g
  rw [← hg1] at hse hfirst ⊢
  have HSE := Lib.hid hse
  have HFI := Lib.hid hfirst
  have HGN := Lib.hid hgn
  have HSHAPE := Lib.hid hsh
  clear hse hfirst hgn hg1 hsh h hl
  go_enter Try.func123, Try.ntmps123
  go_wp2_with (first
    | (go_at_call 72; (with_reducible refine HSE.out.mono ?_); rintro e w1 ⟨rfl, hf, hl, hb, hk⟩; have HF1 := Aside0.mk hf; have HL1 := Aside0.mk hl; have HB1 := Aside0.mk hb; have HK1 := Lib.hid hk; have k0 := hl.c0; have k19 := hl.c19; rw [HGN.out] at k19; clear hf hl hb hk)
    | (go_at_call 112; (with_reducible refine (LIndex_any HL1.out 0).mono ?_); rintro e w2 ⟨r, rfl, hr, rfl⟩; obtain rfl := HFI.out r hr; clear hr))
  have hst := fun (X : World) (hX : F K D X) => Start_F hF hX (n : Int) hnx hd
  have hl1d : LogIs q p g1 w1.drew := ⟨HL1.out.len, HL1.out.blk⟩
  have HST := Lib.hid hst
  have HD1 := Aside0.mk (hF.below HF1.out (below_drew (Below.refl _ w1)))
  obtain ⟨x, hx⟩ : ∃ x, g1.st[n]? = some x := ⟨_, List.getElem?_eq_getElem (by have := HL1.out.len; omega)⟩
  have HX := Lib.hid hx
  have HLD := Aside0.mk hl1d
  clear hst hl1d hx
  go_region_held3 (fun w' => w'.cell? ⟨q, 0, none⟩ = some (.pointer (some ⟨p, 0, none⟩)) ∧ w'.cell? ⟨q, 19, none⟩ = some (.int .u64 g.nx)) (first | go_keep | exact ⟨z0, z19⟩)
    (first | (go_at_call 12; (with_reducible refine (HST.out _ HD1.out).mono ?_); rintro e w3 ⟨rfl, hf, hb, hk⟩; have hl3 : LogIs q p g1 w3 := ⟨HL1.out.len, (hk q hq).trans HLD.out.blk⟩; have z0 := hl3.c0; have z19 := hl3.c19; rw [HGN.out] at z19; have HF3 := Aside0.mk hf; have HB3 := Aside0.mk ((⟨HB1.out.os, HB1.out.tape, HB1.out.output, HB1.out.size, HB1.out.block⟩ : Below N0 w w1.drew).trans hb); have HK3 := Lib.hid (show Kept (fun k => K k ∧ k ≠ q) w w3 from fun k h => (hk k h.1).trans (HK1.out k h)); have HL3 := Aside0.mk hl3; clear hf hb hk hl3))
  have t0 := HL3.out.cst HX.out
  have t1 := HL3.out.c17
  have t2 := HL3.out.c18
  have f0 := HL3.out.frozen (1 + n)
  have f1 := HL3.out.frozen 17
  have f2 := HL3.out.frozen 18
  have f3 := HL3.out.frozen 19
  have n0 : (0 : Int) ≤ (n : Int) := by omega
  have n1 : (n : Int) < 16 := by omega
  have n2 : ¬ 1 + n = 17 := by omega
  have n3 : ¬ 1 + n = 18 := by omega
  have n4 : ¬ 17 = 1 + n := by omega
  have n5 : ¬ 18 = 1 + n := by omega
  have n6 : ¬ 1 + n = 19 := by omega
  have n7 : ¬ 19 = 1 + n := by omega
  have n8 : ¬ 1 + n = 0 := by omega
  have n9 : ¬ 0 = 1 + n := by omega
  have hw : IntKind.u64.wrap (g.nx + 1) = g.nx + 1 := IntWalk.u64_in _ (by omega)
  go_wp2_with fail
  have hl4 := (HL3.out.setSt hn 1).setOp (n : Int)
  obtain ⟨w4, hw4⟩ : ∃ w4, w4 = (w3.setCell ⟨q, 1 + n, none⟩ (.int .i64 1)).setCell ⟨q, 17, none⟩ (.int .i64 (n : Int)) := ⟨_, rfl⟩
  rw [← hw4] at hl4 ⊢
  have hu4 : Upd (fun k => k = q) w3 w4 := by
    rw [hw4]
    exact (Upd.setCell w3 (p := ⟨q, 1 + n, none⟩) (S := fun k => k = q) rfl _).trans (Upd.setCell _ (p := ⟨q, 17, none⟩) (S := fun k => k = q) rfl _) (fun k hk _ => hk)
  have hf4 := hSt _ K w3 w4 q _ _ _ HF3.out hq HL3.out.blk hl4.blk (by decide) hu4
  obtain ⟨okd, hD4⟩ := hF.dev hf4
  have hsp : Calls Try.prog 56 #[.pointer (some ⟨p, 0, none⟩)] w4 fun e w' => e = .returned (.agg #[.int .i64 D.s.1, .int .i64 D.s.2.1, .int .i64 D.s.2.2]) ∧ Below w4.heap.size w4 w' := by
    have := Shape_any hD4
    rw [appD_s] at this
    exact this
  have hpg : ∀ X : World, Calls Try.prog 85 #[.int .i64 0, .int .i64 D.s.2.2] X fun e w' => e = .returned (.int .i64 1) ∧ Below X.heap.size X w' := fun X => by
    have := Pages_ok 0 D.s HSHAPE.out (by omega) X
    rw [kpg_zero HSHAPE.out] at this
    exact this
  have rs := fun (X : World) => run_shape3 X D.s.1 D.s.2.1 D.s.2.2
  have HSP := Lib.hid hsp
  have HPG := Lib.hid hpg
  have HF4 := Aside0.mk hf4
  have HL4 := Aside0.mk hl4
  have HU4 := Aside0.mk hu4
  clear hsp hpg hf4 hl4 hu4 hD4 hw4 t0 t1 t2 f0 f1 f2 f3 z0 z19 k0 k19
  go_wp2_with (first
    | (go_at_call 56; (with_reducible refine HSP.out.mono ?_); rintro e w5 ⟨rfl, hb⟩; have HB5 := Aside0.mk hb; clear hb)
    | (go_at_call 85; (with_reducible refine (HPG.out _).mono ?_); rintro e w6 ⟨rfl, hb⟩; have HB6 := Aside0.mk (HB5.out.trans (hb.mono HB5.out.size)); have hl6 := HL4.out.below HB6.out; have t2 := hl6.c18; have z19 := hl6.c19; simp only [HGN.out] at z19; have f2 := hl6.frozen 18; have f3 := hl6.frozen 19; have HL6 := Aside0.mk hl6; clear hb hl6))
  go_end0
  have h7 := (HL6.out.setPg 1).setNx (g.nx + 1)
  have hu7 : Upd (fun k => k = q) w6 ((w6.setCell ⟨q, 18, none⟩ (.int .i64 1)).setCell ⟨q, 19, none⟩ (.int .u64 (g.nx + 1))) := (Upd.setCell w6 (p := ⟨q, 18, none⟩) (S := fun k => k = q) rfl _).trans (Upd.setCell _ (p := ⟨q, 19, none⟩) (S := fun k => k = q) rfl _) (fun k hk _ => hk)
  have hf7 := hSt _ K w6 _ q _ _ _ (hF.below HF4.out HB6.out) hq HL6.out.blk h7.blk (by decide) hu7
  have hs3 := hF.size HF3.out
  have hs4 := hF.size HF4.out
  have b4 := HB3.out.trans (HU4.out.below hs3 (fun k hk => by rw [hk]; exact hN))
  have b6 := b4.trans (HB6.out.mono hs4)
  have b7 := b6.trans (hu7.below (Nat.le_trans hs4 HB6.out.size) (fun k hk => by rw [hk]; exact hN))
  refine ⟨rfl, hf7, h7, b7, fun k hk => ?_⟩
  have l3 := hF.lt HF3.out k hk.1
  have l4 := hF.lt HF4.out k hk.1
  exact (hu7.block k (Nat.lt_of_lt_of_le l4 HB6.out.size) hk.2).trans ((HB6.out.block k l4).trans ((HU4.out.block k l3 hk.2).trans (HK3.out k hk)))
end
end Go.Proofs.Ytmbiebdcnadhkaa.Fl

/- The closure of put: walked. -/
namespace Go.Proofs.Ytmbiebdcnadhkaa.Fl
open Go.RowKit Go.Proofs.YtmbiebdcnadhkaaW.PrintWords Go.Proofs.YtmbiebdcnadhkaaW.PrintMore Go.Maps
set_option linter.unusedSimpArgs false
set_option linter.unusedVariables false
section
variable {w : World} {sb db : Nat} {s : Int × Int × Int} {A : Option Addr} {c : Nat} {n : Nat}
set_option maxHeartbeats 1000000 in
set_option maxRecDepth 100000 in
theorem PutFits_any (hs : ShapeOk s) (h0 : w.cell? ⟨sb, 0, none⟩ = some (.int .i64 s.1)) (h1 : w.cell? ⟨sb, 1, none⟩ = some (.int .i64 s.2.1)) (h2 : w.cell? ⟨sb, 2, none⟩ = some (.int .i64 s.2.2)) (h3 : w.cell? ⟨db, 0, none⟩ = some (.slice A n c)) (hn : n ≤ 9223372036854775807) (pg : Int) :
    Calls Try.prog 122 #[.int .i64 pg, .pointer (some ⟨sb, 0, none⟩), .pointer (some ⟨db, 0, none⟩)] w fun e w' => e = .returned (.bool (fitsS s pg n)) ∧ Below w.heap.size w w' := by
  have HFT := Lib.hid (Fits_ok s hs pg n hn w)
  clear hs
  go_enter Try.func122, Try.ntmps122
  go_wp2_with (go_at_call 46; (with_reducible refine HFT.out.mono ?_); rintro e w1 ⟨rfl, hb⟩; have HB := Aside0.mk hb; clear hb)
  go_ret
  exact ⟨rfl, HB.out⟩
end
end Go.Proofs.Ytmbiebdcnadhkaa.Fl

/- The driver's log: put over any frame: walked. -/
namespace Go.Proofs.Ytmbiebdcnadhkaa.Fl
open Go.RowKit Go.Proofs.YtmbiebdcnadhkaaW.PrintWords Go.Proofs.YtmbiebdcnadhkaaW.PrintMore Go.Maps
set_option linter.unusedSimpArgs false
set_option linter.unusedVariables false
theorem size_alloc (w : World) (o : Obj) : (w.alloc o).heap.size = w.heap.size + 1 := by
  show (w.heap.push o).size = _
  rw [Array.size_push]
theorem pair_blk (w : World) (o o' : Obj) : ((w.alloc o).alloc o').heap[w.heap.size]? = some o ∧ ((w.alloc o).alloc o').heap[w.heap.size + 1]? = some o' := by
  have h1 := blk_new w o
  have h2 := blk_new (w.alloc o) o'
  have hs := size_alloc w o
  rw [hs] at h2
  exact ⟨((below_alloc (Below.refl _ _) _).block _ (by rw [hs]; omega)).trans h1, h2⟩
abbrev TBs : TypeId := 36
abbrev TSh : TypeId := 23
theorem putfits_clo : CloFn 122 := ⟨_, Try.func122, by kernel_rfl, rfl⟩
def PutPost (N0 q p : Nat) (F : (Nat → Prop) → PD → World → Prop) (K : Nat → Prop) (w : World) (at_ : Adr) (er : Int) (D : PD) (g : LG) (e : Ending) (w' : World) : Prop :=
  e = .returned (.tuple #[.agg #[.int .i64 at_.1, .int .i64 at_.2], .int .i64 er]) ∧ F K D w' ∧ LogIs q p g w' ∧ Below N0 w w' ∧ Kept (fun k => K k ∧ k ≠ q) w w'
section
variable {N0 p q : Nat} {F : (Nat → Prop) → PD → World → Prop} {K : Nat → Prop} {D : PD} {g : LG} {w : World} {A : Option Addr} {c : Nat} {l : List Int} {kind need : Int}
theorem put_end {K2 : Nat → Prop} {X w9 : World} {b : Nat} {a0 a1 v0 v1 : Value} {D2 : PD} {g2 : LG} (hF : DevFrame N0 p F) (hSt : ∀ D, Stays (fun K w => F K D w)) (hf : F K2 D2 X) (hl : LogIs q p g2 X) (hq : K q) (hlt : ∀ k, K k → k < w.heap.size) (hN : N0 ≤ w.heap.size) (hwb : w.heap.size ≤ b) (hb : X.heap[b]? = some (.cells #[a0, a1] TA (0, 0))) (hKb : K2 b) (hKK : ∀ k, K k → K2 k) (hbl : Below N0 w X) (hkp : Kept (fun k => K k ∧ k ≠ q) w X) (he : w9 = (X.setCell ⟨b, 0, none⟩ v0).setCell ⟨b, 1, none⟩ v1) :
    w9.heap[b]? = some (.cells #[v0, v1] TA (0, 0)) ∧ F K D2 w9 ∧ LogIs q p g2 w9 ∧ Below N0 w w9 ∧ Kept (fun k => K k ∧ k ≠ q) w w9 := by
  subst he
  have hne : q ≠ b := by have := hlt q hq; omega
  have hu : Upd (fun k => k = b) X ((X.setCell ⟨b, 0, none⟩ v0).setCell ⟨b, 1, none⟩ v1) := (Upd.setCell X (p := ⟨b, 0, none⟩) (S := fun k => k = b) rfl _).trans (Upd.setCell _ (p := ⟨b, 1, none⟩) (S := fun k => k = b) rfl _) (fun k hk _ => hk)
  have hb9 : ((X.setCell ⟨b, 0, none⟩ v0).setCell ⟨b, 1, none⟩ v1).heap[b]? = some (.cells #[v0, v1] TA (0, 0)) := setCell_blk (setCell_blk hb 0 v0) 1 v1
  refine ⟨hb9, hF.less (hSt D2 K2 X _ b _ _ _ hf hKb hb hb9 (by decide) hu) hKK, ⟨hl.len, (hu.block q (blt hl.blk) hne).trans hl.blk⟩, hbl.trans (hu.below (by have := hbl.size; omega) (fun k hk => by rw [hk]; omega)), fun k hk => (hu.block k (hF.lt hf k (hKK k hk.1)) (fun e => by have := hlt k hk.1; omega)).trans (hkp k hk)⟩
set_option maxHeartbeats 4000000 in
set_option maxRecDepth 100000 in
theorem LPut_turn0 (hF : DevFrame N0 p F) (hSt : ∀ D, Stays (fun K w => F K D w)) (h : F K D w) (hl : LogIs q p g w) (hq : K q) (hN : N0 ≤ q) (hC : kB.C w A l.length l) (hc : l.length ≤ c) (hm : l.length < 1000000) (hk : kind ≠ 1) (hv1 : fitsS D.s 1 l.length = true) (ho : g.op < 0) (hkk : KindOk kind) (hBl : Byt l) (hCx : ∀ X, Below N0 w X → Kept (fun k => K k ∧ k ≠ q) w X → kB.C X A l.length l) (hd0 : D.dirty.length < 900000) {m : Nat} (hdd : (appD D (m : Int) 0 0 (rec 1 g.nx [])).dirty.length < 900000) (ho16 : g.op < 16) (hsq : SeqOk g.nx) (hn1 : 0 ≤ g.nx) (hn2 : g.nx < 1000000) (hm16 : m < 16) (hfi : ∀ r, FirstAt (sealG g).st 0 r → r = (m : Int)) {k : Nat} (hp1 : (k : Int) < 900) (hap : appE (appD D (m : Int) 0 0 (rec 1 g.nx [])) (m : Int) 1 l.length = ((k : Int), 0)) (hcn : ¬ (cnt 0 (g.st.take D.s.1.toNat) : Int) < need) : Calls Try.prog 101 #[.pointer (some ⟨q, 0, none⟩), .int .u8 kind, .slice A l.length c, .int .i64 need] w (PutPost N0 q p F K w ((m : Int), 1) 0 (appD (appD D (m : Int) 0 0 (rec 1 g.nx [])) (m : Int) 1 l.length (rec kind g.nx l)) { st := (sealG g).st.set m 1, op := (m : Int), pg := 1 + (k : Int), nx := g.nx + 1 }) := by
  have hpg : ∀ X : World, Calls Try.prog 85 #[.int .i64 0, .int .i64 D.s.2.2] X fun e w' => e = .returned (.int .i64 1) ∧ Below X.heap.size X w' := fun X => by
    have := Pages_ok 0 D.s (hF.shape h) (by omega) X
    rw [kpg_zero (hF.shape h)] at this
    exact this
  have HPG := Lib.hid hpg
  have HKI := Lib.hid (show (kind == 1) = false by simpa using hk)
  have e_k := HKI.out
  have HV1 := Lib.hid hv1
  obtain ⟨c0, hc0⟩ : ∃ c0, c0 = cnt 0 (g.st.take D.s.1.toNat) := ⟨_, rfl⟩
  rw [← hc0] at hcn
  have HC0 := Lib.hid hc0
  clear hc0
  have HAP := Lib.hid hap
  have HCX := Lib.hid hCx
  have HFI := Lib.hid hfi
  clear hap hCx hfi
  obtain ⟨n, hn⟩ : ∃ n, n = l.length := ⟨_, rfl⟩
  have hsz := hF.size h
  have hlt := fun k hk => hF.lt h k hk
  obtain ⟨W, hW⟩ : ∃ W, W = (w.alloc (.cells #[.slice A n c] TBs)).alloc (.cells #[.int .i64 0, .int .i64 0] TA) := ⟨_, rfl⟩
  obtain ⟨q6, q8⟩ := pair_blk w (.cells #[.slice A n c] TBs) (.cells #[.int .i64 0, .int .i64 0] TA)
  rw [← hW] at q6 q8
  have wb : Below w.heap.size w W := by rw [hW]; exact below_alloc (below_alloc (Below.refl _ _) _) _
  have wsz : W.heap.size = w.heap.size + 2 := by rw [hW, size_alloc, size_alloc]
  have hf1 := hF.keep h wb
  have hl1 := hl.below wb
  obtain ⟨ok1, hD1⟩ := hF.dev hf1
  have hsh := hD1.sound.sh
  have HOK := Lib.hid (Lok_any hl1)
  have HSHP := Lib.hid (Shape_any hD1)
  have HF1 := Aside0.mk hf1
  have HL1 := Aside0.mk hl1
  have HW := Lib.hid hW
  have Q6 := Lib.hid q6
  have Q8 := Lib.hid q8
  have WB := Aside0.mk wb
  have HSH := Lib.hid hsh
  have HN := Lib.hid hn
  have HLT := Lib.hid hlt
  have k0 : W.cell? ⟨q, 0, none⟩ = some (.pointer (some ⟨p, 0, none⟩)) := hl1.c0
  rw [← hn] at hc hm
  rw [← hn]
  clear h hl hn hlt hf1 hl1 hD1 hsh hW q6 q8 wb hpg hv1 hk
  go_enter Try.func101, Try.ntmps101
  have e_c : decide ((c0 : Int) < need) = false := decide_eq_false hcn
  go_wp2_with (first
    | (rw [← HW.out])
    | (rw [← HW3.out])
    | (go_at_call 75; (with_reducible refine HOK.out.mono ?_); rintro e w1 ⟨rfl, rfl⟩)
    | (go_at_call 56; (with_reducible refine HSHP.out.mono ?_); rintro e w2 ⟨rfl, hb2⟩; obtain ⟨W3, hW3⟩ : ∃ W3, W3 = w2.alloc (.cells #[.int .i64 D.s.1, .int .i64 D.s.2.1, .int .i64 D.s.2.2] TSh) := ⟨_, rfl⟩; have q10 : W3.heap[w2.heap.size]? = some (.cells #[.int .i64 D.s.1, .int .i64 D.s.2.1, .int .i64 D.s.2.2] TSh (0, 0)) := (by rw [hW3]; exact blk_new _ _); have b23 : Below w2.heap.size w2 W3 := (by rw [hW3]; exact below_alloc (Below.refl _ _) _); have hbb := hb2.trans (b23.mono hb2.size); have HF3 := Aside0.mk (hF.keep (hF.below HF1.out hb2) b23); have HL3 := Aside0.mk (HL1.out.below hbb); have p6 := (hbb.block _ (blt Q6.out)).trans Q6.out; have p8 := (hbb.block _ (blt Q8.out)).trans Q8.out; have P6 := Lib.hid p6; have P8 := Lib.hid p8; have Q10 := Lib.hid q10; have BB := Aside0.mk hbb; have HW3 := Lib.hid hW3; have z0 : W3.cell? ⟨w.heap.size + 1, 0, none⟩ = some (.int .i64 0) := bcell p8 0; have z1 : W3.cell? ⟨w.heap.size + 1, 1, none⟩ = some (.int .i64 0) := bcell p8 1; have zf : ∀ j, W3.frozen? ⟨w.heap.size + 1, j, none⟩ = false := (fun j => bfrozen p8 j); have y2 : W3.cell? ⟨w2.heap.size, 2, none⟩ = some (.int .i64 D.s.2.2) := bcell q10 2; clear hb2 hW3 q10 b23 hbb p6 p8)
    | (go_at_call 85; (with_reducible refine (HPG.out _).mono ?_); rintro e w4 ⟨rfl, hb4⟩; have x6 := (hb4.block _ (blt P6.out)).trans P6.out; have x10 := (hb4.block _ (blt Q10.out)).trans Q10.out; have X6 := Lib.hid x6; have X10 := Lib.hid x10; have HB4 := Aside0.mk hb4; clear x6 x10 hb4)
    | ((with_reducible refine gate_dst (N := 34) rfl ?_); (refine closL (some 34) rfl rfl 30 putfits_clo #[.int .i64 1] rfl rfl (by simp only [List.map_toArray, List.map_cons, List.map_nil]; rfl) ?_; refine (PutFits_any (w := w4) HSH.out (bcell X10.out 0) (bcell X10.out 1) (bcell X10.out 2) (bcell X6.out 0) (show n ≤ 9223372036854775807 by omega) 1).mono ?_; (have hvv := HV1.out; rw [← HN.out] at hvv; rw [hvv]; clear hvv); rintro e w5 ⟨rfl, hb5⟩; refine ⟨_, rfl, ?_⟩; have HB5 := Aside0.mk (HB4.out.trans (hb5.mono HB4.out.size)); have hl5 := HL3.out.below HB5.out; have k05 := hl5.c0; have k17 := hl5.c17; have k18 := hl5.c18; have x6 := (HB5.out.block _ (blt P6.out)).trans P6.out; have x8 := (HB5.out.block _ (blt P8.out)).trans P8.out; have x10 := (HB5.out.block _ (blt Q10.out)).trans Q10.out; have X65 := Lib.hid x6; have X85 := Lib.hid x8; have X105 := Lib.hid x10; have z05 : w5.cell? ⟨w.heap.size + 1, 0, none⟩ = some (.int .i64 0) := bcell x8 0; have z15 : w5.cell? ⟨w.heap.size + 1, 1, none⟩ = some (.int .i64 0) := bcell x8 1; have zf5 : ∀ j, w5.frozen? ⟨w.heap.size + 1, j, none⟩ = false := (fun j => bfrozen x8 j); have HL5 := Aside0.mk hl5; have HF5 := Aside0.mk (hF.below HF3.out HB5.out); clear hb5 hl5 x6 x8 x10))
    | (go_at_call 31; (obtain ⟨okc, hDc⟩ := hF.dev (hF.below HF3.out HB5.out)); (have hcc := LCount_any (HL3.out.below HB5.out) hDc 0); (rw [← HC0.out] at hcc); (with_reducible refine hcc.mono ?_); clear hcc hDc; rintro e w7 ⟨rfl, hb7⟩; have HB7 := Aside0.mk (HB5.out.trans (hb7.mono HB5.out.size)); have x8 := (HB7.out.block _ (blt P8.out)).trans P8.out; have X87 := Lib.hid x8; have z07 : w7.cell? ⟨w.heap.size + 1, 0, none⟩ = some (.int .i64 0) := bcell x8 0; have z17 : w7.cell? ⟨w.heap.size + 1, 1, none⟩ = some (.int .i64 0) := bcell x8 1; have zf7 : ∀ j, w7.frozen? ⟨w.heap.size + 1, j, none⟩ = false := (fun j => bfrozen x8 j); clear hb7 x8)
    | (go_at_call 123; (have htn := LTurn_F hF hSt (hF.below HF3.out HB7.out) (HL3.out.below HB7.out) (.inl (.inl hq)) hN ho16 hsq hn2 hn1 hd0 hm16 HFI.out); (with_reducible refine htn.mono ?_); clear htn; rintro e w8 ⟨rfl, hf8, hl8, hb8, hk8⟩; have bel8 : Below N0 w w8 := (((WB.out.trans ((BB.out.trans (HB7.out.mono BB.out.size)).mono (by omega))).mono hsz)).trans hb8; have kep8 : Kept (fun k => K k ∧ k ≠ q) w w8 := (fun k hk => (hk8 k ⟨.inl (.inl hk.1), hk.2⟩).trans ((show Kept (fun k => K k ∧ k ≠ q) w w7 from (fun k hk => (((BB.out.trans (HB7.out.mono BB.out.size)).mono (by omega)).block k (HLT.out k hk.1)).trans (WB.out.block k (HLT.out k hk.1)))) k hk)); have x6 := (hk8 w.heap.size ⟨.inl (.inr ⟨Nat.le_refl _, by omega⟩), (by have := HLT.out q hq; omega)⟩).trans ((HB7.out.block _ (blt P6.out)).trans P6.out); have x8 := (hk8 (w.heap.size + 1) ⟨.inl (.inr ⟨Nat.le_succ _, by omega⟩), (by have := HLT.out q hq; omega)⟩).trans X87.out; have X68 := Lib.hid x6; have X88 := Lib.hid x8; have HF8 := Aside0.mk hf8; have HL8 := Aside0.mk hl8; have BEL8 := Aside0.mk bel8; have KEP8 := Lib.hid kep8; clear hf8 hl8 hb8 hk8 bel8 kep8 x6 x8))
  have y0 := HL8.out.c0
  have y17 := HL8.out.c17
  have y18 := HL8.out.c18
  refine wp_region_held_drew (S := (fun w' => w'.cell? ⟨q, 0, none⟩ = some (.pointer (some ⟨p, 0, none⟩)) ∧ w'.cell? ⟨q, 17, none⟩ = some (.int .i64 (m : Int)) ∧ w'.cell? ⟨q, 18, none⟩ = some (.int .i64 1))) (by kernel_rfl) ?_ (fun hHeld => ?_)
  · first | go_keep | exact ⟨y0, y17, y18⟩
  first | (refine wpAnyH_take (i := 0) (oi := ?o67) (v := ?v67) ?i67 (by kernel_rfl) (by kernel_rfl) (by kernel_rfl) ?q67 ?y67 (by assumption) ?r67; (case i67 => (simp only [List.getElem?_toArray, List.getElem?_cons_succ, List.getElem?_cons_zero]; rfl)); (case q67 => exact fun _ _ _ h => h); (case y67 => (refine Or.inl ⟨by rfl, ?_⟩; intro w hSw; (try dsimp only at hSw); go_simp; (try (with_reducible rfl))))) | (refine wpAnyH_take (i := 0) (oi := ?o68) (v := undef) ?i68 (by kernel_rfl) (by kernel_rfl) (by kernel_rfl) ?q68 ?y68 (by assumption) ?r68; (case i68 => (simp only [List.getElem?_toArray, List.getElem?_cons_succ, List.getElem?_cons_zero]; rfl)); (case q68 => exact fun _ _ _ h => h); (case y68 => exact Or.inr ⟨by rfl, rfl⟩))
  try simp only [Act.put, List.setIfInBounds_toArray, List.set_cons_zero, List.set_cons_succ]
  first | (refine wpAnyH_take (i := 1) (oi := ?o69) (v := ?v69) ?i69 (by kernel_rfl) (by kernel_rfl) (by kernel_rfl) ?q69 ?y69 (by assumption) ?r69; (case i69 => (simp only [List.getElem?_toArray, List.getElem?_cons_succ, List.getElem?_cons_zero]; rfl)); (case q69 => exact fun _ _ _ h => h); (case y69 => (refine Or.inl ⟨by rfl, ?_⟩; intro w hSw; (try dsimp only at hSw); go_simp; (try (with_reducible rfl))))) | (refine wpAnyH_take (i := 1) (oi := ?o70) (v := undef) ?i70 (by kernel_rfl) (by kernel_rfl) (by kernel_rfl) ?q70 ?y70 (by assumption) ?r70; (case i70 => (simp only [List.getElem?_toArray, List.getElem?_cons_succ, List.getElem?_cons_zero]; rfl)); (case q70 => exact fun _ _ _ h => h); (case y70 => exact Or.inr ⟨by rfl, rfl⟩))
  try simp only [Act.put, List.setIfInBounds_toArray, List.set_cons_zero, List.set_cons_succ]
  first | (refine wpAnyH_take (i := 2) (oi := ?o71) (v := ?v71) ?i71 (by kernel_rfl) (by kernel_rfl) (by kernel_rfl) ?q71 ?y71 (by assumption) ?r71; (case i71 => (simp only [List.getElem?_toArray, List.getElem?_cons_succ, List.getElem?_cons_zero]; rfl)); (case q71 => exact fun _ _ _ h => h); (case y71 => (refine Or.inl ⟨by rfl, ?_⟩; intro w hSw; (try dsimp only at hSw); go_simp; (try (with_reducible rfl))))) | (refine wpAnyH_take (i := 2) (oi := ?o72) (v := undef) ?i72 (by kernel_rfl) (by kernel_rfl) (by kernel_rfl) ?q72 ?y72 (by assumption) ?r72; (case i72 => (simp only [List.getElem?_toArray, List.getElem?_cons_succ, List.getElem?_cons_zero]; rfl)); (case q72 => exact fun _ _ _ h => h); (case y72 => exact Or.inr ⟨by rfl, rfl⟩))
  try simp only [Act.put, List.setIfInBounds_toArray, List.set_cons_zero, List.set_cons_succ]
  first | (refine wpAnyH_take (i := 3) (oi := ?o73) (v := ?v73) ?i73 (by kernel_rfl) (by kernel_rfl) (by kernel_rfl) ?q73 ?y73 (by assumption) ?r73; (case i73 => (simp only [List.getElem?_toArray, List.getElem?_cons_succ, List.getElem?_cons_zero]; rfl)); (case q73 => exact fun _ _ _ h => h); (case y73 => (refine Or.inl ⟨by rfl, ?_⟩; intro w hSw; (try dsimp only at hSw); go_simp; (try (with_reducible rfl))))) | (refine wpAnyH_take (i := 3) (oi := ?o74) (v := undef) ?i74 (by kernel_rfl) (by kernel_rfl) (by kernel_rfl) ?q74 ?y74 (by assumption) ?r74; (case i74 => (simp only [List.getElem?_toArray, List.getElem?_cons_succ, List.getElem?_cons_zero]; rfl)); (case q74 => exact fun _ _ _ h => h); (case y74 => exact Or.inr ⟨by rfl, rfl⟩))
  try simp only [Act.put, List.setIfInBounds_toArray, List.set_cons_zero, List.set_cons_succ]
  first | (refine wpAnyH_take (i := 4) (oi := ?o75) (v := ?v75) ?i75 (by kernel_rfl) (by kernel_rfl) (by kernel_rfl) ?q75 ?y75 (by assumption) ?r75; (case i75 => (simp only [List.getElem?_toArray, List.getElem?_cons_succ, List.getElem?_cons_zero]; rfl)); (case q75 => exact fun _ _ _ h => h); (case y75 => (refine Or.inl ⟨by rfl, ?_⟩; intro w hSw; (try dsimp only at hSw); go_simp; (try (with_reducible rfl))))) | (refine wpAnyH_take (i := 4) (oi := ?o76) (v := undef) ?i76 (by kernel_rfl) (by kernel_rfl) (by kernel_rfl) ?q76 ?y76 (by assumption) ?r76; (case i76 => (simp only [List.getElem?_toArray, List.getElem?_cons_succ, List.getElem?_cons_zero]; rfl)); (case q76 => exact fun _ _ _ h => h); (case y76 => exact Or.inr ⟨by rfl, rfl⟩))
  try simp only [Act.put, List.setIfInBounds_toArray, List.set_cons_zero, List.set_cons_succ]
  first | (refine wpAnyH_take (i := 5) (oi := ?o77) (v := ?v77) ?i77 (by kernel_rfl) (by kernel_rfl) (by kernel_rfl) ?q77 ?y77 (by assumption) ?r77; (case i77 => (simp only [List.getElem?_toArray, List.getElem?_cons_succ, List.getElem?_cons_zero]; rfl)); (case q77 => exact fun _ _ _ h => h); (case y77 => (refine Or.inl ⟨by rfl, ?_⟩; intro w hSw; (try dsimp only at hSw); go_simp; (try (with_reducible rfl))))) | (refine wpAnyH_take (i := 5) (oi := ?o78) (v := undef) ?i78 (by kernel_rfl) (by kernel_rfl) (by kernel_rfl) ?q78 ?y78 (by assumption) ?r78; (case i78 => (simp only [List.getElem?_toArray, List.getElem?_cons_succ, List.getElem?_cons_zero]; rfl)); (case q78 => exact fun _ _ _ h => h); (case y78 => exact Or.inr ⟨by rfl, rfl⟩))
  try simp only [Act.put, List.setIfInBounds_toArray, List.set_cons_zero, List.set_cons_succ]
  first | (refine wpAnyH_take (i := 6) (oi := ?o79) (v := ?v79) ?i79 (by kernel_rfl) (by kernel_rfl) (by kernel_rfl) ?q79 ?y79 (by assumption) ?r79; (case i79 => (simp only [List.getElem?_toArray, List.getElem?_cons_succ, List.getElem?_cons_zero]; rfl)); (case q79 => exact fun _ _ _ h => h); (case y79 => (refine Or.inl ⟨by rfl, ?_⟩; intro w hSw; (try dsimp only at hSw); go_simp; (try (with_reducible rfl))))) | (refine wpAnyH_take (i := 6) (oi := ?o80) (v := undef) ?i80 (by kernel_rfl) (by kernel_rfl) (by kernel_rfl) ?q80 ?y80 (by assumption) ?r80; (case i80 => (simp only [List.getElem?_toArray, List.getElem?_cons_succ, List.getElem?_cons_zero]; rfl)); (case q80 => exact fun _ _ _ h => h); (case y80 => exact Or.inr ⟨by rfl, rfl⟩))
  try simp only [Act.put, List.setIfInBounds_toArray, List.set_cons_zero, List.set_cons_succ]
  first | (refine wpAnyH_take (i := 7) (oi := ?o81) (v := ?v81) ?i81 (by kernel_rfl) (by kernel_rfl) (by kernel_rfl) ?q81 ?y81 (by assumption) ?r81; (case i81 => (simp only [List.getElem?_toArray, List.getElem?_cons_succ, List.getElem?_cons_zero]; rfl)); (case q81 => exact fun _ _ _ h => h); (case y81 => (refine Or.inl ⟨by rfl, ?_⟩; intro w hSw; (try dsimp only at hSw); go_simp; (try (with_reducible rfl))))) | (refine wpAnyH_take (i := 7) (oi := ?o82) (v := undef) ?i82 (by kernel_rfl) (by kernel_rfl) (by kernel_rfl) ?q82 ?y82 (by assumption) ?r82; (case i82 => (simp only [List.getElem?_toArray, List.getElem?_cons_succ, List.getElem?_cons_zero]; rfl)); (case q82 => exact fun _ _ _ h => h); (case y82 => exact Or.inr ⟨by rfl, rfl⟩))
  try simp only [Act.put, List.setIfInBounds_toArray, List.set_cons_zero, List.set_cons_succ]
  first | (refine wpAnyH_take (i := 8) (oi := ?o83) (v := ?v83) ?i83 (by kernel_rfl) (by kernel_rfl) (by kernel_rfl) ?q83 ?y83 (by assumption) ?r83; (case i83 => (simp only [List.getElem?_toArray, List.getElem?_cons_succ, List.getElem?_cons_zero]; rfl)); (case q83 => exact fun _ _ _ h => h); (case y83 => (refine Or.inl ⟨by rfl, ?_⟩; intro w hSw; (try dsimp only at hSw); go_simp; (try (with_reducible rfl))))) | (refine wpAnyH_take (i := 8) (oi := ?o84) (v := undef) ?i84 (by kernel_rfl) (by kernel_rfl) (by kernel_rfl) ?q84 ?y84 (by assumption) ?r84; (case i84 => (simp only [List.getElem?_toArray, List.getElem?_cons_succ, List.getElem?_cons_zero]; rfl)); (case q84 => exact fun _ _ _ h => h); (case y84 => exact Or.inr ⟨by rfl, rfl⟩))
  try simp only [Act.put, List.setIfInBounds_toArray, List.set_cons_zero, List.set_cons_succ]
  refine wpAnyH_ready (rs := [9]) (by kernel_rfl) (by simp) ?_
  refine AllReadyH.cons (by (simp only [List.getElem?_toArray, List.getElem?_cons_succ, List.getElem?_cons_zero]; rfl)) (fun K hK => ?_) AllReadyH.nil
  go_simp
  (try dsimp only)
  refine hK.out _ _ ?_ (fun hHeld => ?_)
  · first | go_keep | exact ⟨y0, y17, y18⟩
  clear hK K
  try simp only [Act.put, List.setIfInBounds_toArray, List.set_cons_zero, List.set_cons_succ]
  refine wpAnyH_ready (rs := [10]) (by kernel_rfl) (by simp) ?_
  refine AllReadyH.cons (by (simp only [List.getElem?_toArray, List.getElem?_cons_succ, List.getElem?_cons_zero]; rfl)) (fun K hK => ?_) AllReadyH.nil
  go_simp
  (try dsimp only)
  refine hK.out _ _ ?_ (fun hHeld => ?_)
  · first | go_keep | exact ⟨y0, y17, y18⟩
  clear hK K
  try simp only [Act.put, List.setIfInBounds_toArray, List.set_cons_zero, List.set_cons_succ]
  refine wpAnyH_done (by kernel_rfl) ?_ _
  obtain ⟨Y, hY⟩ : ∃ Y, Y = (w8.alloc (.cells #[.int .i64 (m : Int), .int .i64 1] TA)).drew := ⟨_, rfl⟩
  rw [← hY]
  have qY : Y.heap[w8.heap.size]? = some (.cells #[.int .i64 (m : Int), .int .i64 1] TA (0, 0)) := by rw [hY]; exact blk_new _ _
  have bY : Below w8.heap.size w8 Y := by rw [hY]; exact (below_alloc (Below.refl _ _) _).drew
  have bYd : Below w8.heap.size w8 Y.drew := bY.drew
  have sY : Y.heap.size = w8.heap.size + 1 := by rw [hY]; exact size_alloc _ _
  have fY := hF.keep HF8.out bYd
  have lY := HL8.out.below bY
  have zY0 := lY.c0
  have zY17 := lY.c17
  have zY18 := lY.c18
  have zY19 := lY.c19
  have zY6 : Y.cell? ⟨w.heap.size, 0, none⟩ = some (.slice A n c) := bcell ((bY.block _ (blt X68.out)).trans X68.out) 0
  have belX : Below N0 w w8 := BEL8.out
  have kepX : Kept (fun k => K k ∧ k ≠ q) w w8 := KEP8.out
  have bNY : Below N0 w Y.drew := belX.trans (bYd.mono (by have := belX.size; omega))
  have kNY : Kept (fun k => K k ∧ k ≠ q) w Y.drew := fun k hk => (bYd.block k (by have := HLT.out k hk.1; have := belX.size; omega)).trans (kepX k hk)
  have happ := Append_F (kind := kind) (seq := g.nx) hF fY (m : Int) 1 hkk hsq hBl (HCX.out _ bNY kNY) (by rw [← HN.out]; exact hc) (by rw [← HN.out]; exact hm) hdd
  rw [HAP.out, ← HN.out] at happ
  have HAPP := Lib.hid happ
  have HFK := Aside0.mk fY
  have LY := Aside0.mk lY
  have QY := Lib.hid qY
  have BY := Aside0.mk bY
  have HY := Lib.hid hY
  have hwx : IntKind.u64.wrap g.nx = g.nx := IntWalk.u64_in _ (by omega)
  have hwk : IntKind.i64.wrap (1 + (k : Int)) = 1 + (k : Int) := IntWalk.i64_in _ (by omega)
  have BX := Aside0.mk belX
  have KX := Lib.hid kepX
  have nq1 : ¬ w8.heap.size = q := by have := blt HL8.out.blk; omega
  have nq2 : ¬ q = w8.heap.size := fun e => nq1 e.symm
  have nq3 : ¬ w.heap.size + 1 = q := by have := HLT.out q hq; omega
  have nq4 : ¬ q = w.heap.size + 1 := fun e => nq3 e.symm
  have nq5 : ¬ w8.heap.size = w.heap.size + 1 := by have := blt X88.out; omega
  have nq6 : ¬ w.heap.size + 1 = w8.heap.size := fun e => nq5 e.symm
  clear qY bY bYd fY lY belX kepX bNY kNY happ hY y0 y17 y18 hHeld
  go_wp2_with fail
  refine wp_region_held_drew (S := (fun w' => w'.cell? ⟨q, 0, none⟩ = some (.pointer (some ⟨p, 0, none⟩)) ∧ w'.cell? ⟨q, 17, none⟩ = some (.int .i64 (m : Int)) ∧ w'.cell? ⟨q, 18, none⟩ = some (.int .i64 1) ∧ w'.cell? ⟨q, 19, none⟩ = some (.int .u64 (g.nx + 1)) ∧ w'.cell? ⟨w.heap.size, 0, none⟩ = some (.slice A n c))) (by kernel_rfl) ?_ (fun hHeld => ?_)
  · first | exact ⟨zY0, zY17, zY18, zY19, zY6⟩ | exact ⟨s0, s17, s18, s19, s6⟩
  first | (refine wpAnyH_take (i := 0) (oi := ?o85) (v := ?v85) ?i85 (by kernel_rfl) (by kernel_rfl) (by kernel_rfl) ?q85 ?y85 (by assumption) ?r85; (case i85 => (simp only [List.getElem?_toArray, List.getElem?_cons_succ, List.getElem?_cons_zero]; rfl)); (case q85 => exact fun _ _ _ h => h); (case y85 => (refine Or.inl ⟨by rfl, ?_⟩; intro w hSw; (try dsimp only at hSw); go_simp; (try (with_reducible rfl))))) | (refine wpAnyH_take (i := 0) (oi := ?o86) (v := undef) ?i86 (by kernel_rfl) (by kernel_rfl) (by kernel_rfl) ?q86 ?y86 (by assumption) ?r86; (case i86 => (simp only [List.getElem?_toArray, List.getElem?_cons_succ, List.getElem?_cons_zero]; rfl)); (case q86 => exact fun _ _ _ h => h); (case y86 => exact Or.inr ⟨by rfl, rfl⟩))
  try simp only [Act.put, List.setIfInBounds_toArray, List.set_cons_zero, List.set_cons_succ]
  first | (refine wpAnyH_take (i := 1) (oi := ?o87) (v := ?v87) ?i87 (by kernel_rfl) (by kernel_rfl) (by kernel_rfl) ?q87 ?y87 (by assumption) ?r87; (case i87 => (simp only [List.getElem?_toArray, List.getElem?_cons_succ, List.getElem?_cons_zero]; rfl)); (case q87 => exact fun _ _ _ h => h); (case y87 => (refine Or.inl ⟨by rfl, ?_⟩; intro w hSw; (try dsimp only at hSw); go_simp; (try (with_reducible rfl))))) | (refine wpAnyH_take (i := 1) (oi := ?o88) (v := undef) ?i88 (by kernel_rfl) (by kernel_rfl) (by kernel_rfl) ?q88 ?y88 (by assumption) ?r88; (case i88 => (simp only [List.getElem?_toArray, List.getElem?_cons_succ, List.getElem?_cons_zero]; rfl)); (case q88 => exact fun _ _ _ h => h); (case y88 => exact Or.inr ⟨by rfl, rfl⟩))
  try simp only [Act.put, List.setIfInBounds_toArray, List.set_cons_zero, List.set_cons_succ]
  first | (refine wpAnyH_take (i := 2) (oi := ?o89) (v := ?v89) ?i89 (by kernel_rfl) (by kernel_rfl) (by kernel_rfl) ?q89 ?y89 (by assumption) ?r89; (case i89 => (simp only [List.getElem?_toArray, List.getElem?_cons_succ, List.getElem?_cons_zero]; rfl)); (case q89 => exact fun _ _ _ h => h); (case y89 => (refine Or.inl ⟨by rfl, ?_⟩; intro w hSw; (try dsimp only at hSw); go_simp; (try (with_reducible rfl))))) | (refine wpAnyH_take (i := 2) (oi := ?o90) (v := undef) ?i90 (by kernel_rfl) (by kernel_rfl) (by kernel_rfl) ?q90 ?y90 (by assumption) ?r90; (case i90 => (simp only [List.getElem?_toArray, List.getElem?_cons_succ, List.getElem?_cons_zero]; rfl)); (case q90 => exact fun _ _ _ h => h); (case y90 => exact Or.inr ⟨by rfl, rfl⟩))
  try simp only [Act.put, List.setIfInBounds_toArray, List.set_cons_zero, List.set_cons_succ]
  first | (refine wpAnyH_take (i := 3) (oi := ?o91) (v := ?v91) ?i91 (by kernel_rfl) (by kernel_rfl) (by kernel_rfl) ?q91 ?y91 (by assumption) ?r91; (case i91 => (simp only [List.getElem?_toArray, List.getElem?_cons_succ, List.getElem?_cons_zero]; rfl)); (case q91 => exact fun _ _ _ h => h); (case y91 => (refine Or.inl ⟨by rfl, ?_⟩; intro w hSw; (try dsimp only at hSw); go_simp; (try (with_reducible rfl))))) | (refine wpAnyH_take (i := 3) (oi := ?o92) (v := undef) ?i92 (by kernel_rfl) (by kernel_rfl) (by kernel_rfl) ?q92 ?y92 (by assumption) ?r92; (case i92 => (simp only [List.getElem?_toArray, List.getElem?_cons_succ, List.getElem?_cons_zero]; rfl)); (case q92 => exact fun _ _ _ h => h); (case y92 => exact Or.inr ⟨by rfl, rfl⟩))
  try simp only [Act.put, List.setIfInBounds_toArray, List.set_cons_zero, List.set_cons_succ]
  first | (refine wpAnyH_take (i := 4) (oi := ?o93) (v := ?v93) ?i93 (by kernel_rfl) (by kernel_rfl) (by kernel_rfl) ?q93 ?y93 (by assumption) ?r93; (case i93 => (simp only [List.getElem?_toArray, List.getElem?_cons_succ, List.getElem?_cons_zero]; rfl)); (case q93 => exact fun _ _ _ h => h); (case y93 => (refine Or.inl ⟨by rfl, ?_⟩; intro w hSw; (try dsimp only at hSw); go_simp; (try (with_reducible rfl))))) | (refine wpAnyH_take (i := 4) (oi := ?o94) (v := undef) ?i94 (by kernel_rfl) (by kernel_rfl) (by kernel_rfl) ?q94 ?y94 (by assumption) ?r94; (case i94 => (simp only [List.getElem?_toArray, List.getElem?_cons_succ, List.getElem?_cons_zero]; rfl)); (case q94 => exact fun _ _ _ h => h); (case y94 => exact Or.inr ⟨by rfl, rfl⟩))
  try simp only [Act.put, List.setIfInBounds_toArray, List.set_cons_zero, List.set_cons_succ]
  first | (refine wpAnyH_take (i := 5) (oi := ?o95) (v := ?v95) ?i95 (by kernel_rfl) (by kernel_rfl) (by kernel_rfl) ?q95 ?y95 (by assumption) ?r95; (case i95 => (simp only [List.getElem?_toArray, List.getElem?_cons_succ, List.getElem?_cons_zero]; rfl)); (case q95 => exact fun _ _ _ h => h); (case y95 => (refine Or.inl ⟨by rfl, ?_⟩; intro w hSw; (try dsimp only at hSw); go_simp; (try (with_reducible rfl))))) | (refine wpAnyH_take (i := 5) (oi := ?o96) (v := undef) ?i96 (by kernel_rfl) (by kernel_rfl) (by kernel_rfl) ?q96 ?y96 (by assumption) ?r96; (case i96 => (simp only [List.getElem?_toArray, List.getElem?_cons_succ, List.getElem?_cons_zero]; rfl)); (case q96 => exact fun _ _ _ h => h); (case y96 => exact Or.inr ⟨by rfl, rfl⟩))
  try simp only [Act.put, List.setIfInBounds_toArray, List.set_cons_zero, List.set_cons_succ]
  first | (refine wpAnyH_take (i := 6) (oi := ?o97) (v := ?v97) ?i97 (by kernel_rfl) (by kernel_rfl) (by kernel_rfl) ?q97 ?y97 (by assumption) ?r97; (case i97 => (simp only [List.getElem?_toArray, List.getElem?_cons_succ, List.getElem?_cons_zero]; rfl)); (case q97 => exact fun _ _ _ h => h); (case y97 => (refine Or.inl ⟨by rfl, ?_⟩; intro w hSw; (try dsimp only at hSw); go_simp; (try (with_reducible rfl))))) | (refine wpAnyH_take (i := 6) (oi := ?o98) (v := undef) ?i98 (by kernel_rfl) (by kernel_rfl) (by kernel_rfl) ?q98 ?y98 (by assumption) ?r98; (case i98 => (simp only [List.getElem?_toArray, List.getElem?_cons_succ, List.getElem?_cons_zero]; rfl)); (case q98 => exact fun _ _ _ h => h); (case y98 => exact Or.inr ⟨by rfl, rfl⟩))
  try simp only [Act.put, List.setIfInBounds_toArray, List.set_cons_zero, List.set_cons_succ]
  first | (refine wpAnyH_take (i := 7) (oi := ?o99) (v := ?v99) ?i99 (by kernel_rfl) (by kernel_rfl) (by kernel_rfl) ?q99 ?y99 (by assumption) ?r99; (case i99 => (simp only [List.getElem?_toArray, List.getElem?_cons_succ, List.getElem?_cons_zero]; rfl)); (case q99 => exact fun _ _ _ h => h); (case y99 => (refine Or.inl ⟨by rfl, ?_⟩; intro w hSw; (try dsimp only at hSw); go_simp; (try (with_reducible rfl))))) | (refine wpAnyH_take (i := 7) (oi := ?o100) (v := undef) ?i100 (by kernel_rfl) (by kernel_rfl) (by kernel_rfl) ?q100 ?y100 (by assumption) ?r100; (case i100 => (simp only [List.getElem?_toArray, List.getElem?_cons_succ, List.getElem?_cons_zero]; rfl)); (case q100 => exact fun _ _ _ h => h); (case y100 => exact Or.inr ⟨by rfl, rfl⟩))
  try simp only [Act.put, List.setIfInBounds_toArray, List.set_cons_zero, List.set_cons_succ]
  first | (refine wpAnyH_take (i := 8) (oi := ?o101) (v := ?v101) ?i101 (by kernel_rfl) (by kernel_rfl) (by kernel_rfl) ?q101 ?y101 (by assumption) ?r101; (case i101 => (simp only [List.getElem?_toArray, List.getElem?_cons_succ, List.getElem?_cons_zero]; rfl)); (case q101 => exact fun _ _ _ h => h); (case y101 => (refine Or.inl ⟨by rfl, ?_⟩; intro w hSw; (try dsimp only at hSw); go_simp; (try (with_reducible rfl))))) | (refine wpAnyH_take (i := 8) (oi := ?o102) (v := undef) ?i102 (by kernel_rfl) (by kernel_rfl) (by kernel_rfl) ?q102 ?y102 (by assumption) ?r102; (case i102 => (simp only [List.getElem?_toArray, List.getElem?_cons_succ, List.getElem?_cons_zero]; rfl)); (case q102 => exact fun _ _ _ h => h); (case y102 => exact Or.inr ⟨by rfl, rfl⟩))
  try simp only [Act.put, List.setIfInBounds_toArray, List.set_cons_zero, List.set_cons_succ]
  first | (refine wpAnyH_take (i := 9) (oi := ?o103) (v := ?v103) ?i103 (by kernel_rfl) (by kernel_rfl) (by kernel_rfl) ?q103 ?y103 (by assumption) ?r103; (case i103 => (simp only [List.getElem?_toArray, List.getElem?_cons_succ, List.getElem?_cons_zero]; rfl)); (case q103 => exact fun _ _ _ h => h); (case y103 => (refine Or.inl ⟨by rfl, ?_⟩; intro w hSw; (try dsimp only at hSw); go_simp; (try (with_reducible rfl))))) | (refine wpAnyH_take (i := 9) (oi := ?o104) (v := undef) ?i104 (by kernel_rfl) (by kernel_rfl) (by kernel_rfl) ?q104 ?y104 (by assumption) ?r104; (case i104 => (simp only [List.getElem?_toArray, List.getElem?_cons_succ, List.getElem?_cons_zero]; rfl)); (case q104 => exact fun _ _ _ h => h); (case y104 => exact Or.inr ⟨by rfl, rfl⟩))
  try simp only [Act.put, List.setIfInBounds_toArray, List.set_cons_zero, List.set_cons_succ]
  first | (refine wpAnyH_take (i := 10) (oi := ?o105) (v := ?v105) ?i105 (by kernel_rfl) (by kernel_rfl) (by kernel_rfl) ?q105 ?y105 (by assumption) ?r105; (case i105 => (simp only [List.getElem?_toArray, List.getElem?_cons_succ, List.getElem?_cons_zero]; rfl)); (case q105 => exact fun _ _ _ h => h); (case y105 => (refine Or.inl ⟨by rfl, ?_⟩; intro w hSw; (try dsimp only at hSw); go_simp; (try (with_reducible rfl))))) | (refine wpAnyH_take (i := 10) (oi := ?o106) (v := undef) ?i106 (by kernel_rfl) (by kernel_rfl) (by kernel_rfl) ?q106 ?y106 (by assumption) ?r106; (case i106 => (simp only [List.getElem?_toArray, List.getElem?_cons_succ, List.getElem?_cons_zero]; rfl)); (case q106 => exact fun _ _ _ h => h); (case y106 => exact Or.inr ⟨by rfl, rfl⟩))
  try simp only [Act.put, List.setIfInBounds_toArray, List.set_cons_zero, List.set_cons_succ]
  first | (refine wpAnyH_take (i := 11) (oi := ?o107) (v := ?v107) ?i107 (by kernel_rfl) (by kernel_rfl) (by kernel_rfl) ?q107 ?y107 (by assumption) ?r107; (case i107 => (simp only [List.getElem?_toArray, List.getElem?_cons_succ, List.getElem?_cons_zero]; rfl)); (case q107 => exact fun _ _ _ h => h); (case y107 => (refine Or.inl ⟨by rfl, ?_⟩; intro w hSw; (try dsimp only at hSw); go_simp; (try (with_reducible rfl))))) | (refine wpAnyH_take (i := 11) (oi := ?o108) (v := undef) ?i108 (by kernel_rfl) (by kernel_rfl) (by kernel_rfl) ?q108 ?y108 (by assumption) ?r108; (case i108 => (simp only [List.getElem?_toArray, List.getElem?_cons_succ, List.getElem?_cons_zero]; rfl)); (case q108 => exact fun _ _ _ h => h); (case y108 => exact Or.inr ⟨by rfl, rfl⟩))
  try simp only [Act.put, List.setIfInBounds_toArray, List.set_cons_zero, List.set_cons_succ]
  first | (refine wpAnyH_take (i := 12) (oi := ?o109) (v := ?v109) ?i109 (by kernel_rfl) (by kernel_rfl) (by kernel_rfl) ?q109 ?y109 (by assumption) ?r109; (case i109 => (simp only [List.getElem?_toArray, List.getElem?_cons_succ, List.getElem?_cons_zero]; rfl)); (case q109 => exact fun _ _ _ h => h); (case y109 => (refine Or.inl ⟨by rfl, ?_⟩; intro w hSw; (try dsimp only at hSw); go_simp; (try (with_reducible rfl))))) | (refine wpAnyH_take (i := 12) (oi := ?o110) (v := undef) ?i110 (by kernel_rfl) (by kernel_rfl) (by kernel_rfl) ?q110 ?y110 (by assumption) ?r110; (case i110 => (simp only [List.getElem?_toArray, List.getElem?_cons_succ, List.getElem?_cons_zero]; rfl)); (case q110 => exact fun _ _ _ h => h); (case y110 => exact Or.inr ⟨by rfl, rfl⟩))
  try simp only [Act.put, List.setIfInBounds_toArray, List.set_cons_zero, List.set_cons_succ]
  first | (refine wpAnyH_take (i := 13) (oi := ?o111) (v := ?v111) ?i111 (by kernel_rfl) (by kernel_rfl) (by kernel_rfl) ?q111 ?y111 (by assumption) ?r111; (case i111 => (simp only [List.getElem?_toArray, List.getElem?_cons_succ, List.getElem?_cons_zero]; rfl)); (case q111 => exact fun _ _ _ h => h); (case y111 => (refine Or.inl ⟨by rfl, ?_⟩; intro w hSw; (try dsimp only at hSw); go_simp; (try (with_reducible rfl))))) | (refine wpAnyH_take (i := 13) (oi := ?o112) (v := undef) ?i112 (by kernel_rfl) (by kernel_rfl) (by kernel_rfl) ?q112 ?y112 (by assumption) ?r112; (case i112 => (simp only [List.getElem?_toArray, List.getElem?_cons_succ, List.getElem?_cons_zero]; rfl)); (case q112 => exact fun _ _ _ h => h); (case y112 => exact Or.inr ⟨by rfl, rfl⟩))
  try simp only [Act.put, List.setIfInBounds_toArray, List.set_cons_zero, List.set_cons_succ]
  first | (refine wpAnyH_take (i := 14) (oi := ?o113) (v := ?v113) ?i113 (by kernel_rfl) (by kernel_rfl) (by kernel_rfl) ?q113 ?y113 (by assumption) ?r113; (case i113 => (simp only [List.getElem?_toArray, List.getElem?_cons_succ, List.getElem?_cons_zero]; rfl)); (case q113 => exact fun _ _ _ h => h); (case y113 => (refine Or.inl ⟨by rfl, ?_⟩; intro w hSw; (try dsimp only at hSw); go_simp; (try (with_reducible rfl))))) | (refine wpAnyH_take (i := 14) (oi := ?o114) (v := undef) ?i114 (by kernel_rfl) (by kernel_rfl) (by kernel_rfl) ?q114 ?y114 (by assumption) ?r114; (case i114 => (simp only [List.getElem?_toArray, List.getElem?_cons_succ, List.getElem?_cons_zero]; rfl)); (case q114 => exact fun _ _ _ h => h); (case y114 => exact Or.inr ⟨by rfl, rfl⟩))
  try simp only [Act.put, List.setIfInBounds_toArray, List.set_cons_zero, List.set_cons_succ]
  first | (refine wpAnyH_take (i := 15) (oi := ?o115) (v := ?v115) ?i115 (by kernel_rfl) (by kernel_rfl) (by kernel_rfl) ?q115 ?y115 (by assumption) ?r115; (case i115 => (simp only [List.getElem?_toArray, List.getElem?_cons_succ, List.getElem?_cons_zero]; rfl)); (case q115 => exact fun _ _ _ h => h); (case y115 => (refine Or.inl ⟨by rfl, ?_⟩; intro w hSw; (try dsimp only at hSw); go_simp; (try (with_reducible rfl))))) | (refine wpAnyH_take (i := 15) (oi := ?o116) (v := undef) ?i116 (by kernel_rfl) (by kernel_rfl) (by kernel_rfl) ?q116 ?y116 (by assumption) ?r116; (case i116 => (simp only [List.getElem?_toArray, List.getElem?_cons_succ, List.getElem?_cons_zero]; rfl)); (case q116 => exact fun _ _ _ h => h); (case y116 => exact Or.inr ⟨by rfl, rfl⟩))
  try simp only [Act.put, List.setIfInBounds_toArray, List.set_cons_zero, List.set_cons_succ]
  first | (refine wpAnyH_take (i := 16) (oi := ?o117) (v := ?v117) ?i117 (by kernel_rfl) (by kernel_rfl) (by kernel_rfl) ?q117 ?y117 (by assumption) ?r117; (case i117 => (simp only [List.getElem?_toArray, List.getElem?_cons_succ, List.getElem?_cons_zero]; rfl)); (case q117 => exact fun _ _ _ h => h); (case y117 => (refine Or.inl ⟨by rfl, ?_⟩; intro w hSw; (try dsimp only at hSw); go_simp; (try (with_reducible rfl))))) | (refine wpAnyH_take (i := 16) (oi := ?o118) (v := undef) ?i118 (by kernel_rfl) (by kernel_rfl) (by kernel_rfl) ?q118 ?y118 (by assumption) ?r118; (case i118 => (simp only [List.getElem?_toArray, List.getElem?_cons_succ, List.getElem?_cons_zero]; rfl)); (case q118 => exact fun _ _ _ h => h); (case y118 => exact Or.inr ⟨by rfl, rfl⟩))
  try simp only [Act.put, List.setIfInBounds_toArray, List.set_cons_zero, List.set_cons_succ]
  first | (refine wpAnyH_take (i := 17) (oi := ?o119) (v := ?v119) ?i119 (by kernel_rfl) (by kernel_rfl) (by kernel_rfl) ?q119 ?y119 (by assumption) ?r119; (case i119 => (simp only [List.getElem?_toArray, List.getElem?_cons_succ, List.getElem?_cons_zero]; rfl)); (case q119 => exact fun _ _ _ h => h); (case y119 => (refine Or.inl ⟨by rfl, ?_⟩; intro w hSw; (try dsimp only at hSw); go_simp; (try (with_reducible rfl))))) | (refine wpAnyH_take (i := 17) (oi := ?o120) (v := undef) ?i120 (by kernel_rfl) (by kernel_rfl) (by kernel_rfl) ?q120 ?y120 (by assumption) ?r120; (case i120 => (simp only [List.getElem?_toArray, List.getElem?_cons_succ, List.getElem?_cons_zero]; rfl)); (case q120 => exact fun _ _ _ h => h); (case y120 => exact Or.inr ⟨by rfl, rfl⟩))
  try simp only [Act.put, List.setIfInBounds_toArray, List.set_cons_zero, List.set_cons_succ]
  first | (refine wpAnyH_take (i := 18) (oi := ?o121) (v := ?v121) ?i121 (by kernel_rfl) (by kernel_rfl) (by kernel_rfl) ?q121 ?y121 (by assumption) ?r121; (case i121 => (simp only [List.getElem?_toArray, List.getElem?_cons_succ, List.getElem?_cons_zero]; rfl)); (case q121 => exact fun _ _ _ h => h); (case y121 => (refine Or.inl ⟨by rfl, ?_⟩; intro w hSw; (try dsimp only at hSw); go_simp; (try (with_reducible rfl))))) | (refine wpAnyH_take (i := 18) (oi := ?o122) (v := undef) ?i122 (by kernel_rfl) (by kernel_rfl) (by kernel_rfl) ?q122 ?y122 (by assumption) ?r122; (case i122 => (simp only [List.getElem?_toArray, List.getElem?_cons_succ, List.getElem?_cons_zero]; rfl)); (case q122 => exact fun _ _ _ h => h); (case y122 => exact Or.inr ⟨by rfl, rfl⟩))
  try simp only [Act.put, List.setIfInBounds_toArray, List.set_cons_zero, List.set_cons_succ]
  refine wpAnyH_ready (rs := [19]) (by kernel_rfl) (by simp) ?_
  refine AllReadyH.cons (by (simp only [List.getElem?_toArray, List.getElem?_cons_succ, List.getElem?_cons_zero]; rfl)) (fun K hK => ?_) AllReadyH.nil
  go_simp
  (go_at_call 14; (with_reducible refine HAPP.out.mono ?_); rintro e w10 ⟨rfl, hf10, hb10, hk10⟩; have hl10 : LogIs q p { st := (sealG g).st.set m 1, op := (m : Int), pg := 1, nx := g.nx + 1 } w10 := ⟨LY.out.len, (hk10 q (.inl (.inl (.inl hq)))).trans LY.out.blk⟩; have s0 := hl10.c0; have s17 := hl10.c17; have s18 := hl10.c18; have s19 := hl10.c19; have fr18 := hl10.frozen 18; have x6 := (hk10 w.heap.size (.inl (.inl (.inr ⟨Nat.le_refl _, by omega⟩)))).trans ((BY.out.block _ (blt X68.out)).trans X68.out); have x8 := (hk10 (w.heap.size + 1) (.inl (.inl (.inr ⟨Nat.le_succ _, by omega⟩)))).trans ((BY.out.block _ (blt X88.out)).trans X88.out); have x12 := (hk10 w8.heap.size (.inr ⟨Nat.le_refl _, by show _ < Y.heap.size; omega⟩)).trans QY.out; have s6 : w10.cell? ⟨w.heap.size, 0, none⟩ = some (.slice A n c) := bcell x6 0; have m0 : w10.cell? ⟨w.heap.size + 1, 0, none⟩ = some (.int .i64 0) := bcell x8 0; have m1 : w10.cell? ⟨w.heap.size + 1, 1, none⟩ = some (.int .i64 0) := bcell x8 1; have mf : ∀ j, w10.frozen? ⟨w.heap.size + 1, j, none⟩ = false := (fun j => bfrozen x8 j); have t0 : w10.cell? ⟨w8.heap.size, 0, none⟩ = some (.int .i64 (m : Int)) := bcell x12 0; have t1 : w10.cell? ⟨w8.heap.size, 1, none⟩ = some (.int .i64 1) := bcell x12 1; have HL10 := Aside0.mk hl10; have X810 := Lib.hid x8; have HF10 := Aside0.mk hf10; have HB10 := Aside0.mk (BX.out.trans ((show Below N0 w8 Y.drew from (BY.out.drew).mono (by have := BX.out.size; omega)).trans hb10)); have HKR := Lib.hid hk10; clear hl10 hf10 hb10 hk10 x6 x8 x12)
  (try dsimp only)
  refine hK.out _ _ ?_ (fun hHeld => ?_)
  · first | exact ⟨zY0, zY17, zY18, zY19, zY6⟩ | exact ⟨s0, s17, s18, s19, s6⟩
  clear hK K
  try simp only [Act.put, List.setIfInBounds_toArray, List.set_cons_zero, List.set_cons_succ]
  first | (refine wpAnyH_take (i := 20) (oi := ?o123) (v := ?v123) ?i123 (by kernel_rfl) (by kernel_rfl) (by kernel_rfl) ?q123 ?y123 (by assumption) ?r123; (case i123 => (simp only [List.getElem?_toArray, List.getElem?_cons_succ, List.getElem?_cons_zero]; rfl)); (case q123 => exact fun _ _ _ h => h); (case y123 => (refine Or.inl ⟨by rfl, ?_⟩; intro w hSw; (try dsimp only at hSw); go_simp; (try (with_reducible rfl))))) | (refine wpAnyH_take (i := 20) (oi := ?o124) (v := undef) ?i124 (by kernel_rfl) (by kernel_rfl) (by kernel_rfl) ?q124 ?y124 (by assumption) ?r124; (case i124 => (simp only [List.getElem?_toArray, List.getElem?_cons_succ, List.getElem?_cons_zero]; rfl)); (case q124 => exact fun _ _ _ h => h); (case y124 => exact Or.inr ⟨by rfl, rfl⟩))
  try simp only [Act.put, List.setIfInBounds_toArray, List.set_cons_zero, List.set_cons_succ]
  first | (refine wpAnyH_take (i := 21) (oi := ?o125) (v := ?v125) ?i125 (by kernel_rfl) (by kernel_rfl) (by kernel_rfl) ?q125 ?y125 (by assumption) ?r125; (case i125 => (simp only [List.getElem?_toArray, List.getElem?_cons_succ, List.getElem?_cons_zero]; rfl)); (case q125 => exact fun _ _ _ h => h); (case y125 => (refine Or.inl ⟨by rfl, ?_⟩; intro w hSw; (try dsimp only at hSw); go_simp; (try (with_reducible rfl))))) | (refine wpAnyH_take (i := 21) (oi := ?o126) (v := undef) ?i126 (by kernel_rfl) (by kernel_rfl) (by kernel_rfl) ?q126 ?y126 (by assumption) ?r126; (case i126 => (simp only [List.getElem?_toArray, List.getElem?_cons_succ, List.getElem?_cons_zero]; rfl)); (case q126 => exact fun _ _ _ h => h); (case y126 => exact Or.inr ⟨by rfl, rfl⟩))
  try simp only [Act.put, List.setIfInBounds_toArray, List.set_cons_zero, List.set_cons_succ]
  first | (refine wpAnyH_take (i := 22) (oi := ?o127) (v := ?v127) ?i127 (by kernel_rfl) (by kernel_rfl) (by kernel_rfl) ?q127 ?y127 (by assumption) ?r127; (case i127 => (simp only [List.getElem?_toArray, List.getElem?_cons_succ, List.getElem?_cons_zero]; rfl)); (case q127 => exact fun _ _ _ h => h); (case y127 => (refine Or.inl ⟨by rfl, ?_⟩; intro w hSw; (try dsimp only at hSw); go_simp; (try (with_reducible rfl))))) | (refine wpAnyH_take (i := 22) (oi := ?o128) (v := undef) ?i128 (by kernel_rfl) (by kernel_rfl) (by kernel_rfl) ?q128 ?y128 (by assumption) ?r128; (case i128 => (simp only [List.getElem?_toArray, List.getElem?_cons_succ, List.getElem?_cons_zero]; rfl)); (case q128 => exact fun _ _ _ h => h); (case y128 => exact Or.inr ⟨by rfl, rfl⟩))
  try simp only [Act.put, List.setIfInBounds_toArray, List.set_cons_zero, List.set_cons_succ]
  first | (refine wpAnyH_take (i := 23) (oi := ?o129) (v := ?v129) ?i129 (by kernel_rfl) (by kernel_rfl) (by kernel_rfl) ?q129 ?y129 (by assumption) ?r129; (case i129 => (simp only [List.getElem?_toArray, List.getElem?_cons_succ, List.getElem?_cons_zero]; rfl)); (case q129 => exact fun _ _ _ h => h); (case y129 => (refine Or.inl ⟨by rfl, ?_⟩; intro w hSw; (try dsimp only at hSw); go_simp; (try (with_reducible rfl))))) | (refine wpAnyH_take (i := 23) (oi := ?o130) (v := undef) ?i130 (by kernel_rfl) (by kernel_rfl) (by kernel_rfl) ?q130 ?y130 (by assumption) ?r130; (case i130 => (simp only [List.getElem?_toArray, List.getElem?_cons_succ, List.getElem?_cons_zero]; rfl)); (case q130 => exact fun _ _ _ h => h); (case y130 => exact Or.inr ⟨by rfl, rfl⟩))
  try simp only [Act.put, List.setIfInBounds_toArray, List.set_cons_zero, List.set_cons_succ]
  first | (refine wpAnyH_take (i := 24) (oi := ?o131) (v := ?v131) ?i131 (by kernel_rfl) (by kernel_rfl) (by kernel_rfl) ?q131 ?y131 (by assumption) ?r131; (case i131 => (simp only [List.getElem?_toArray, List.getElem?_cons_succ, List.getElem?_cons_zero]; rfl)); (case q131 => exact fun _ _ _ h => h); (case y131 => (refine Or.inl ⟨by rfl, ?_⟩; intro w hSw; (try dsimp only at hSw); go_simp; (try (with_reducible rfl))))) | (refine wpAnyH_take (i := 24) (oi := ?o132) (v := undef) ?i132 (by kernel_rfl) (by kernel_rfl) (by kernel_rfl) ?q132 ?y132 (by assumption) ?r132; (case i132 => (simp only [List.getElem?_toArray, List.getElem?_cons_succ, List.getElem?_cons_zero]; rfl)); (case q132 => exact fun _ _ _ h => h); (case y132 => exact Or.inr ⟨by rfl, rfl⟩))
  try simp only [Act.put, List.setIfInBounds_toArray, List.set_cons_zero, List.set_cons_succ]
  refine wpAnyH_done (by kernel_rfl) ?_ _
  go_wp2_with fail
  have HK10 := Lib.hid (show Kept (fun k => K k ∧ k ≠ q) w w10 from fun k hk => (HKR.out k (.inl (.inl (.inl hk.1)))).trans ((BY.out.block k (by have := HLT.out k hk.1; have := BX.out.size; omega)).trans (KX.out k hk)))
  have hl11 := HL10.out.setPg (1 + (k : Int))
  have hu11 := Upd.setCell w10 (p := ⟨q, 18, none⟩) (S := fun k => k = q) rfl (.int .i64 (1 + (k : Int)))
  have hf11 := hSt _ _ w10 _ q _ _ _ HF10.out (.inl (.inl (.inl hq))) HL10.out.blk hl11.blk (by decide) hu11
  have s10 := hF.size HF10.out
  have hb11 := HB10.out.trans (hu11.below s10 (fun k hk => by rw [hk]; exact hN))
  have x811 := (hu11.block (w.heap.size + 1) (blt X810.out) (fun e => nq3 e)).trans X810.out
  have hk11 : Kept (fun k => K k ∧ k ≠ q) w (w10.setCell ⟨q, 18, none⟩ (.int .i64 (1 + (k : Int)))) := fun k hk => (hu11.block k (hF.lt HF10.out k (.inl (.inl (.inl hk.1)))) hk.2).trans (HK10.out k hk)
  obtain ⟨w9, hw9⟩ : ∃ w9, w9 = ((w10.setCell ⟨q, 18, none⟩ (.int .i64 (1 + (k : Int)))).setCell ⟨w.heap.size + 1, 0, none⟩ (.int .i64 (m : Int))).setCell ⟨w.heap.size + 1, 1, none⟩ (.int .i64 1) := ⟨_, rfl⟩
  rw [← hw9]
  obtain ⟨r8, hf9, hl9, hb9, hk9⟩ := put_end hF hSt hf11 hl11 hq HLT.out hsz (Nat.le_succ _) x811 (.inl (.inl (.inr ⟨Nat.le_succ _, by omega⟩))) (fun k hk => .inl (.inl (.inl hk))) hb11 hk11 hw9
  have r0 := bcell r8 0
  have r1 := bcell r8 1
  exact bodyPost_ret (v := .tuple #[.agg #[.int .i64 (m : Int), .int .i64 1], .int .i64 0]) (by simp [results, Try.results101, go_sem, r0, r1]) rfl ⟨rfl, hf9, hl9, hb9, hk9⟩
end
end Go.Proofs.Ytmbiebdcnadhkaa.Fl

/- The document's log: its cells; Count and Seal walked. -/
namespace Go.Proofs.Ytmbiebdcnadhkaa.Fl
open Go.RowKit Go.Proofs.YtmbiebdcnadhkaaW.PrintWords Go.Proofs.YtmbiebdcnadhkaaW.PrintMore Go.Maps
set_option linter.unusedSimpArgs false
set_option linter.unusedVariables false
abbrev TRL : TypeId := 66
abbrev TNi : TypeId := 3
def rlogC (x t cap : Nat) (g : LG) : Array Value := #[.pointer (some ⟨x, 0, none⟩), .slice (some ⟨t, 0, none⟩) g.st.length cap, .int .i64 g.op, .int .i64 g.pg, .int .u64 g.nx]
/-- The document's log: a block r of five cells, its states a row t of their own. -/
structure RLog (r t x cap : Nat) (rest : List Value) (g : LG) (w : World) : Prop where
  blk : w.heap[r]? = some (.cells (rlogC x t cap g) TRL (0, 0))
  row : w.heap[t]? = some (.cells (g.st.map (fun x => Value.int .i64 x) ++ rest).toArray TNi (0, 0))
section
variable {r t x cap : Nat} {rest : List Value} {g : LG} {w w' : World}
theorem RLog.step (h : RLog r t x cap rest g w) (hr : w'.heap[r]? = w.heap[r]?) (ht : w'.heap[t]? = w.heap[t]?) : RLog r t x cap rest g w' := ⟨hr.trans h.blk, ht.trans h.row⟩
theorem RLog.c0 (h : RLog r t x cap rest g w) : w.cell? ⟨r, 0, none⟩ = some (.pointer (some ⟨x, 0, none⟩)) := bcell h.blk 0
end
end Go.Proofs.Ytmbiebdcnadhkaa.Fl

/- The document's log: Erase over any frame: walked. -/
namespace Go.Proofs.Ytmbiebdcnadhkaa.Fl
open Go.RowKit Go.Proofs.YtmbiebdcnadhkaaW.PrintWords Go.Proofs.YtmbiebdcnadhkaaW.PrintMore Go.Maps
set_option linter.unusedSimpArgs false
set_option linter.unusedVariables false
section
variable {N0 x r t cap : Nat} {rest : List Value} {s : Int × Int × Int} {G : (Nat → Prop) → List Pg → World → Prop} {K : Nat → Prop} {ps : List Pg} {g : LG} {w : World}
end
end Go.Proofs.Ytmbiebdcnadhkaa.Fl

