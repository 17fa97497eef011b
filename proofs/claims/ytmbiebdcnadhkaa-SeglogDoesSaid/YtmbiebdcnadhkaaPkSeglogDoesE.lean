/- The parts of this proof, one after the other (wip/tools/packfl.py). -/
import Derived.Test.YtmbiebdcnadhkaaPkSeglogDoesD
/- The driver's log: what is written into it; Seal walked. -/
namespace Go.Proofs.Ytmbiebdcnadhkaa.Fl
open Go.RowKit Go.Proofs.YtmbiebdcnadhkaaW.PrintWords Go.Proofs.YtmbiebdcnadhkaaW.PrintMore Go.Maps
set_option linter.unusedSimpArgs false
set_option linter.unusedVariables false
section
variable {q p N0 : Nat} {g : LG} {w w' : World} {D : PD} {ok : Nat → Prop}
theorem LogIs.frozen (h : LogIs q p g w) (j : Nat) : w.frozen? ⟨q, j, none⟩ = false := bfrozen h.blk _
theorem setCell_blk {o : Array Value} {T : TypeId} (h : w.heap[q]? = some (.cells o T (0, 0))) (j : Nat) (v : Value) : (w.setCell ⟨q, j, none⟩ v).heap[q]? = some (.cells (o.setIfInBounds j v) T (0, 0)) := by
  simp [World.setCell, Array.getElem?_modify, h]
theorem LogIs.setSt (h : LogIs q p g w) {i : Nat} (hi : i < 16) (x : Int) : LogIs q p { g with st := g.st.set i x } (w.setCell ⟨q, 1 + i, none⟩ (.int .i64 x)) := by
  refine ⟨by simp [h.len], (setCell_blk h.blk _ _).trans ?_⟩
  congr 2
  simp only [List.setIfInBounds_toArray]
  congr 1
  rw [Nat.add_comm 1 i]
  simp only [logC, List.set_cons_succ]
  rw [List.set_append_left _ _ (by simp [h.len]; omega), ← List.map_set]
theorem LogIs.setOp (h : LogIs q p g w) (x : Int) : LogIs q p { g with op := x } (w.setCell ⟨q, 17, none⟩ (.int .i64 x)) := by
  refine ⟨h.len, (setCell_blk h.blk _ _).trans ?_⟩
  congr 2
  simp only [List.setIfInBounds_toArray]
  congr 1
  simp only [logC, List.set_cons_succ]
  rw [List.set_append_right _ _ (by simp [h.len])]
  simp [h.len]
theorem LogIs.setPg (h : LogIs q p g w) (x : Int) : LogIs q p { g with pg := x } (w.setCell ⟨q, 18, none⟩ (.int .i64 x)) := by
  refine ⟨h.len, (setCell_blk h.blk _ _).trans ?_⟩
  congr 2
  simp only [List.setIfInBounds_toArray]
  congr 1
  simp only [logC, List.set_cons_succ]
  rw [List.set_append_right _ _ (by simp [h.len])]
  simp [h.len]
theorem LogIs.setNx (h : LogIs q p g w) (x : Int) : LogIs q p { g with nx := x } (w.setCell ⟨q, 19, none⟩ (.int .u64 x)) := by
  refine ⟨h.len, (setCell_blk h.blk _ _).trans ?_⟩
  congr 2
  simp only [List.setIfInBounds_toArray]
  congr 1
  simp only [logC, List.set_cons_succ]
  rw [List.set_append_right _ _ (by simp [h.len])]
  simp [h.len]
def sealG (g : LG) : LG := if g.op < 0 then g else { st := g.st.set g.op.toNat 2, op := -1, pg := 0, nx := g.nx }
theorem seal_post {w3 : World} (h : LogIs q p g w') {n : Nat} (hn : n < 16) (hop : g.op = (n : Int)) (hu : Upd (fun k => k = q) w w') (he : w3 = ((w'.setCell ⟨q, 1 + n, none⟩ (.int .i64 2)).setCell ⟨q, 17, none⟩ (.int .i64 (-1))).setCell ⟨q, 18, none⟩ (.int .i64 0)) :
    LogIs q p (sealG g) w3 ∧ Upd (fun k => k = q) w w3 := by
  subst he
  have h3 := ((h.setSt hn 2).setOp (-1)).setPg 0
  have hs : sealG g = { st := g.st.set n 2, op := -1, pg := 0, nx := g.nx } := by
    unfold sealG
    rw [if_neg (by omega), hop, Int.toNat_natCast]
  rw [hs]
  refine ⟨h3, hu.trans (((Upd.setCell w' (p := ⟨q, 1 + n, none⟩) (S := fun k => k = q) rfl (.int .i64 2)).trans (Upd.setCell _ (p := ⟨q, 17, none⟩) (S := fun k => k = q) rfl (.int .i64 (-1))) (fun k hk _ => hk)).trans (Upd.setCell _ (p := ⟨q, 18, none⟩) (S := fun k => k = q) rfl (.int .i64 0)) (fun k hk _ => hk)) (fun k hk _ => hk)⟩
set_option maxHeartbeats 1000000 in
set_option maxRecDepth 100000 in
theorem LSeal_any (h : LogIs q p g w) (ho : g.op < 16) : Calls Try.prog 72 #[.pointer (some ⟨q, 0, none⟩)] w fun e w' => e = .returned (.tuple #[]) ∧ LogIs q p (sealG g) w' ∧ Upd (fun k => k = q) w w' := by
  have hop := LOpen_any h
  by_cases h0 : g.op < 0
  · have hv : openV g = (-1, 0) := if_pos h0
    have hs : sealG g = g := if_pos h0
    rw [hv] at hop
    rw [hs]
    have HO := Lib.hid hop
    have HL := Aside0.mk h
    clear h hop hv hs
    go_enter Try.func72, Try.ntmps72
    go_wp2_with (go_at_call 27; (with_reducible refine HO.out.mono ?_); rintro e w1 ⟨rfl, hb⟩; have HB := Aside0.mk hb; clear hb)
    go_end0
    exact ⟨rfl, HL.out.below HB.out, Upd.ofBelow HB.out _⟩
  · have hv : openV g = (g.op, g.pg) := if_neg h0
    obtain ⟨n, hn⟩ := Int.eq_ofNat_of_zero_le (show 0 ≤ g.op by omega)
    have hn16 : n < 16 := by omega
    rw [hv, hn] at hop
    simp only at hop
    have hlen := h.len
    obtain ⟨x, hx⟩ : ∃ x, g.st[n]? = some x := ⟨_, List.getElem?_eq_getElem (by omega)⟩
    have hc := fun (X : World) (hb : Below w.heap.size w X) => (show X.cell? ⟨q, 1 + n, none⟩ = some (.int .i64 x) ∧ X.cell? ⟨q, 17, none⟩ = some (.int .i64 g.op) ∧ X.cell? ⟨q, 18, none⟩ = some (.int .i64 g.pg) ∧ X.frozen? ⟨q, 1 + n, none⟩ = false ∧ X.frozen? ⟨q, 17, none⟩ = false ∧ X.frozen? ⟨q, 18, none⟩ = false from ⟨(h.below hb).cst hx, (h.below hb).c17, (h.below hb).c18, (h.below hb).frozen _, (h.below hb).frozen _, (h.below hb).frozen _⟩)
    have HO := Lib.hid hop
    have HL := Aside0.mk h
    have HC := Lib.hid hc
    have HOP := Lib.hid hn
    have n0 : (0 : Int) ≤ (n : Int) := by omega
    have n1 : (n : Int) < 16 := by omega
    have n2 : ¬ 1 + n = 17 := by omega
    have n3 : ¬ 1 + n = 18 := by omega
    have n4 : ¬ 17 = 1 + n := by omega
    have n5 : ¬ 18 = 1 + n := by omega
    clear h hop hv hn hlen hx hc h0 ho
    go_enter Try.func72, Try.ntmps72
    go_wp2_with (go_at_call 27; (with_reducible refine HO.out.mono ?_); rintro e w1 ⟨rfl, hb⟩; have HB := Aside0.mk hb; obtain ⟨t0, t1, t2, f0, f1, f2⟩ := HC.out _ hb; clear hb)
    go_end0
    exact ⟨rfl, seal_post (HL.out.below HB.out) (by omega) HOP.out (Upd.ofBelow HB.out _) rfl⟩
end
end Go.Proofs.Ytmbiebdcnadhkaa.Fl

/- seglog.fresh walked. -/
namespace Go.Proofs.Ytmbiebdcnadhkaa.Fl
open Go.RowKit Go.Proofs.YtmbiebdcnadhkaaW.PrintWords Go.Proofs.YtmbiebdcnadhkaaW.PrintMore Go.Maps
set_option linter.unusedSimpArgs false
set_option linter.unusedVariables false
def newG (nx : Int) : LG := ⟨List.replicate 16 0, -1, 0, nx⟩
section
variable {q p N0 : Nat} {g : LG} {w w' : World} {D : PD} {ok : Nat → Prop}
set_option maxHeartbeats 1000000 in
set_option maxRecDepth 100000 in
theorem fresh_any (hD : DevIs N0 p D ok w) (h4 : 4 ≤ D.s.1) (nx : Int) : Calls Try.prog 65 #[.pointer (some ⟨p, 0, none⟩), .int .u64 nx] w fun e w' => ∃ q, e = .returned (.tuple #[.pointer (some ⟨q, 0, none⟩), .int .i64 0]) ∧ w.heap.size ≤ q ∧ LogIs q p (newG nx) w' ∧ Below w.heap.size w w' := by
  have HS := Lib.hid (Shape_any hD)
  have rs := fun (X : World) => run_shape1 X D.s.1 D.s.2.1 D.s.2.2
  have e1 : (D.s.1 == 0) = false := by simp; omega
  have e2 : decide (D.s.1 < 4) = false := by simp; omega
  clear hD
  go_enter Try.func65, Try.ntmps65
  go_wp2_with (go_at_call 56; (with_reducible refine HS.out.mono ?_); rintro e w2 ⟨rfl, hb⟩; have HB := Aside0.mk hb; clear hb)
  go_ret2
  exact ⟨_, rfl, HB.out.size, ⟨by simp [newG], blk_new _ _⟩, below_alloc HB.out _⟩
end
end Go.Proofs.Ytmbiebdcnadhkaa.Fl

/- seglog.New walked. -/
namespace Go.Proofs.Ytmbiebdcnadhkaa.Fl
open Go.RowKit Go.Proofs.YtmbiebdcnadhkaaW.PrintWords Go.Proofs.YtmbiebdcnadhkaaW.PrintMore Go.Maps
set_option linter.unusedSimpArgs false
set_option linter.unusedVariables false
theorem delTo_nil (a : Int) : ∀ k, delTo a k [] = []
  | 0 => rfl
  | k + 1 => by unfold delTo; rw [delTo_nil a k]; rfl
theorem erased_nil (s : Int × Int × Int) (a : Int) : erasedD ⟨s, [], []⟩ a = ⟨s, [], []⟩ := by
  unfold erasedD
  split
  · unfold eraseD
    simp [delTo_nil, keepF]
  · rfl
section
variable {q p N0 : Nat} {K : Nat → Prop} {g : LG} {w w' : World} {s : Int × Int × Int}
set_option maxHeartbeats 1000000 in
set_option maxRecDepth 100000 in
theorem LNew_any (h : Solo N0 p K ⟨s, [], []⟩ w) (hs : ShapeOk s) (h4 : 4 ≤ s.1) : Calls Try.prog 25 #[.pointer (some ⟨p, 0, none⟩)] w fun e w' => ∃ q, e = .returned (.tuple #[.pointer (some ⟨q, 0, none⟩), .int .i64 0]) ∧ Solo N0 p (fun k => K k ∨ k = q) ⟨s, [], []⟩ w' ∧ LogIs q p (newG 1) w' ∧ Below N0 w w' ∧ Kept K w w' ∧ w.heap.size ≤ q := by
  obtain ⟨ok, hD⟩ := (solo_frame _ _).dev h
  have HF := Lib.hid (fresh_any hD h4 1)
  have HSOLO := Aside0.mk h
  have hsh := fun (X : World) (K' : Nat → Prop) (h' : Solo N0 p K' ⟨s, [], []⟩ X) => (show Calls Try.prog 56 #[.pointer (some ⟨p, 0, none⟩)] X fun e w' => e = .returned (.agg #[.int .i64 s.1, .int .i64 s.2.1, .int .i64 s.2.2]) ∧ Below X.heap.size X w' from by
    obtain ⟨ok, hD⟩ := (solo_frame _ _).dev h'
    exact Shape_any hD)
  have her := fun (X : World) (K' : Nat → Prop) (h' : Solo N0 p K' ⟨s, [], []⟩ X) (a : Int) => (solo_frame N0 p).upd h' (fun ok hD => Erase_any hD a (by simp))
  simp only [erased_nil] at her
  have HSH := Lib.hid hsh
  have HER := Lib.hid her
  have a0 := hs.a0
  have a1 := hs.a1
  have rs := fun (X : World) => run_shape1 X s.1 s.2.1 s.2.2
  clear hD hsh her h hs
  go_enter Try.func25, Try.ntmps25
  go_wp2_with (first
    | (go_at_call 65; (with_reducible refine HF.out.mono ?_); rintro e w1 ⟨q, rfl, hq, hl, hb⟩; have HL1 := Aside0.mk hl; have HB1 := Aside0.mk hb; have hlt := blt hl.blk; have HS1 := Aside0.mk ((solo_frame _ _).less ((solo_frame _ _).keep HSOLO.out hb) (K' := fun k => K k ∨ k = q) (fun k hk => hk.elim .inl (fun e => .inr ⟨by rw [e]; exact hq, by rw [e]; exact hlt⟩))); clear hl hb)
    | (go_at_call 56; (with_reducible refine (HSH.out _ _ HS1.out).mono ?_); rintro e w2 ⟨rfl, hb⟩; have HL2 := Aside0.mk (HL1.out.below hb); have HS2 := Aside0.mk ((solo_frame _ _).below HS1.out hb); have HB2 := Aside0.mk (HB1.out.trans (hb.mono HB1.out.size)); clear hb))
  have hN := (solo_frame _ _).size HSOLO.out
  go_loopw [18] (fun v18 wr => ∃ k : Nat, (k : Int) ≤ s.1 ∧ v18 = .int .i64 (k : Int) ∧ Solo N0 p (fun k => K k ∨ k = q) ⟨s, [], []⟩ wr ∧ LogIs q p (newG 1) wr ∧ Below N0 w wr ∧ Kept K w wr) (fun v18 _ => (s.1 - intOf v18).toNat)
  case atStart => exact ⟨0, by omega, rfl, HS2.out, HL2.out, ⟨HB2.out.os, HB2.out.tape, HB2.out.output, HB2.out.size, fun k hk => HB2.out.block k (by omega)⟩, fun k hk => HB2.out.block k ((solo_frame _ _).lt HSOLO.out k hk)⟩
  case round =>
    obtain ⟨k, hk, rfl, hS, hl, hb, hkp⟩ := hrel
    have HS := Aside0.mk hS
    have HL := Aside0.mk hl
    have HB := Aside0.mk hb
    have HKP := Lib.hid hkp
    clear hS hl hb hkp
    by_cases hlt2 : (k : Int) < s.1
    · go_wp2_with (go_at_call 66; (with_reducible refine (HER.out _ _ HS.out _).mono ?_); rintro e w3 ⟨rfl, hS, hb, hkp⟩; have HS3 := Aside0.mk hS; have HB3 := Aside0.mk (HB.out.trans hb); have HL3 := Aside0.mk (show LogIs q p (newG 1) w3 from ⟨HL.out.len, (hkp q (.inr rfl)).trans HL.out.blk⟩); have HKP3 := Lib.hid (show Kept K w w3 from fun j hj => (hkp j (.inl hj)).trans (HKP.out j hj)); clear hS hb hkp)
      exact ⟨⟨k + 1, by omega, by go_num, HS3.out, HL3.out, HB3.out, HKP3.out⟩, by simp [intOf]; omega⟩
    · go_wp2
      go_ret2
      exact ⟨_, rfl, HS.out, HL.out, HB.out, HKP.out, hq⟩
end
end Go.Proofs.Ytmbiebdcnadhkaa.Fl

/- slices.Index over a log's states; Erase's answer: walked. -/
namespace Go.Proofs.Ytmbiebdcnadhkaa.Fl
open Go.RowKit Go.Proofs.YtmbiebdcnadhkaaW.PrintWords Go.Proofs.YtmbiebdcnadhkaaW.PrintMore Go.Maps
set_option linter.unusedSimpArgs false
set_option linter.unusedVariables false
/-- Where the first such one is. -/
def FirstAt (l : List Int) (a r : Int) : Prop := (r = -1 ∧ ∀ i, i < l.length → l[i]? ≠ some a) ∨ ∃ n : Nat, r = (n : Int) ∧ n < l.length ∧ l[n]? = some a ∧ ∀ i, i < n → l[i]? ≠ some a
def IndexPost (l : List Int) (a : Int) (w : World) (e : Ending) (w' : World) : Prop := ∃ r, e = .returned (.int .i64 r) ∧ FirstAt l a r ∧ w = w'
section
variable {q p N0 : Nat} {g : LG} {w w' : World}
set_option maxHeartbeats 1000000 in
set_option maxRecDepth 100000 in
theorem LIndex_any (h : LogIs q p g w) (a : Int) : Calls Try.prog 112 #[.slice (some ⟨q, 1, none⟩) 16 16, .int .i64 a] w (IndexPost g.st a w) := by
  have hlen := h.len
  have hc := fun (i : Nat) (x : Int) (hx : g.st[i]? = some x) => h.cst hx
  have HC := Lib.hid hc
  clear hc h
  go_enter Try.func112, Try.ntmps112
  go_wp2
  go_loopw [5, 8] (fun v5 v8 wr => ∃ k : Nat, k ≤ 16 ∧ v8 = .int .i64 (k : Int) ∧ (∀ i, i < k → g.st[i]? ≠ some a) ∧ w = wr) (fun _ v8 _ => 16 - (intOf v8).toNat)
  case atStart => exact ⟨0, Nat.zero_le _, rfl, fun i hi => by omega, rfl⟩
  case round =>
    obtain ⟨k, hk, rfl, hn, rfl⟩ := hrel
    have HN := Lib.hid hn
    clear hn
    by_cases hlt : k < 16
    · obtain ⟨x, hx⟩ : ∃ x, g.st[k]? = some x := ⟨_, List.getElem?_eq_getElem (by omega)⟩
      have kc := HC.out k x hx
      have HX := Lib.hid hx
      have k0 : (0 : Int) ≤ (k : Int) := by omega
      have k1 : (k : Int) < 16 := by omega
      clear hx
      by_cases hxa : a = x
      · have e1 : (a == x) = true := by simpa using hxa
        have HXA := Lib.hid hxa
        clear hxa
        go_wp2
        go_ret
        exact ⟨_, rfl, .inr ⟨k, rfl, by omega, by rw [HX.out, HXA.out], HN.out⟩, rfl⟩
      · have e1 : (a == x) = false := by simpa using hxa
        have HXA := Lib.hid hxa
        clear hxa
        go_wp2
        refine ⟨⟨k + 1, by omega, by go_num, ?_⟩, by simp [intOf]; omega⟩
        refine (show (∀ i, i < k + 1 → g.st[i]? ≠ some a) ∧ True from ⟨fun i hi => ?_, trivial⟩)
        by_cases hik : i = k
        · rw [hik, HX.out]
          exact fun he => HXA.out (Option.some.inj he).symm
        · exact HN.out i (by omega)
    · obtain rfl : k = 16 := by omega
      go_wp2
      go_ret
      exact ⟨_, rfl, .inl ⟨rfl, fun i hi => HN.out i (by omega)⟩, rfl⟩
end
end Go.Proofs.Ytmbiebdcnadhkaa.Fl

/- A store into a block beside the devices leaves them. -/
namespace Go.Proofs.Ytmbiebdcnadhkaa.Fl
open Go.RowKit Go.Proofs.YtmbiebdcnadhkaaW.PrintWords Go.Proofs.YtmbiebdcnadhkaaW.PrintMore Go.Maps
set_option linter.unusedSimpArgs false
set_option linter.unusedVariables false
/-- A store into a kept block that holds no bytes leaves the frame. -/
def Stores (F : (Nat → Prop) → World → Prop) : Prop := ∀ (K : Nat → Prop) (w : World) (q : Nat) (o : Array Value) (T : TypeId) (j : Nat) (v : Value), F K w → K q → w.heap[q]? = some (.cells o T (0, 0)) → T ≠ TB → F K (w.setCell ⟨q, j, none⟩ v)
theorem not_byte {w : World} {q : Nat} {o : Array Value} {T : TypeId} (hb : w.heap[q]? = some (.cells o T (0, 0))) (hT : T ≠ TB) {cs : Array Value} {fr : Nat × Nat} : w.heap[q]? ≠ some (.cells cs TB fr) := fun h => by
  rw [hb] at h
  injection h with h
  injection h with _ h _
  exact hT h
theorem two_stores (N0 p x : Nat) (D : PD) (s : Int × Int × Int) (ps : List Pg) : Stores (fun K w => Two K N0 p x D s ps w) := fun K w q o T j v h hq hb hT => by
  obtain ⟨okD, okX, hD, hX, hd, h1, h2, h0, hK⟩ := h
  have hno : ¬ okD q ∧ ¬ okX q := (hK q hq).2.elim id (fun ⟨cs, fr, e⟩ => absurd e (not_byte hb hT))
  refine ⟨okD, okX, hD.step (fun k hk _ => Below.heap_setCell w ⟨q, j, none⟩ v k (fun e => hno.1 (by have e2 : k = q := e; rw [← e2]; exact hk))), hX.step (fun k hk _ => Below.heap_setCell w ⟨q, j, none⟩ v k (fun e => hno.2 (by have e2 : k = q := e; rw [← e2]; exact hk))), hd, h1, h2, by simpa [World.setCell] using h0, fun k hk => ⟨by simpa [World.setCell] using (hK k hk).1, (hK k hk).2.imp id (fun ⟨cs, fr, e⟩ => ⟨cs, fr, (Below.heap_setCell w ⟨q, j, none⟩ v k (fun e2 => by rw [e2] at e; exact not_byte hb hT e)).trans e⟩)⟩⟩
end Go.Proofs.Ytmbiebdcnadhkaa.Fl

/- The driver's log: Sync and Erase over any frame: walked. -/
namespace Go.Proofs.Ytmbiebdcnadhkaa.Fl
open Go.RowKit Go.Proofs.YtmbiebdcnadhkaaW.PrintWords Go.Proofs.YtmbiebdcnadhkaaW.PrintMore Go.Maps
set_option linter.unusedSimpArgs false
set_option linter.unusedVariables false
/-- What Erase answers, and leaves. -/
def lEraseE (s : Int × Int × Int) (g : LG) (a : Int) : Int := if fitsB a 0 (s.1 - 1) = false then 6 else if g.st.getD a.toNat 0 = 1 then 1 else 0
def lEraseG (s : Int × Int × Int) (g : LG) (a : Int) : LG := if lEraseE s g a = 0 then { g with st := g.st.set a.toNat 0 } else g
def lEraseD (D : PD) (g : LG) (a : Int) : PD := if lEraseE D.s g a = 0 then erasedD D a else D
section
variable {N0 p q : Nat} {F : (Nat → Prop) → PD → World → Prop} {K : Nat → Prop} {D : PD} {g : LG} {w : World}
theorem below_self {B : Nat} {w w' : World} (h : Below w.heap.size w w') (hB : B ≤ w.heap.size) : Below B w w' := ⟨h.os, h.tape, h.output, h.size, fun k hk => h.block k (by omega)⟩
theorem kept_below {w w' : World} {K : Nat → Prop} (h : Below w.heap.size w w') (hlt : ∀ k, K k → k < w.heap.size) : Kept K w w' := fun k hk => h.block k (hlt k hk)
set_option maxHeartbeats 1000000 in
set_option maxRecDepth 100000 in
theorem LSync_F (hF : DevFrame N0 p F) (h : F K D w) (hl : LogIs q p g w) (hq : K q) : Calls Try.prog 74 #[.pointer (some ⟨q, 0, none⟩)] w fun e w' => e = .returned (.tuple #[]) ∧ F K { D with dirty := [] } w' ∧ LogIs q p g w' ∧ Below N0 w w' ∧ Kept K w w' := by
  have HDV := Lib.hid (LDevice_any hl)
  have hsy := hF.upd h (fun ok hD => (Sync_any hD).mono fun e w' ⟨h1, h2, h3⟩ => ⟨h1, h2.mono (fun k hk => Or.inl hk), h3⟩)
  have HSY := Lib.hid hsy
  have HL := Aside0.mk hl
  clear h hl hsy
  go_enter Try.func74, Try.ntmps74
  go_wp2_with (first
    | (go_at_call 29; (with_reducible refine HDV.out.mono ?_); rintro e w1 ⟨rfl, rfl⟩)
    | (go_at_call 13; (with_reducible refine HSY.out.mono ?_); rintro e w2 ⟨rfl, hf, hb, hk⟩; have HF := Aside0.mk hf; have HB := Aside0.mk hb; have HK := Lib.hid hk; clear hf hb hk))
  go_end0
  exact ⟨rfl, HF.out, ⟨HL.out.len, (HK.out q hq).trans HL.out.blk⟩, HB.out, HK.out⟩
set_option maxHeartbeats 1000000 in
set_option maxRecDepth 100000 in
theorem LErase_F (hF : DevFrame N0 p F) (hSt : ∀ D, Stores (fun K w => F K D w)) (h : F K D w) (hl : LogIs q p g w) (hq : K q) (hN : N0 ≤ q) (hdl : D.dirty.length < 1000000) (a : Int) : Calls Try.prog 70 #[.pointer (some ⟨q, 0, none⟩), .int .i64 a] w fun e w' => e = .returned (.int .i64 (lEraseE D.s g a)) ∧ F K (lEraseD D g a) w' ∧ LogIs q p (lEraseG D.s g a) w' ∧ Below N0 w w' ∧ Kept (fun k => K k ∧ k ≠ q) w w' := by
  obtain ⟨ok, hD⟩ := hF.dev h
  have hs := hD.sound.sh
  have a1 := hs.a1
  have hok := Lok_any hl
  have hhas := Lhas_any hl hD a
  have hsz := hF.size h
  have hlt := fun k hk => hF.lt h k hk
  have HOK := Lib.hid hok
  have HL := Aside0.mk hl
  have HFR := Aside0.mk h
  cases hf : fitsB a 0 (D.s.1 - 1) with
  | false =>
    rw [hf] at hhas
    have he : lEraseE D.s g a = 6 := by unfold lEraseE; rw [if_pos hf]
    have h1 : lEraseD D g a = D := by unfold lEraseD; rw [he]; rfl
    have h2 : lEraseG D.s g a = g := by unfold lEraseG; rw [he]; rfl
    rw [he, h1, h2]
    have HH := Lib.hid hhas
    have HLT := Lib.hid hlt
    clear h hl hD hs hok hhas hlt hf he h1 h2
    go_enter Try.func70, Try.ntmps70
    go_wp2_with (first
      | (go_at_call 75; (with_reducible refine HOK.out.mono ?_); rintro e w1 ⟨rfl, rfl⟩)
      | (go_at_call 79; (with_reducible refine HH.out.mono ?_); rintro e w2 ⟨rfl, hb⟩; have HB := Aside0.mk hb; clear hb))
    go_ret
    exact ⟨rfl, hF.below HFR.out HB.out, HL.out.below HB.out, below_self HB.out hsz, fun k hk => kept_below HB.out HLT.out k hk.1⟩
  | true =>
    rw [hf] at hhas
    have hfa := hf
    unfold fitsB at hfa
    rw [decide_eq_true_iff] at hfa
    obtain ⟨n, rfl⟩ := Int.eq_ofNat_of_zero_le hfa.1
    have hlen := hl.len
    obtain ⟨x, hx⟩ : ∃ x, g.st[n]? = some x := ⟨_, List.getElem?_eq_getElem (by omega)⟩
    have hxv : g.st.getD (n : Int).toNat 0 = x := by rw [Int.toNat_natCast, List.getD_eq_getElem?_getD, hx]; rfl
    have hc := fun (X : World) (hb : Below w.heap.size w X) => And.intro ((hl.below hb).cst hx) (hl.below hb).c0
    have hev : lEraseE D.s g (n : Int) = if x = 1 then 1 else 0 := by unfold lEraseE; rw [if_neg (by rw [hf]; decide), hxv]
    have HH := Lib.hid hhas
    have HC := Lib.hid hc
    have HLT := Lib.hid hlt
    have n0 : (0 : Int) ≤ (n : Int) := by omega
    have n1 : (n : Int) < 16 := by omega
    have hn16 : n < 16 := by omega
    by_cases hx1 : x = 1
    · have he : lEraseE D.s g (n : Int) = 1 := by rw [hev, if_pos hx1]
      have h1 : lEraseD D g (n : Int) = D := by unfold lEraseD; rw [he]; rfl
      have h2 : lEraseG D.s g (n : Int) = g := by unfold lEraseG; rw [he]; rfl
      have e1 : (x == 1) = true := by simpa using hx1
      rw [he, h1, h2]
      clear h hl hD hs hok hhas hlt hf he h1 h2 hev hx hxv hc hfa hlen hx1
      go_enter Try.func70, Try.ntmps70
      go_wp2_with (first
        | (go_at_call 75; (with_reducible refine HOK.out.mono ?_); rintro e w1 ⟨rfl, rfl⟩)
        | (go_at_call 79; (with_reducible refine HH.out.mono ?_); rintro e w2 ⟨rfl, hb⟩; obtain ⟨kc, k0⟩ := HC.out _ hb; have HB := Aside0.mk hb; clear hb))
      go_ret
      exact ⟨rfl, hF.below HFR.out HB.out, HL.out.below HB.out, below_self HB.out hsz, fun k hk => kept_below HB.out HLT.out k hk.1⟩
    · have he : lEraseE D.s g (n : Int) = 0 := by rw [hev, if_neg hx1]
      have h1 : lEraseD D g (n : Int) = erasedD D (n : Int) := by unfold lEraseD; rw [he]; rfl
      have h2 : lEraseG D.s g (n : Int) = { g with st := g.st.set n 0 } := by unfold lEraseG; rw [he]; rfl
      have e1 : (x == 1) = false := by simpa using hx1
      rw [he, h1, h2]
      have her := fun (X : World) (hX : F K D X) => hF.upd hX (fun ok hD => Erase_any hD (n : Int) hdl)
      have HER := Lib.hid her
      have HX := Lib.hid hx
      clear h hl hD hs hok hhas hlt hf he h1 h2 hev hx hxv hc hfa hlen hx1 her
      go_enter Try.func70, Try.ntmps70
      go_wp2_with (first
        | (go_at_call 75; (with_reducible refine HOK.out.mono ?_); rintro e w1 ⟨rfl, rfl⟩)
        | (go_at_call 79; (with_reducible refine HH.out.mono ?_); rintro e w2 ⟨rfl, hb⟩; obtain ⟨kc, k0⟩ := HC.out _ hb; have HB := Aside0.mk hb; clear hb)
        | (go_at_call 66; (with_reducible refine (HER.out _ (hF.below HFR.out HB.out)).mono ?_); rintro e w3 ⟨rfl, hf3, hb, hk⟩; have hl3 : LogIs q p g w3 := ⟨HL.out.len, (hk q hq).trans (HL.out.below HB.out).blk⟩; have k3 := hl3.cst HX.out; have z3 := hl3.frozen (1 + n); have HL3 := Aside0.mk hl3; have HF3 := Aside0.mk hf3; have HB3 := Aside0.mk ((below_self HB.out hsz).trans hb); have HK3 := Lib.hid (show Kept K w w3 from fun k h => (hk k h).trans (kept_below HB.out HLT.out k h)); clear hl3 hf3 hb hk kc k0))
      go_ret
      exact ⟨rfl, hSt _ K _ q _ _ _ _ HF3.out hq HL3.out.blk (by decide), HL3.out.setSt hn16 0, HB3.out.setCell (p := ⟨q, 1 + n, none⟩) hN _, fun k hk => (Below.heap_setCell _ ⟨q, 1 + n, none⟩ _ k hk.2).trans (HK3.out k hk.1)⟩
end
end Go.Proofs.Ytmbiebdcnadhkaa.Fl

/- A change of one block beside the devices leaves them; Seal over any frame. -/
namespace Go.Proofs.Ytmbiebdcnadhkaa.Fl
open Go.RowKit Go.Proofs.YtmbiebdcnadhkaaW.PrintWords Go.Proofs.YtmbiebdcnadhkaaW.PrintMore Go.Maps
set_option linter.unusedSimpArgs false
set_option linter.unusedVariables false
/-- A change of a kept block that holds no bytes, before and after, leaves the frame. -/
def Stays (F : (Nat → Prop) → World → Prop) : Prop := ∀ (K : Nat → Prop) (w w' : World) (q : Nat) (o o' : Array Value) (T : TypeId), F K w → K q → w.heap[q]? = some (.cells o T (0, 0)) → w'.heap[q]? = some (.cells o' T (0, 0)) → T ≠ TB → Upd (fun k => k = q) w w' → F K w'
theorem solo_stays (N0 p : Nat) (D : PD) : Stays (fun K w => Solo N0 p K D w) := fun K w w' q o o' T h hq hb hb' hT hu => by
  obtain ⟨ok, hD, h1, h0, hK⟩ := h
  have hno : ¬ ok q := fun hok => (hK q hq).2.elim (fun h => h hok) (fun ⟨cs, fr, e⟩ => not_byte hb hT e)
  refine ⟨_, hD.bound.step (fun k hk hlt => hu.block k hlt (fun e => hno (by rw [← e]; exact hk.1))), fun k hk => h1 k hk.1, Nat.le_trans h0 hu.size, fun k hk => ⟨Nat.lt_of_lt_of_le (hK k hk).1 hu.size, (hK k hk).2.imp (fun h2 h => h2 h.1) (fun ⟨cs, fr, e⟩ => ⟨cs, fr, (hu.block k (hK k hk).1 (fun e2 => by rw [e2] at e; exact not_byte hb hT e)).trans e⟩)⟩⟩
theorem two_stays (N0 p x : Nat) (D : PD) (s : Int × Int × Int) (ps : List Pg) : Stays (fun K w => Two K N0 p x D s ps w) := fun K w w' q o o' T h hq hb hb' hT hu => by
  obtain ⟨okD, okX, hD, hX, hd, h1, h2, h0, hK⟩ := h
  have hno : ¬ okD q ∧ ¬ okX q := (hK q hq).2.elim id (fun ⟨cs, fr, e⟩ => absurd e (not_byte hb hT))
  refine ⟨_, _, hD.bound.step (fun k hk hlt => hu.block k hlt (fun e => hno.1 (by rw [← e]; exact hk.1))), hX.bound.step (fun k hk hlt => hu.block k hlt (fun e => hno.2 (by rw [← e]; exact hk.1))), fun k a b => hd k a.1 b.1, fun k hk => h1 k hk.1, fun k hk => h2 k hk.1, Nat.le_trans h0 hu.size, fun k hk => ⟨Nat.lt_of_lt_of_le (hK k hk).1 hu.size, (hK k hk).2.imp (fun h2 => ⟨fun h => h2.1 h.1, fun h => h2.2 h.1⟩) (fun ⟨cs, fr, e⟩ => ⟨cs, fr, (hu.block k (hK k hk).1 (fun e2 => by rw [e2] at e; exact not_byte hb hT e)).trans e⟩)⟩⟩
section
variable {N0 p q : Nat} {F : (Nat → Prop) → PD → World → Prop} {K : Nat → Prop} {D : PD} {g : LG} {w : World}
theorem LSeal_F (hSt : ∀ D, Stays (fun K w => F K D w)) (h : F K D w) (hl : LogIs q p g w) (hq : K q) (hN : N0 ≤ q) (hN2 : N0 ≤ w.heap.size) (hlt : ∀ k, K k → k < w.heap.size) (ho : g.op < 16) : Calls Try.prog 72 #[.pointer (some ⟨q, 0, none⟩)] w fun e w' => e = .returned (.tuple #[]) ∧ F K D w' ∧ LogIs q p (sealG g) w' ∧ Below N0 w w' ∧ Kept (fun k => K k ∧ k ≠ q) w w' :=
  (LSeal_any hl ho).mono fun e w' ⟨h1, h2, h3⟩ => ⟨h1, hSt D K w w' q _ _ _ h hq hl.blk h2.blk (by decide) h3, h2, h3.below hN2 (fun k hk => by rw [hk]; exact hN), fun k hk => h3.block k (hlt k hk.1) hk.2⟩
end
end Go.Proofs.Ytmbiebdcnadhkaa.Fl

/- The driver's log: turn over any frame: walked. -/
namespace Go.Proofs.Ytmbiebdcnadhkaa.Fl
open Go.RowKit Go.Proofs.YtmbiebdcnadhkaaW.PrintWords Go.Proofs.YtmbiebdcnadhkaaW.PrintMore Go.Maps
set_option linter.unusedSimpArgs false
set_option linter.unusedVariables false
theorem sealG_nx (g : LG) : (sealG g).nx = g.nx := by unfold sealG; split <;> rfl
section
variable {N0 p q : Nat} {F : (Nat → Prop) → PD → World → Prop} {K : Nat → Prop} {D : PD} {g : LG} {w : World}
set_option maxHeartbeats 2000000 in
set_option maxRecDepth 100000 in
theorem LTurn_F (hF : DevFrame N0 p F) (hSt : ∀ D, Stays (fun K w => F K D w)) (h : F K D w) (hl : LogIs q p g w) (hq : K q) (hN : N0 ≤ q) (ho : g.op < 16) (hnx : SeqOk g.nx) (hnx2 : g.nx < 1000000) (hnx0 : 0 ≤ g.nx) (hd : D.dirty.length < 900000) {n : Nat} (hn : n < 16) (hfirst : ∀ r, FirstAt (sealG g).st 0 r → r = (n : Int)) :
    Calls Try.prog 123 #[.pointer (some ⟨q, 0, none⟩)] w fun e w' => e = .returned (.tuple #[]) ∧ F K (appD D (n : Int) 0 0 (rec 1 g.nx [])) w' ∧ LogIs q p ⟨(sealG g).st.set n 1, (n : Int), 1, g.nx + 1⟩ w' ∧ Below N0 w w' ∧ Kept (fun k => K k ∧ k ≠ q) w w' := by
  have hsh := hF.shape h
  have hse := LSeal_F hSt h hl hq hN (hF.size h) (fun k hk => hF.lt h k hk) ho
  obtain ⟨g1, hg1⟩ : ∃ g1, g1 = sealG g := ⟨_, rfl⟩
  have hgn : g1.nx = g.nx := by rw [hg1]; exact sealG_nx g
  rw [← hg1] at hse hfirst ⊢
  have HSE := Lib.hid hse
  have HFI := Lib.hid hfirst
  have HGN := Lib.hid hgn
  have HSHAPE := Lib.hid hsh
  clear hse hfirst hgn hg1 hsh h hl
  go_enter Try.func123, Try.ntmps123
  go_wp2_with (first
    | (go_at_call 72; (with_reducible refine HSE.out.mono ?_); rintro e w1 ⟨rfl, hf, hl, hb, hk⟩; have HF1 := Aside0.mk hf; have HL1 := Aside0.mk hl; have HB1 := Aside0.mk hb; have HK1 := Lib.hid hk; have k0 := hl.c0; have k19 := hl.c19; rw [HGN.out] at k19; clear hf hl hb hk)
    | (go_at_call 112; (with_reducible refine (LIndex_any HL1.out 0).mono ?_); rintro e w2 ⟨r, rfl, hr, rfl⟩; obtain rfl := HFI.out r hr; clear hr))
  have hst := fun (X : World) (hX : F K D X) => Start_F hF hX (n : Int) hnx hd
  have hl1d : LogIs q p g1 w1.drew := ⟨HL1.out.len, HL1.out.blk⟩
  have HST := Lib.hid hst
  have HD1 := Aside0.mk (hF.below HF1.out (below_drew (Below.refl _ w1)))
  obtain ⟨x, hx⟩ : ∃ x, g1.st[n]? = some x := ⟨_, List.getElem?_eq_getElem (by have := HL1.out.len; omega)⟩
  have HX := Lib.hid hx
  have HLD := Aside0.mk hl1d
  clear hst hl1d hx
  go_region_held3 (fun w' => w'.cell? ⟨q, 0, none⟩ = some (.pointer (some ⟨p, 0, none⟩)) ∧ w'.cell? ⟨q, 19, none⟩ = some (.int .u64 g.nx)) (first | go_keep | exact ⟨z0, z19⟩)
    (first | (go_at_call 12; (with_reducible refine (HST.out _ HD1.out).mono ?_); rintro e w3 ⟨rfl, hf, hb, hk⟩; have hl3 : LogIs q p g1 w3 := ⟨HL1.out.len, (hk q hq).trans HLD.out.blk⟩; have z0 := hl3.c0; have z19 := hl3.c19; rw [HGN.out] at z19; have HF3 := Aside0.mk hf; have HB3 := Aside0.mk ((⟨HB1.out.os, HB1.out.tape, HB1.out.output, HB1.out.size, HB1.out.block⟩ : Below N0 w w1.drew).trans hb); have HK3 := Lib.hid (show Kept (fun k => K k ∧ k ≠ q) w w3 from fun k h => (hk k h.1).trans (HK1.out k h)); have HL3 := Aside0.mk hl3; clear hf hb hk hl3))
  have t0 := HL3.out.cst HX.out
  have t1 := HL3.out.c17
  have t2 := HL3.out.c18
  have f0 := HL3.out.frozen (1 + n)
  have f1 := HL3.out.frozen 17
  have f2 := HL3.out.frozen 18
  have f3 := HL3.out.frozen 19
  have n0 : (0 : Int) ≤ (n : Int) := by omega
  have n1 : (n : Int) < 16 := by omega
  have n2 : ¬ 1 + n = 17 := by omega
  have n3 : ¬ 1 + n = 18 := by omega
  have n4 : ¬ 17 = 1 + n := by omega
  have n5 : ¬ 18 = 1 + n := by omega
  have n6 : ¬ 1 + n = 19 := by omega
  have n7 : ¬ 19 = 1 + n := by omega
  have n8 : ¬ 1 + n = 0 := by omega
  have n9 : ¬ 0 = 1 + n := by omega
  have hw : IntKind.u64.wrap (g.nx + 1) = g.nx + 1 := IntWalk.u64_in _ (by omega)
  go_wp2_with fail
  have hl4 := (HL3.out.setSt hn 1).setOp (n : Int)
  obtain ⟨w4, hw4⟩ : ∃ w4, w4 = (w3.setCell ⟨q, 1 + n, none⟩ (.int .i64 1)).setCell ⟨q, 17, none⟩ (.int .i64 (n : Int)) := ⟨_, rfl⟩
  rw [← hw4] at hl4 ⊢
  have hu4 : Upd (fun k => k = q) w3 w4 := by
    rw [hw4]
    exact (Upd.setCell w3 (p := ⟨q, 1 + n, none⟩) (S := fun k => k = q) rfl _).trans (Upd.setCell _ (p := ⟨q, 17, none⟩) (S := fun k => k = q) rfl _) (fun k hk _ => hk)
  have hf4 := hSt _ K w3 w4 q _ _ _ HF3.out hq HL3.out.blk hl4.blk (by decide) hu4
  obtain ⟨okd, hD4⟩ := hF.dev hf4
  have hsp : Calls Try.prog 56 #[.pointer (some ⟨p, 0, none⟩)] w4 fun e w' => e = .returned (.agg #[.int .i64 D.s.1, .int .i64 D.s.2.1, .int .i64 D.s.2.2]) ∧ Below w4.heap.size w4 w' := by
    have := Shape_any hD4
    rw [appD_s] at this
    exact this
  have hpg : ∀ X : World, Calls Try.prog 85 #[.int .i64 0, .int .i64 D.s.2.2] X fun e w' => e = .returned (.int .i64 1) ∧ Below X.heap.size X w' := fun X => by
    have := Pages_ok 0 D.s HSHAPE.out (by omega) X
    rw [kpg_zero HSHAPE.out] at this
    exact this
  have rs := fun (X : World) => run_shape3 X D.s.1 D.s.2.1 D.s.2.2
  have HSP := Lib.hid hsp
  have HPG := Lib.hid hpg
  have HF4 := Aside0.mk hf4
  have HL4 := Aside0.mk hl4
  have HU4 := Aside0.mk hu4
  clear hsp hpg hf4 hl4 hu4 hD4 hw4 t0 t1 t2 f0 f1 f2 f3 z0 z19 k0 k19
  go_wp2_with (first
    | (go_at_call 56; (with_reducible refine HSP.out.mono ?_); rintro e w5 ⟨rfl, hb⟩; have HB5 := Aside0.mk hb; clear hb)
    | (go_at_call 85; (with_reducible refine (HPG.out _).mono ?_); rintro e w6 ⟨rfl, hb⟩; have HB6 := Aside0.mk (HB5.out.trans (hb.mono HB5.out.size)); have hl6 := HL4.out.below HB6.out; have t2 := hl6.c18; have z19 := hl6.c19; simp only [HGN.out] at z19; have f2 := hl6.frozen 18; have f3 := hl6.frozen 19; have HL6 := Aside0.mk hl6; clear hb hl6))
  go_end0
  have h7 := (HL6.out.setPg 1).setNx (g.nx + 1)
  have hu7 : Upd (fun k => k = q) w6 ((w6.setCell ⟨q, 18, none⟩ (.int .i64 1)).setCell ⟨q, 19, none⟩ (.int .u64 (g.nx + 1))) := (Upd.setCell w6 (p := ⟨q, 18, none⟩) (S := fun k => k = q) rfl _).trans (Upd.setCell _ (p := ⟨q, 19, none⟩) (S := fun k => k = q) rfl _) (fun k hk _ => hk)
  have hf7 := hSt _ K w6 _ q _ _ _ (hF.below HF4.out HB6.out) hq HL6.out.blk h7.blk (by decide) hu7
  have hs3 := hF.size HF3.out
  have hs4 := hF.size HF4.out
  have b4 := HB3.out.trans (HU4.out.below hs3 (fun k hk => by rw [hk]; exact hN))
  have b6 := b4.trans (HB6.out.mono hs4)
  have b7 := b6.trans (hu7.below (Nat.le_trans hs4 HB6.out.size) (fun k hk => by rw [hk]; exact hN))
  refine ⟨rfl, hf7, h7, b7, fun k hk => ?_⟩
  have l3 := hF.lt HF3.out k hk.1
  have l4 := hF.lt HF4.out k hk.1
  exact (hu7.block k (Nat.lt_of_lt_of_le l4 HB6.out.size) hk.2).trans ((HB6.out.block k l4).trans ((HU4.out.block k l3 hk.2).trans (HK3.out k hk)))
end
end Go.Proofs.Ytmbiebdcnadhkaa.Fl

/- The closure of put: walked. -/
namespace Go.Proofs.Ytmbiebdcnadhkaa.Fl
open Go.RowKit Go.Proofs.YtmbiebdcnadhkaaW.PrintWords Go.Proofs.YtmbiebdcnadhkaaW.PrintMore Go.Maps
set_option linter.unusedSimpArgs false
set_option linter.unusedVariables false
section
variable {w : World} {sb db : Nat} {s : Int × Int × Int} {A : Option Addr} {c : Nat} {n : Nat}
set_option maxHeartbeats 1000000 in
set_option maxRecDepth 100000 in
theorem PutFits_any (hs : ShapeOk s) (h0 : w.cell? ⟨sb, 0, none⟩ = some (.int .i64 s.1)) (h1 : w.cell? ⟨sb, 1, none⟩ = some (.int .i64 s.2.1)) (h2 : w.cell? ⟨sb, 2, none⟩ = some (.int .i64 s.2.2)) (h3 : w.cell? ⟨db, 0, none⟩ = some (.slice A n c)) (hn : n ≤ 9223372036854775807) (pg : Int) :
    Calls Try.prog 122 #[.int .i64 pg, .pointer (some ⟨sb, 0, none⟩), .pointer (some ⟨db, 0, none⟩)] w fun e w' => e = .returned (.bool (fitsS s pg n)) ∧ Below w.heap.size w w' := by
  have HFT := Lib.hid (Fits_ok s hs pg n hn w)
  clear hs
  go_enter Try.func122, Try.ntmps122
  go_wp2_with (go_at_call 46; (with_reducible refine HFT.out.mono ?_); rintro e w1 ⟨rfl, hb⟩; have HB := Aside0.mk hb; clear hb)
  go_ret
  exact ⟨rfl, HB.out⟩
end
end Go.Proofs.Ytmbiebdcnadhkaa.Fl

/- The driver's log: put over any frame: walked. -/
namespace Go.Proofs.Ytmbiebdcnadhkaa.Fl
open Go.RowKit Go.Proofs.YtmbiebdcnadhkaaW.PrintWords Go.Proofs.YtmbiebdcnadhkaaW.PrintMore Go.Maps
set_option linter.unusedSimpArgs false
set_option linter.unusedVariables false
theorem size_alloc (w : World) (o : Obj) : (w.alloc o).heap.size = w.heap.size + 1 := by
  show (w.heap.push o).size = _
  rw [Array.size_push]
theorem pair_blk (w : World) (o o' : Obj) : ((w.alloc o).alloc o').heap[w.heap.size]? = some o ∧ ((w.alloc o).alloc o').heap[w.heap.size + 1]? = some o' := by
  have h1 := blk_new w o
  have h2 := blk_new (w.alloc o) o'
  have hs := size_alloc w o
  rw [hs] at h2
  exact ⟨((below_alloc (Below.refl _ _) _).block _ (by rw [hs]; omega)).trans h1, h2⟩
abbrev TBs : TypeId := 36
abbrev TSh : TypeId := 23
theorem putfits_clo : CloFn 122 := ⟨_, Try.func122, by kernel_rfl, rfl⟩
/-- What is called with a wanted guard. -/
theorem closG {ops : Array Oper} {Q : Exit → Act → World → Prop} {rest : List Oper} {oi : Oper} {a : Act} {w : World} (N : Option Tmp) (hd : oi.dst = N) (hw : Region.wanted oi (yielded ops a.tmps) = true) (t : Tmp) {f : FuncId} {caps : Array Value} {as_ : Array Operand} {ts : Array TypeId} (hf : CloFn f) (args : Array Value)
    (hop : oi.op = .call { callee := .value (.tmp t), args := as_, argTypes := ts }) (ht : a.eval (.tmp t) = .func (.func f) #[] caps) (hargs : as_.map a.eval = args)
    (h : Calls Try.prog f (args ++ caps) w fun e w' => ∃ v, e = .returned v ∧ wpList Try.prog ops Q rest (a.put N v) w') : wpList Try.prog ops Q (oi :: rest) a w := by
  obtain ⟨fn, hf, hname, hb⟩ := hf
  refine wpList_step fun K hK => ?_
  simp only [hw, if_true]
  have he := Go.Proofs.YtmbiebdcnadhkaaW.PrintLast.enters_ hf hname hb (args ++ caps) w
  have hrun : (execOp a.eval oi).run Try.prog w = .ok (.enter f (args ++ caps)) w := by
    unfold execOp
    simp [hop, resolve, Deferred.ofValue, invoke, ht, hargs, he]
  unfold Oper.wp
  rw [hrun, Oper.upon_enter]
  refine h.mono fun e w'' hh => ?_
  obtain ⟨v, rfl, hk⟩ := hh
  rw [hd]
  exact hK _ _ hk
def PutPost (N0 q p : Nat) (F : (Nat → Prop) → PD → World → Prop) (K : Nat → Prop) (w : World) (at_ : Adr) (er : Int) (D : PD) (g : LG) (e : Ending) (w' : World) : Prop :=
  e = .returned (.tuple #[.agg #[.int .i64 at_.1, .int .i64 at_.2], .int .i64 er]) ∧ F K D w' ∧ LogIs q p g w' ∧ Below N0 w w' ∧ Kept (fun k => K k ∧ k ≠ q) w w'
section
variable {N0 p q : Nat} {F : (Nat → Prop) → PD → World → Prop} {K : Nat → Prop} {D : PD} {g : LG} {w : World} {A : Option Addr} {c : Nat} {l : List Int} {kind need : Int}
theorem put_end {K2 : Nat → Prop} {X w9 : World} {b : Nat} {a0 a1 v0 v1 : Value} {D2 : PD} {g2 : LG} (hF : DevFrame N0 p F) (hSt : ∀ D, Stays (fun K w => F K D w)) (hf : F K2 D2 X) (hl : LogIs q p g2 X) (hq : K q) (hlt : ∀ k, K k → k < w.heap.size) (hN : N0 ≤ w.heap.size) (hwb : w.heap.size ≤ b) (hb : X.heap[b]? = some (.cells #[a0, a1] TA (0, 0))) (hKb : K2 b) (hKK : ∀ k, K k → K2 k) (hbl : Below N0 w X) (hkp : Kept (fun k => K k ∧ k ≠ q) w X) (he : w9 = (X.setCell ⟨b, 0, none⟩ v0).setCell ⟨b, 1, none⟩ v1) :
    w9.heap[b]? = some (.cells #[v0, v1] TA (0, 0)) ∧ F K D2 w9 ∧ LogIs q p g2 w9 ∧ Below N0 w w9 ∧ Kept (fun k => K k ∧ k ≠ q) w w9 := by
  subst he
  have hne : q ≠ b := by have := hlt q hq; omega
  have hu : Upd (fun k => k = b) X ((X.setCell ⟨b, 0, none⟩ v0).setCell ⟨b, 1, none⟩ v1) := (Upd.setCell X (p := ⟨b, 0, none⟩) (S := fun k => k = b) rfl _).trans (Upd.setCell _ (p := ⟨b, 1, none⟩) (S := fun k => k = b) rfl _) (fun k hk _ => hk)
  have hb9 : ((X.setCell ⟨b, 0, none⟩ v0).setCell ⟨b, 1, none⟩ v1).heap[b]? = some (.cells #[v0, v1] TA (0, 0)) := setCell_blk (setCell_blk hb 0 v0) 1 v1
  refine ⟨hb9, hF.less (hSt D2 K2 X _ b _ _ _ hf hKb hb hb9 (by decide) hu) hKK, ⟨hl.len, (hu.block q (blt hl.blk) hne).trans hl.blk⟩, hbl.trans (hu.below (by have := hbl.size; omega) (fun k hk => by rw [hk]; omega)), fun k hk => (hu.block k (hF.lt hf k (hKK k hk.1)) (fun e => by have := hlt k hk.1; omega)).trans (hkp k hk)⟩
set_option maxHeartbeats 4000000 in
set_option maxRecDepth 100000 in
theorem LPut_head (hF : DevFrame N0 p F) (hSt : ∀ D, Stays (fun K w => F K D w)) (h : F K D w) (hl : LogIs q p g w) (hq : K q) (hN : N0 ≤ q) (hC : kB.C w A l.length l) (hc : l.length ≤ c) (hm : l.length < 1000000) : Calls Try.prog 101 #[.pointer (some ⟨q, 0, none⟩), .int .u8 1, .slice A l.length c, .int .i64 need] w (PutPost N0 q p F K w (0, 0) 1 D g) := by
  obtain ⟨n, hn⟩ : ∃ n, n = l.length := ⟨_, rfl⟩
  have hsz := hF.size h
  have hlt := fun k hk => hF.lt h k hk
  obtain ⟨W, hW⟩ : ∃ W, W = (w.alloc (.cells #[.slice A n c] TBs)).alloc (.cells #[.int .i64 0, .int .i64 0] TA) := ⟨_, rfl⟩
  obtain ⟨q6, q8⟩ := pair_blk w (.cells #[.slice A n c] TBs) (.cells #[.int .i64 0, .int .i64 0] TA)
  rw [← hW] at q6 q8
  have wb : Below w.heap.size w W := by rw [hW]; exact below_alloc (below_alloc (Below.refl _ _) _) _
  have wsz : W.heap.size = w.heap.size + 2 := by rw [hW, size_alloc, size_alloc]
  have hf1 := hF.keep h wb
  have hl1 := hl.below wb
  obtain ⟨ok1, hD1⟩ := hF.dev hf1
  have hsh := hD1.sound.sh
  have HOK := Lib.hid (Lok_any hl1)
  have HSHP := Lib.hid (Shape_any hD1)
  have HF1 := Aside0.mk hf1
  have HL1 := Aside0.mk hl1
  have HW := Lib.hid hW
  have Q6 := Lib.hid q6
  have Q8 := Lib.hid q8
  have WB := Aside0.mk wb
  have HSH := Lib.hid hsh
  have HN := Lib.hid hn
  have HLT := Lib.hid hlt
  have k0 : W.cell? ⟨q, 0, none⟩ = some (.pointer (some ⟨p, 0, none⟩)) := hl1.c0
  rw [← hn] at hc hm
  rw [← hn]
  clear h hl hn hlt hf1 hl1 hD1 hsh hW q6 q8 wb
  go_enter Try.func101, Try.ntmps101
  go_wp2_with (first
    | (rw [← HW.out])
    | (rw [← HW3.out])
    | (go_at_call 75; (with_reducible refine HOK.out.mono ?_); rintro e w1 ⟨rfl, rfl⟩)
    | (go_at_call 56; (with_reducible refine HSHP.out.mono ?_); rintro e w2 ⟨rfl, hb2⟩; obtain ⟨W3, hW3⟩ : ∃ W3, W3 = w2.alloc (.cells #[.int .i64 D.s.1, .int .i64 D.s.2.1, .int .i64 D.s.2.2] TSh) := ⟨_, rfl⟩; have q10 : W3.heap[w2.heap.size]? = some (.cells #[.int .i64 D.s.1, .int .i64 D.s.2.1, .int .i64 D.s.2.2] TSh (0, 0)) := (by rw [hW3]; exact blk_new _ _); have b23 : Below w2.heap.size w2 W3 := (by rw [hW3]; exact below_alloc (Below.refl _ _) _); have hbb := hb2.trans (b23.mono hb2.size); have HF3 := Aside0.mk (hF.keep (hF.below HF1.out hb2) b23); have HL3 := Aside0.mk (HL1.out.below hbb); have p6 := (hbb.block _ (blt Q6.out)).trans Q6.out; have p8 := (hbb.block _ (blt Q8.out)).trans Q8.out; have P6 := Lib.hid p6; have P8 := Lib.hid p8; have Q10 := Lib.hid q10; have BB := Aside0.mk hbb; have HW3 := Lib.hid hW3; have z0 : W3.cell? ⟨w.heap.size + 1, 0, none⟩ = some (.int .i64 0) := bcell p8 0; have z1 : W3.cell? ⟨w.heap.size + 1, 1, none⟩ = some (.int .i64 0) := bcell p8 1; have zf : ∀ j, W3.frozen? ⟨w.heap.size + 1, j, none⟩ = false := (fun j => bfrozen p8 j); have y2 : W3.cell? ⟨w2.heap.size, 2, none⟩ = some (.int .i64 D.s.2.2) := bcell q10 2; clear hb2 hW3 q10 b23 hbb p6 p8))
  obtain ⟨w9, hw9⟩ : ∃ w9, w9 = (W3.setCell ⟨w.heap.size + 1, 0, none⟩ (.int .i64 0)).setCell ⟨w.heap.size + 1, 1, none⟩ (.int .i64 0) := ⟨_, rfl⟩
  rw [← hw9]
  obtain ⟨r8, hf9, hl9, hb9, hk9⟩ := put_end hF hSt HF3.out HL3.out hq HLT.out hsz (Nat.le_succ _) P8.out (.inl (.inr ⟨Nat.le_succ _, by omega⟩)) (fun k hk => .inl (.inl hk)) ((WB.out.trans ((BB.out).mono (by omega))).mono hsz) (fun k hk => (((BB.out).mono (by omega)).block k (HLT.out k hk.1)).trans (WB.out.block k (HLT.out k hk.1))) hw9
  have r0 := bcell r8 0
  have r1 := bcell r8 1
  exact bodyPost_ret (v := .tuple #[.agg #[.int .i64 0, .int .i64 0], .int .i64 1]) (by simp [results, Try.results101, go_sem, r0, r1]) rfl ⟨rfl, hf9, hl9, hb9, hk9⟩
set_option maxHeartbeats 4000000 in
set_option maxRecDepth 100000 in
theorem LPut_big (hF : DevFrame N0 p F) (hSt : ∀ D, Stays (fun K w => F K D w)) (h : F K D w) (hl : LogIs q p g w) (hq : K q) (hN : N0 ≤ q) (hC : kB.C w A l.length l) (hc : l.length ≤ c) (hm : l.length < 1000000) (hk : kind ≠ 1) (hv1 : fitsS D.s 1 l.length = false) : Calls Try.prog 101 #[.pointer (some ⟨q, 0, none⟩), .int .u8 kind, .slice A l.length c, .int .i64 need] w (PutPost N0 q p F K w (0, 0) 10 D g) := by
  have hpg : ∀ X : World, Calls Try.prog 85 #[.int .i64 0, .int .i64 D.s.2.2] X fun e w' => e = .returned (.int .i64 1) ∧ Below X.heap.size X w' := fun X => by
    have := Pages_ok 0 D.s (hF.shape h) (by omega) X
    rw [kpg_zero (hF.shape h)] at this
    exact this
  have HPG := Lib.hid hpg
  have HKI := Lib.hid (show (kind == 1) = false by simpa using hk)
  have e_k := HKI.out
  have HV1 := Lib.hid hv1
  obtain ⟨n, hn⟩ : ∃ n, n = l.length := ⟨_, rfl⟩
  have hsz := hF.size h
  have hlt := fun k hk => hF.lt h k hk
  obtain ⟨W, hW⟩ : ∃ W, W = (w.alloc (.cells #[.slice A n c] TBs)).alloc (.cells #[.int .i64 0, .int .i64 0] TA) := ⟨_, rfl⟩
  obtain ⟨q6, q8⟩ := pair_blk w (.cells #[.slice A n c] TBs) (.cells #[.int .i64 0, .int .i64 0] TA)
  rw [← hW] at q6 q8
  have wb : Below w.heap.size w W := by rw [hW]; exact below_alloc (below_alloc (Below.refl _ _) _) _
  have wsz : W.heap.size = w.heap.size + 2 := by rw [hW, size_alloc, size_alloc]
  have hf1 := hF.keep h wb
  have hl1 := hl.below wb
  obtain ⟨ok1, hD1⟩ := hF.dev hf1
  have hsh := hD1.sound.sh
  have HOK := Lib.hid (Lok_any hl1)
  have HSHP := Lib.hid (Shape_any hD1)
  have HF1 := Aside0.mk hf1
  have HL1 := Aside0.mk hl1
  have HW := Lib.hid hW
  have Q6 := Lib.hid q6
  have Q8 := Lib.hid q8
  have WB := Aside0.mk wb
  have HSH := Lib.hid hsh
  have HN := Lib.hid hn
  have HLT := Lib.hid hlt
  have k0 : W.cell? ⟨q, 0, none⟩ = some (.pointer (some ⟨p, 0, none⟩)) := hl1.c0
  rw [← hn] at hc hm
  rw [← hn]
  clear h hl hn hlt hf1 hl1 hD1 hsh hW q6 q8 wb hpg hv1 hk
  go_enter Try.func101, Try.ntmps101
  go_wp2_with (first
    | (rw [← HW.out])
    | (rw [← HW3.out])
    | (go_at_call 75; (with_reducible refine HOK.out.mono ?_); rintro e w1 ⟨rfl, rfl⟩)
    | (go_at_call 56; (with_reducible refine HSHP.out.mono ?_); rintro e w2 ⟨rfl, hb2⟩; obtain ⟨W3, hW3⟩ : ∃ W3, W3 = w2.alloc (.cells #[.int .i64 D.s.1, .int .i64 D.s.2.1, .int .i64 D.s.2.2] TSh) := ⟨_, rfl⟩; have q10 : W3.heap[w2.heap.size]? = some (.cells #[.int .i64 D.s.1, .int .i64 D.s.2.1, .int .i64 D.s.2.2] TSh (0, 0)) := (by rw [hW3]; exact blk_new _ _); have b23 : Below w2.heap.size w2 W3 := (by rw [hW3]; exact below_alloc (Below.refl _ _) _); have hbb := hb2.trans (b23.mono hb2.size); have HF3 := Aside0.mk (hF.keep (hF.below HF1.out hb2) b23); have HL3 := Aside0.mk (HL1.out.below hbb); have p6 := (hbb.block _ (blt Q6.out)).trans Q6.out; have p8 := (hbb.block _ (blt Q8.out)).trans Q8.out; have P6 := Lib.hid p6; have P8 := Lib.hid p8; have Q10 := Lib.hid q10; have BB := Aside0.mk hbb; have HW3 := Lib.hid hW3; have z0 : W3.cell? ⟨w.heap.size + 1, 0, none⟩ = some (.int .i64 0) := bcell p8 0; have z1 : W3.cell? ⟨w.heap.size + 1, 1, none⟩ = some (.int .i64 0) := bcell p8 1; have zf : ∀ j, W3.frozen? ⟨w.heap.size + 1, j, none⟩ = false := (fun j => bfrozen p8 j); have y2 : W3.cell? ⟨w2.heap.size, 2, none⟩ = some (.int .i64 D.s.2.2) := bcell q10 2; clear hb2 hW3 q10 b23 hbb p6 p8)
    | (go_at_call 85; (with_reducible refine (HPG.out _).mono ?_); rintro e w4 ⟨rfl, hb4⟩; have x6 := (hb4.block _ (blt P6.out)).trans P6.out; have x10 := (hb4.block _ (blt Q10.out)).trans Q10.out; have X6 := Lib.hid x6; have X10 := Lib.hid x10; have HB4 := Aside0.mk hb4; clear x6 x10 hb4)
    | ((with_reducible refine gate_dst (N := 34) rfl ?_); (refine closL (some 34) rfl rfl 30 putfits_clo #[.int .i64 1] rfl rfl (by simp only [List.map_toArray, List.map_cons, List.map_nil]; rfl) ?_; refine (PutFits_any (w := w4) HSH.out (bcell X10.out 0) (bcell X10.out 1) (bcell X10.out 2) (bcell X6.out 0) (show n ≤ 9223372036854775807 by omega) 1).mono ?_; (have hvv := HV1.out; rw [← HN.out] at hvv; rw [hvv]; clear hvv); rintro e w5 ⟨rfl, hb5⟩; refine ⟨_, rfl, ?_⟩; have HB5 := Aside0.mk (HB4.out.trans (hb5.mono HB4.out.size)); have hl5 := HL3.out.below HB5.out; have k05 := hl5.c0; have k17 := hl5.c17; have k18 := hl5.c18; have x6 := (HB5.out.block _ (blt P6.out)).trans P6.out; have x8 := (HB5.out.block _ (blt P8.out)).trans P8.out; have x10 := (HB5.out.block _ (blt Q10.out)).trans Q10.out; have X65 := Lib.hid x6; have X85 := Lib.hid x8; have X105 := Lib.hid x10; have z05 : w5.cell? ⟨w.heap.size + 1, 0, none⟩ = some (.int .i64 0) := bcell x8 0; have z15 : w5.cell? ⟨w.heap.size + 1, 1, none⟩ = some (.int .i64 0) := bcell x8 1; have zf5 : ∀ j, w5.frozen? ⟨w.heap.size + 1, j, none⟩ = false := (fun j => bfrozen x8 j); have HL5 := Aside0.mk hl5; have HF5 := Aside0.mk (hF.below HF3.out HB5.out); clear hb5 hl5 x6 x8 x10)))
  obtain ⟨w9, hw9⟩ : ∃ w9, w9 = (w5.setCell ⟨w.heap.size + 1, 0, none⟩ (.int .i64 0)).setCell ⟨w.heap.size + 1, 1, none⟩ (.int .i64 0) := ⟨_, rfl⟩
  rw [← hw9]
  obtain ⟨r8, hf9, hl9, hb9, hk9⟩ := put_end hF hSt HF5.out HL5.out hq HLT.out hsz (Nat.le_succ _) X85.out (.inl (.inr ⟨Nat.le_succ _, by omega⟩)) (fun k hk => .inl (.inl hk)) ((WB.out.trans ((BB.out.trans (HB5.out.mono BB.out.size)).mono (by omega))).mono hsz) (fun k hk => (((BB.out.trans (HB5.out.mono BB.out.size)).mono (by omega)).block k (HLT.out k hk.1)).trans (WB.out.block k (HLT.out k hk.1))) hw9
  have r0 := bcell r8 0
  have r1 := bcell r8 1
  exact bodyPost_ret (v := .tuple #[.agg #[.int .i64 0, .int .i64 0], .int .i64 10]) (by simp [results, Try.results101, go_sem, r0, r1]) rfl ⟨rfl, hf9, hl9, hb9, hk9⟩
set_option maxHeartbeats 4000000 in
set_option maxRecDepth 100000 in
theorem LPut_full0 (hF : DevFrame N0 p F) (hSt : ∀ D, Stays (fun K w => F K D w)) (h : F K D w) (hl : LogIs q p g w) (hq : K q) (hN : N0 ≤ q) (hC : kB.C w A l.length l) (hc : l.length ≤ c) (hm : l.length < 1000000) (hk : kind ≠ 1) (hv1 : fitsS D.s 1 l.length = true) (ho : g.op < 0) (hcn : (cnt 0 (g.st.take D.s.1.toNat) : Int) < need) : Calls Try.prog 101 #[.pointer (some ⟨q, 0, none⟩), .int .u8 kind, .slice A l.length c, .int .i64 need] w (PutPost N0 q p F K w (0, 0) 5 D g) := by
  have hpg : ∀ X : World, Calls Try.prog 85 #[.int .i64 0, .int .i64 D.s.2.2] X fun e w' => e = .returned (.int .i64 1) ∧ Below X.heap.size X w' := fun X => by
    have := Pages_ok 0 D.s (hF.shape h) (by omega) X
    rw [kpg_zero (hF.shape h)] at this
    exact this
  have HPG := Lib.hid hpg
  have HKI := Lib.hid (show (kind == 1) = false by simpa using hk)
  have e_k := HKI.out
  have HV1 := Lib.hid hv1
  obtain ⟨c0, hc0⟩ : ∃ c0, c0 = cnt 0 (g.st.take D.s.1.toNat) := ⟨_, rfl⟩
  rw [← hc0] at hcn
  have HC0 := Lib.hid hc0
  clear hc0
  obtain ⟨n, hn⟩ : ∃ n, n = l.length := ⟨_, rfl⟩
  have hsz := hF.size h
  have hlt := fun k hk => hF.lt h k hk
  obtain ⟨W, hW⟩ : ∃ W, W = (w.alloc (.cells #[.slice A n c] TBs)).alloc (.cells #[.int .i64 0, .int .i64 0] TA) := ⟨_, rfl⟩
  obtain ⟨q6, q8⟩ := pair_blk w (.cells #[.slice A n c] TBs) (.cells #[.int .i64 0, .int .i64 0] TA)
  rw [← hW] at q6 q8
  have wb : Below w.heap.size w W := by rw [hW]; exact below_alloc (below_alloc (Below.refl _ _) _) _
  have wsz : W.heap.size = w.heap.size + 2 := by rw [hW, size_alloc, size_alloc]
  have hf1 := hF.keep h wb
  have hl1 := hl.below wb
  obtain ⟨ok1, hD1⟩ := hF.dev hf1
  have hsh := hD1.sound.sh
  have HOK := Lib.hid (Lok_any hl1)
  have HSHP := Lib.hid (Shape_any hD1)
  have HF1 := Aside0.mk hf1
  have HL1 := Aside0.mk hl1
  have HW := Lib.hid hW
  have Q6 := Lib.hid q6
  have Q8 := Lib.hid q8
  have WB := Aside0.mk wb
  have HSH := Lib.hid hsh
  have HN := Lib.hid hn
  have HLT := Lib.hid hlt
  have k0 : W.cell? ⟨q, 0, none⟩ = some (.pointer (some ⟨p, 0, none⟩)) := hl1.c0
  rw [← hn] at hc hm
  rw [← hn]
  clear h hl hn hlt hf1 hl1 hD1 hsh hW q6 q8 wb hpg hv1 hk
  go_enter Try.func101, Try.ntmps101
  go_wp2_with (first
    | (rw [← HW.out])
    | (rw [← HW3.out])
    | (go_at_call 75; (with_reducible refine HOK.out.mono ?_); rintro e w1 ⟨rfl, rfl⟩)
    | (go_at_call 56; (with_reducible refine HSHP.out.mono ?_); rintro e w2 ⟨rfl, hb2⟩; obtain ⟨W3, hW3⟩ : ∃ W3, W3 = w2.alloc (.cells #[.int .i64 D.s.1, .int .i64 D.s.2.1, .int .i64 D.s.2.2] TSh) := ⟨_, rfl⟩; have q10 : W3.heap[w2.heap.size]? = some (.cells #[.int .i64 D.s.1, .int .i64 D.s.2.1, .int .i64 D.s.2.2] TSh (0, 0)) := (by rw [hW3]; exact blk_new _ _); have b23 : Below w2.heap.size w2 W3 := (by rw [hW3]; exact below_alloc (Below.refl _ _) _); have hbb := hb2.trans (b23.mono hb2.size); have HF3 := Aside0.mk (hF.keep (hF.below HF1.out hb2) b23); have HL3 := Aside0.mk (HL1.out.below hbb); have p6 := (hbb.block _ (blt Q6.out)).trans Q6.out; have p8 := (hbb.block _ (blt Q8.out)).trans Q8.out; have P6 := Lib.hid p6; have P8 := Lib.hid p8; have Q10 := Lib.hid q10; have BB := Aside0.mk hbb; have HW3 := Lib.hid hW3; have z0 : W3.cell? ⟨w.heap.size + 1, 0, none⟩ = some (.int .i64 0) := bcell p8 0; have z1 : W3.cell? ⟨w.heap.size + 1, 1, none⟩ = some (.int .i64 0) := bcell p8 1; have zf : ∀ j, W3.frozen? ⟨w.heap.size + 1, j, none⟩ = false := (fun j => bfrozen p8 j); have y2 : W3.cell? ⟨w2.heap.size, 2, none⟩ = some (.int .i64 D.s.2.2) := bcell q10 2; clear hb2 hW3 q10 b23 hbb p6 p8)
    | (go_at_call 85; (with_reducible refine (HPG.out _).mono ?_); rintro e w4 ⟨rfl, hb4⟩; have x6 := (hb4.block _ (blt P6.out)).trans P6.out; have x10 := (hb4.block _ (blt Q10.out)).trans Q10.out; have X6 := Lib.hid x6; have X10 := Lib.hid x10; have HB4 := Aside0.mk hb4; clear x6 x10 hb4)
    | ((with_reducible refine gate_dst (N := 34) rfl ?_); (refine closL (some 34) rfl rfl 30 putfits_clo #[.int .i64 1] rfl rfl (by simp only [List.map_toArray, List.map_cons, List.map_nil]; rfl) ?_; refine (PutFits_any (w := w4) HSH.out (bcell X10.out 0) (bcell X10.out 1) (bcell X10.out 2) (bcell X6.out 0) (show n ≤ 9223372036854775807 by omega) 1).mono ?_; (have hvv := HV1.out; rw [← HN.out] at hvv; rw [hvv]; clear hvv); rintro e w5 ⟨rfl, hb5⟩; refine ⟨_, rfl, ?_⟩; have HB5 := Aside0.mk (HB4.out.trans (hb5.mono HB4.out.size)); have hl5 := HL3.out.below HB5.out; have k05 := hl5.c0; have k17 := hl5.c17; have k18 := hl5.c18; have x6 := (HB5.out.block _ (blt P6.out)).trans P6.out; have x8 := (HB5.out.block _ (blt P8.out)).trans P8.out; have x10 := (HB5.out.block _ (blt Q10.out)).trans Q10.out; have X65 := Lib.hid x6; have X85 := Lib.hid x8; have X105 := Lib.hid x10; have z05 : w5.cell? ⟨w.heap.size + 1, 0, none⟩ = some (.int .i64 0) := bcell x8 0; have z15 : w5.cell? ⟨w.heap.size + 1, 1, none⟩ = some (.int .i64 0) := bcell x8 1; have zf5 : ∀ j, w5.frozen? ⟨w.heap.size + 1, j, none⟩ = false := (fun j => bfrozen x8 j); have HL5 := Aside0.mk hl5; have HF5 := Aside0.mk (hF.below HF3.out HB5.out); clear hb5 hl5 x6 x8 x10))
    | (go_at_call 31; (obtain ⟨okc, hDc⟩ := hF.dev (hF.below HF3.out HB5.out)); (have hcc := LCount_any (HL3.out.below HB5.out) hDc 0); (rw [← HC0.out] at hcc); (with_reducible refine hcc.mono ?_); clear hcc hDc; rintro e w7 ⟨rfl, hb7⟩; have HB7 := Aside0.mk (HB5.out.trans (hb7.mono HB5.out.size)); have x8 := (HB7.out.block _ (blt P8.out)).trans P8.out; have X87 := Lib.hid x8; have z07 : w7.cell? ⟨w.heap.size + 1, 0, none⟩ = some (.int .i64 0) := bcell x8 0; have z17 : w7.cell? ⟨w.heap.size + 1, 1, none⟩ = some (.int .i64 0) := bcell x8 1; have zf7 : ∀ j, w7.frozen? ⟨w.heap.size + 1, j, none⟩ = false := (fun j => bfrozen x8 j); clear hb7 x8))
  obtain ⟨w9, hw9⟩ : ∃ w9, w9 = (w7.setCell ⟨w.heap.size + 1, 0, none⟩ (.int .i64 0)).setCell ⟨w.heap.size + 1, 1, none⟩ (.int .i64 0) := ⟨_, rfl⟩
  rw [← hw9]
  obtain ⟨r8, hf9, hl9, hb9, hk9⟩ := put_end hF hSt (hF.below HF3.out HB7.out) (HL3.out.below HB7.out) hq HLT.out hsz (Nat.le_succ _) X87.out (.inl (.inr ⟨Nat.le_succ _, by omega⟩)) (fun k hk => .inl (.inl hk)) ((WB.out.trans ((BB.out.trans (HB7.out.mono BB.out.size)).mono (by omega))).mono hsz) (fun k hk => (((BB.out.trans (HB7.out.mono BB.out.size)).mono (by omega)).block k (HLT.out k hk.1)).trans (WB.out.block k (HLT.out k hk.1))) hw9
  have r0 := bcell r8 0
  have r1 := bcell r8 1
  exact bodyPost_ret (v := .tuple #[.agg #[.int .i64 0, .int .i64 0], .int .i64 5]) (by simp [results, Try.results101, go_sem, r0, r1]) rfl ⟨rfl, hf9, hl9, hb9, hk9⟩
set_option maxHeartbeats 4000000 in
set_option maxRecDepth 100000 in
theorem LPut_fullN (hF : DevFrame N0 p F) (hSt : ∀ D, Stays (fun K w => F K D w)) (h : F K D w) (hl : LogIs q p g w) (hq : K q) (hN : N0 ≤ q) (hC : kB.C w A l.length l) (hc : l.length ≤ c) (hm : l.length < 1000000) (hk : kind ≠ 1) (hv1 : fitsS D.s 1 l.length = true) (ho : 0 ≤ g.op) (hv2 : fitsS D.s g.pg l.length = false) (hcn : (cnt 0 (g.st.take D.s.1.toNat) : Int) < need) : Calls Try.prog 101 #[.pointer (some ⟨q, 0, none⟩), .int .u8 kind, .slice A l.length c, .int .i64 need] w (PutPost N0 q p F K w (0, 0) 5 D g) := by
  have hpg : ∀ X : World, Calls Try.prog 85 #[.int .i64 0, .int .i64 D.s.2.2] X fun e w' => e = .returned (.int .i64 1) ∧ Below X.heap.size X w' := fun X => by
    have := Pages_ok 0 D.s (hF.shape h) (by omega) X
    rw [kpg_zero (hF.shape h)] at this
    exact this
  have HPG := Lib.hid hpg
  have HKI := Lib.hid (show (kind == 1) = false by simpa using hk)
  have e_k := HKI.out
  have HV1 := Lib.hid hv1
  have HV2 := Lib.hid hv2
  clear hv2
  obtain ⟨c0, hc0⟩ : ∃ c0, c0 = cnt 0 (g.st.take D.s.1.toNat) := ⟨_, rfl⟩
  rw [← hc0] at hcn
  have HC0 := Lib.hid hc0
  clear hc0
  obtain ⟨n, hn⟩ : ∃ n, n = l.length := ⟨_, rfl⟩
  have hsz := hF.size h
  have hlt := fun k hk => hF.lt h k hk
  obtain ⟨W, hW⟩ : ∃ W, W = (w.alloc (.cells #[.slice A n c] TBs)).alloc (.cells #[.int .i64 0, .int .i64 0] TA) := ⟨_, rfl⟩
  obtain ⟨q6, q8⟩ := pair_blk w (.cells #[.slice A n c] TBs) (.cells #[.int .i64 0, .int .i64 0] TA)
  rw [← hW] at q6 q8
  have wb : Below w.heap.size w W := by rw [hW]; exact below_alloc (below_alloc (Below.refl _ _) _) _
  have wsz : W.heap.size = w.heap.size + 2 := by rw [hW, size_alloc, size_alloc]
  have hf1 := hF.keep h wb
  have hl1 := hl.below wb
  obtain ⟨ok1, hD1⟩ := hF.dev hf1
  have hsh := hD1.sound.sh
  have HOK := Lib.hid (Lok_any hl1)
  have HSHP := Lib.hid (Shape_any hD1)
  have HF1 := Aside0.mk hf1
  have HL1 := Aside0.mk hl1
  have HW := Lib.hid hW
  have Q6 := Lib.hid q6
  have Q8 := Lib.hid q8
  have WB := Aside0.mk wb
  have HSH := Lib.hid hsh
  have HN := Lib.hid hn
  have HLT := Lib.hid hlt
  have k0 : W.cell? ⟨q, 0, none⟩ = some (.pointer (some ⟨p, 0, none⟩)) := hl1.c0
  rw [← hn] at hc hm
  rw [← hn]
  clear h hl hn hlt hf1 hl1 hD1 hsh hW q6 q8 wb hpg hv1 hk
  go_enter Try.func101, Try.ntmps101
  have e_o : decide (g.op < 0) = false := decide_eq_false (by omega)
  go_wp2_with (first
    | (rw [← HW.out])
    | (rw [← HW3.out])
    | (go_at_call 75; (with_reducible refine HOK.out.mono ?_); rintro e w1 ⟨rfl, rfl⟩)
    | (go_at_call 56; (with_reducible refine HSHP.out.mono ?_); rintro e w2 ⟨rfl, hb2⟩; obtain ⟨W3, hW3⟩ : ∃ W3, W3 = w2.alloc (.cells #[.int .i64 D.s.1, .int .i64 D.s.2.1, .int .i64 D.s.2.2] TSh) := ⟨_, rfl⟩; have q10 : W3.heap[w2.heap.size]? = some (.cells #[.int .i64 D.s.1, .int .i64 D.s.2.1, .int .i64 D.s.2.2] TSh (0, 0)) := (by rw [hW3]; exact blk_new _ _); have b23 : Below w2.heap.size w2 W3 := (by rw [hW3]; exact below_alloc (Below.refl _ _) _); have hbb := hb2.trans (b23.mono hb2.size); have HF3 := Aside0.mk (hF.keep (hF.below HF1.out hb2) b23); have HL3 := Aside0.mk (HL1.out.below hbb); have p6 := (hbb.block _ (blt Q6.out)).trans Q6.out; have p8 := (hbb.block _ (blt Q8.out)).trans Q8.out; have P6 := Lib.hid p6; have P8 := Lib.hid p8; have Q10 := Lib.hid q10; have BB := Aside0.mk hbb; have HW3 := Lib.hid hW3; have z0 : W3.cell? ⟨w.heap.size + 1, 0, none⟩ = some (.int .i64 0) := bcell p8 0; have z1 : W3.cell? ⟨w.heap.size + 1, 1, none⟩ = some (.int .i64 0) := bcell p8 1; have zf : ∀ j, W3.frozen? ⟨w.heap.size + 1, j, none⟩ = false := (fun j => bfrozen p8 j); have y2 : W3.cell? ⟨w2.heap.size, 2, none⟩ = some (.int .i64 D.s.2.2) := bcell q10 2; clear hb2 hW3 q10 b23 hbb p6 p8)
    | (go_at_call 85; (with_reducible refine (HPG.out _).mono ?_); rintro e w4 ⟨rfl, hb4⟩; have x6 := (hb4.block _ (blt P6.out)).trans P6.out; have x10 := (hb4.block _ (blt Q10.out)).trans Q10.out; have X6 := Lib.hid x6; have X10 := Lib.hid x10; have HB4 := Aside0.mk hb4; clear x6 x10 hb4)
    | ((with_reducible refine gate_dst (N := 34) rfl ?_); (refine closL (some 34) rfl rfl 30 putfits_clo #[.int .i64 1] rfl rfl (by simp only [List.map_toArray, List.map_cons, List.map_nil]; rfl) ?_; refine (PutFits_any (w := w4) HSH.out (bcell X10.out 0) (bcell X10.out 1) (bcell X10.out 2) (bcell X6.out 0) (show n ≤ 9223372036854775807 by omega) 1).mono ?_; (have hvv := HV1.out; rw [← HN.out] at hvv; rw [hvv]; clear hvv); rintro e w5 ⟨rfl, hb5⟩; refine ⟨_, rfl, ?_⟩; have HB5 := Aside0.mk (HB4.out.trans (hb5.mono HB4.out.size)); have hl5 := HL3.out.below HB5.out; have k05 := hl5.c0; have k17 := hl5.c17; have k18 := hl5.c18; have x6 := (HB5.out.block _ (blt P6.out)).trans P6.out; have x8 := (HB5.out.block _ (blt P8.out)).trans P8.out; have x10 := (HB5.out.block _ (blt Q10.out)).trans Q10.out; have X65 := Lib.hid x6; have X85 := Lib.hid x8; have X105 := Lib.hid x10; have z05 : w5.cell? ⟨w.heap.size + 1, 0, none⟩ = some (.int .i64 0) := bcell x8 0; have z15 : w5.cell? ⟨w.heap.size + 1, 1, none⟩ = some (.int .i64 0) := bcell x8 1; have zf5 : ∀ j, w5.frozen? ⟨w.heap.size + 1, j, none⟩ = false := (fun j => bfrozen x8 j); have HL5 := Aside0.mk hl5; have HF5 := Aside0.mk (hF.below HF3.out HB5.out); clear hb5 hl5 x6 x8 x10))
    | ((with_reducible refine gate_dst (N := 48) rfl ?_); (refine closG (some 48) rfl (by kernel_rfl) 43 putfits_clo #[.int .i64 g.pg] rfl rfl (by simp only [List.map_toArray, List.map_cons, List.map_nil]; rfl) ?_; refine (PutFits_any (w := w5) HSH.out (bcell X105.out 0) (bcell X105.out 1) (bcell X105.out 2) (bcell X65.out 0) (show n ≤ 9223372036854775807 by omega) g.pg).mono ?_; (have hvv := HV2.out; rw [← HN.out] at hvv; rw [hvv]; clear hvv); rintro e w6 ⟨rfl, hb6⟩; refine ⟨_, rfl, ?_⟩; have HB6 := Aside0.mk (HB5.out.trans (hb6.mono HB5.out.size)); have x6 := (hb6.block _ (blt X65.out)).trans X65.out; have x8 := (hb6.block _ (blt X85.out)).trans X85.out; have X66 := Lib.hid x6; have X86 := Lib.hid x8; clear x6 x8 hb6))
    | (go_at_call 31; (obtain ⟨okc, hDc⟩ := hF.dev (hF.below HF3.out HB6.out)); (have hcc := LCount_any (HL3.out.below HB6.out) hDc 0); (rw [← HC0.out] at hcc); (with_reducible refine hcc.mono ?_); clear hcc hDc; rintro e w7 ⟨rfl, hb7⟩; have HB7 := Aside0.mk (HB6.out.trans (hb7.mono HB6.out.size)); have x8 := (HB7.out.block _ (blt P8.out)).trans P8.out; have X87 := Lib.hid x8; have z07 : w7.cell? ⟨w.heap.size + 1, 0, none⟩ = some (.int .i64 0) := bcell x8 0; have z17 : w7.cell? ⟨w.heap.size + 1, 1, none⟩ = some (.int .i64 0) := bcell x8 1; have zf7 : ∀ j, w7.frozen? ⟨w.heap.size + 1, j, none⟩ = false := (fun j => bfrozen x8 j); clear hb7 x8))
  obtain ⟨w9, hw9⟩ : ∃ w9, w9 = (w7.setCell ⟨w.heap.size + 1, 0, none⟩ (.int .i64 0)).setCell ⟨w.heap.size + 1, 1, none⟩ (.int .i64 0) := ⟨_, rfl⟩
  rw [← hw9]
  obtain ⟨r8, hf9, hl9, hb9, hk9⟩ := put_end hF hSt (hF.below HF3.out HB7.out) (HL3.out.below HB7.out) hq HLT.out hsz (Nat.le_succ _) X87.out (.inl (.inr ⟨Nat.le_succ _, by omega⟩)) (fun k hk => .inl (.inl hk)) ((WB.out.trans ((BB.out.trans (HB7.out.mono BB.out.size)).mono (by omega))).mono hsz) (fun k hk => (((BB.out.trans (HB7.out.mono BB.out.size)).mono (by omega)).block k (HLT.out k hk.1)).trans (WB.out.block k (HLT.out k hk.1))) hw9
  have r0 := bcell r8 0
  have r1 := bcell r8 1
  exact bodyPost_ret (v := .tuple #[.agg #[.int .i64 0, .int .i64 0], .int .i64 5]) (by simp [results, Try.results101, go_sem, r0, r1]) rfl ⟨rfl, hf9, hl9, hb9, hk9⟩
set_option maxHeartbeats 4000000 in
set_option maxRecDepth 100000 in
theorem LPut_app (hF : DevFrame N0 p F) (hSt : ∀ D, Stays (fun K w => F K D w)) (h : F K D w) (hl : LogIs q p g w) (hq : K q) (hN : N0 ≤ q) (hC : kB.C w A l.length l) (hc : l.length ≤ c) (hm : l.length < 1000000) (hk : kind ≠ 1) (hv1 : fitsS D.s 1 l.length = true) (ho : 0 ≤ g.op) (hv2 : fitsS D.s g.pg l.length = true) (hkk : KindOk kind) (hBl : Byt l) (hCx : ∀ X, Below N0 w X → Kept (fun k => K k ∧ k ≠ q) w X → kB.C X A l.length l) (hdd : D.dirty.length < 900000) (hsq : SeqOk (g.nx - 1)) (hn1 : 1 ≤ g.nx) (hn2 : g.nx < 1000000) (hp0 : 0 ≤ g.pg) {k : Nat} (hp1 : g.pg + (k : Int) < 1000) (hap : appE D g.op g.pg l.length = ((k : Int), 0)) : Calls Try.prog 101 #[.pointer (some ⟨q, 0, none⟩), .int .u8 kind, .slice A l.length c, .int .i64 need] w (PutPost N0 q p F K w (g.op, g.pg) 0 (appD D g.op g.pg l.length (rec kind (g.nx - 1) l)) { g with pg := g.pg + (k : Int) }) := by
  have hpg : ∀ X : World, Calls Try.prog 85 #[.int .i64 0, .int .i64 D.s.2.2] X fun e w' => e = .returned (.int .i64 1) ∧ Below X.heap.size X w' := fun X => by
    have := Pages_ok 0 D.s (hF.shape h) (by omega) X
    rw [kpg_zero (hF.shape h)] at this
    exact this
  have HPG := Lib.hid hpg
  have HKI := Lib.hid (show (kind == 1) = false by simpa using hk)
  have e_k := HKI.out
  have HV1 := Lib.hid hv1
  have HV2 := Lib.hid hv2
  have HAP := Lib.hid hap
  have HCX := Lib.hid hCx
  clear hv2 hap hCx
  obtain ⟨n, hn⟩ : ∃ n, n = l.length := ⟨_, rfl⟩
  have hsz := hF.size h
  have hlt := fun k hk => hF.lt h k hk
  obtain ⟨W, hW⟩ : ∃ W, W = (w.alloc (.cells #[.slice A n c] TBs)).alloc (.cells #[.int .i64 0, .int .i64 0] TA) := ⟨_, rfl⟩
  obtain ⟨q6, q8⟩ := pair_blk w (.cells #[.slice A n c] TBs) (.cells #[.int .i64 0, .int .i64 0] TA)
  rw [← hW] at q6 q8
  have wb : Below w.heap.size w W := by rw [hW]; exact below_alloc (below_alloc (Below.refl _ _) _) _
  have wsz : W.heap.size = w.heap.size + 2 := by rw [hW, size_alloc, size_alloc]
  have hf1 := hF.keep h wb
  have hl1 := hl.below wb
  obtain ⟨ok1, hD1⟩ := hF.dev hf1
  have hsh := hD1.sound.sh
  have HOK := Lib.hid (Lok_any hl1)
  have HSHP := Lib.hid (Shape_any hD1)
  have HF1 := Aside0.mk hf1
  have HL1 := Aside0.mk hl1
  have HW := Lib.hid hW
  have Q6 := Lib.hid q6
  have Q8 := Lib.hid q8
  have WB := Aside0.mk wb
  have HSH := Lib.hid hsh
  have HN := Lib.hid hn
  have HLT := Lib.hid hlt
  have k0 : W.cell? ⟨q, 0, none⟩ = some (.pointer (some ⟨p, 0, none⟩)) := hl1.c0
  rw [← hn] at hc hm
  rw [← hn]
  clear h hl hn hlt hf1 hl1 hD1 hsh hW q6 q8 wb hpg hv1 hk
  go_enter Try.func101, Try.ntmps101
  have e_o : decide (g.op < 0) = false := decide_eq_false (by omega)
  go_wp2_with (first
    | (rw [← HW.out])
    | (rw [← HW3.out])
    | (go_at_call 75; (with_reducible refine HOK.out.mono ?_); rintro e w1 ⟨rfl, rfl⟩)
    | (go_at_call 56; (with_reducible refine HSHP.out.mono ?_); rintro e w2 ⟨rfl, hb2⟩; obtain ⟨W3, hW3⟩ : ∃ W3, W3 = w2.alloc (.cells #[.int .i64 D.s.1, .int .i64 D.s.2.1, .int .i64 D.s.2.2] TSh) := ⟨_, rfl⟩; have q10 : W3.heap[w2.heap.size]? = some (.cells #[.int .i64 D.s.1, .int .i64 D.s.2.1, .int .i64 D.s.2.2] TSh (0, 0)) := (by rw [hW3]; exact blk_new _ _); have b23 : Below w2.heap.size w2 W3 := (by rw [hW3]; exact below_alloc (Below.refl _ _) _); have hbb := hb2.trans (b23.mono hb2.size); have HF3 := Aside0.mk (hF.keep (hF.below HF1.out hb2) b23); have HL3 := Aside0.mk (HL1.out.below hbb); have p6 := (hbb.block _ (blt Q6.out)).trans Q6.out; have p8 := (hbb.block _ (blt Q8.out)).trans Q8.out; have P6 := Lib.hid p6; have P8 := Lib.hid p8; have Q10 := Lib.hid q10; have BB := Aside0.mk hbb; have HW3 := Lib.hid hW3; have z0 : W3.cell? ⟨w.heap.size + 1, 0, none⟩ = some (.int .i64 0) := bcell p8 0; have z1 : W3.cell? ⟨w.heap.size + 1, 1, none⟩ = some (.int .i64 0) := bcell p8 1; have zf : ∀ j, W3.frozen? ⟨w.heap.size + 1, j, none⟩ = false := (fun j => bfrozen p8 j); have y2 : W3.cell? ⟨w2.heap.size, 2, none⟩ = some (.int .i64 D.s.2.2) := bcell q10 2; clear hb2 hW3 q10 b23 hbb p6 p8)
    | (go_at_call 85; (with_reducible refine (HPG.out _).mono ?_); rintro e w4 ⟨rfl, hb4⟩; have x6 := (hb4.block _ (blt P6.out)).trans P6.out; have x10 := (hb4.block _ (blt Q10.out)).trans Q10.out; have X6 := Lib.hid x6; have X10 := Lib.hid x10; have HB4 := Aside0.mk hb4; clear x6 x10 hb4)
    | ((with_reducible refine gate_dst (N := 34) rfl ?_); (refine closL (some 34) rfl rfl 30 putfits_clo #[.int .i64 1] rfl rfl (by simp only [List.map_toArray, List.map_cons, List.map_nil]; rfl) ?_; refine (PutFits_any (w := w4) HSH.out (bcell X10.out 0) (bcell X10.out 1) (bcell X10.out 2) (bcell X6.out 0) (show n ≤ 9223372036854775807 by omega) 1).mono ?_; (have hvv := HV1.out; rw [← HN.out] at hvv; rw [hvv]; clear hvv); rintro e w5 ⟨rfl, hb5⟩; refine ⟨_, rfl, ?_⟩; have HB5 := Aside0.mk (HB4.out.trans (hb5.mono HB4.out.size)); have hl5 := HL3.out.below HB5.out; have k05 := hl5.c0; have k17 := hl5.c17; have k18 := hl5.c18; have x6 := (HB5.out.block _ (blt P6.out)).trans P6.out; have x8 := (HB5.out.block _ (blt P8.out)).trans P8.out; have x10 := (HB5.out.block _ (blt Q10.out)).trans Q10.out; have X65 := Lib.hid x6; have X85 := Lib.hid x8; have X105 := Lib.hid x10; have z05 : w5.cell? ⟨w.heap.size + 1, 0, none⟩ = some (.int .i64 0) := bcell x8 0; have z15 : w5.cell? ⟨w.heap.size + 1, 1, none⟩ = some (.int .i64 0) := bcell x8 1; have zf5 : ∀ j, w5.frozen? ⟨w.heap.size + 1, j, none⟩ = false := (fun j => bfrozen x8 j); have HL5 := Aside0.mk hl5; have HF5 := Aside0.mk (hF.below HF3.out HB5.out); clear hb5 hl5 x6 x8 x10))
    | ((with_reducible refine gate_dst (N := 48) rfl ?_); (refine closG (some 48) rfl (by kernel_rfl) 43 putfits_clo #[.int .i64 g.pg] rfl rfl (by simp only [List.map_toArray, List.map_cons, List.map_nil]; rfl) ?_; refine (PutFits_any (w := w5) HSH.out (bcell X105.out 0) (bcell X105.out 1) (bcell X105.out 2) (bcell X65.out 0) (show n ≤ 9223372036854775807 by omega) g.pg).mono ?_; (have hvv := HV2.out; rw [← HN.out] at hvv; rw [hvv]; clear hvv); rintro e w6 ⟨rfl, hb6⟩; refine ⟨_, rfl, ?_⟩; have HB6 := Aside0.mk (HB5.out.trans (hb6.mono HB5.out.size)); have x6 := (hb6.block _ (blt X65.out)).trans X65.out; have x8 := (hb6.block _ (blt X85.out)).trans X85.out; have X66 := Lib.hid x6; have X86 := Lib.hid x8; clear x6 x8 hb6)))
  have y0 := (HL3.out.below HB6.out).c0
  have y17 := (HL3.out.below HB6.out).c17
  have y18 := (HL3.out.below HB6.out).c18
  refine wp_region_held_drew (S := (fun w' => w'.cell? ⟨q, 0, none⟩ = some (.pointer (some ⟨p, 0, none⟩)) ∧ w'.cell? ⟨q, 17, none⟩ = some (.int .i64 g.op) ∧ w'.cell? ⟨q, 18, none⟩ = some (.int .i64 g.pg))) (by kernel_rfl) ?_ (fun hHeld => ?_)
  · first | go_keep | exact ⟨y0, y17, y18⟩
  first | (refine wpAnyH_take (i := 0) (oi := ?o1) (v := ?v1) ?i1 (by kernel_rfl) (by kernel_rfl) (by kernel_rfl) ?q1 ?y1 (by assumption) ?r1; (case i1 => (simp only [List.getElem?_toArray, List.getElem?_cons_succ, List.getElem?_cons_zero]; rfl)); (case q1 => exact fun _ _ _ h => h); (case y1 => (refine Or.inl ⟨by rfl, ?_⟩; intro w hSw; (try dsimp only at hSw); go_simp; (try (with_reducible rfl))))) | (refine wpAnyH_take (i := 0) (oi := ?o2) (v := undef) ?i2 (by kernel_rfl) (by kernel_rfl) (by kernel_rfl) ?q2 ?y2 (by assumption) ?r2; (case i2 => (simp only [List.getElem?_toArray, List.getElem?_cons_succ, List.getElem?_cons_zero]; rfl)); (case q2 => exact fun _ _ _ h => h); (case y2 => exact Or.inr ⟨by rfl, rfl⟩))
  try simp only [Act.put, List.setIfInBounds_toArray, List.set_cons_zero, List.set_cons_succ]
  first | (refine wpAnyH_take (i := 1) (oi := ?o3) (v := ?v3) ?i3 (by kernel_rfl) (by kernel_rfl) (by kernel_rfl) ?q3 ?y3 (by assumption) ?r3; (case i3 => (simp only [List.getElem?_toArray, List.getElem?_cons_succ, List.getElem?_cons_zero]; rfl)); (case q3 => exact fun _ _ _ h => h); (case y3 => (refine Or.inl ⟨by rfl, ?_⟩; intro w hSw; (try dsimp only at hSw); go_simp; (try (with_reducible rfl))))) | (refine wpAnyH_take (i := 1) (oi := ?o4) (v := undef) ?i4 (by kernel_rfl) (by kernel_rfl) (by kernel_rfl) ?q4 ?y4 (by assumption) ?r4; (case i4 => (simp only [List.getElem?_toArray, List.getElem?_cons_succ, List.getElem?_cons_zero]; rfl)); (case q4 => exact fun _ _ _ h => h); (case y4 => exact Or.inr ⟨by rfl, rfl⟩))
  try simp only [Act.put, List.setIfInBounds_toArray, List.set_cons_zero, List.set_cons_succ]
  first | (refine wpAnyH_take (i := 2) (oi := ?o5) (v := ?v5) ?i5 (by kernel_rfl) (by kernel_rfl) (by kernel_rfl) ?q5 ?y5 (by assumption) ?r5; (case i5 => (simp only [List.getElem?_toArray, List.getElem?_cons_succ, List.getElem?_cons_zero]; rfl)); (case q5 => exact fun _ _ _ h => h); (case y5 => (refine Or.inl ⟨by rfl, ?_⟩; intro w hSw; (try dsimp only at hSw); go_simp; (try (with_reducible rfl))))) | (refine wpAnyH_take (i := 2) (oi := ?o6) (v := undef) ?i6 (by kernel_rfl) (by kernel_rfl) (by kernel_rfl) ?q6 ?y6 (by assumption) ?r6; (case i6 => (simp only [List.getElem?_toArray, List.getElem?_cons_succ, List.getElem?_cons_zero]; rfl)); (case q6 => exact fun _ _ _ h => h); (case y6 => exact Or.inr ⟨by rfl, rfl⟩))
  try simp only [Act.put, List.setIfInBounds_toArray, List.set_cons_zero, List.set_cons_succ]
  first | (refine wpAnyH_take (i := 3) (oi := ?o7) (v := ?v7) ?i7 (by kernel_rfl) (by kernel_rfl) (by kernel_rfl) ?q7 ?y7 (by assumption) ?r7; (case i7 => (simp only [List.getElem?_toArray, List.getElem?_cons_succ, List.getElem?_cons_zero]; rfl)); (case q7 => exact fun _ _ _ h => h); (case y7 => (refine Or.inl ⟨by rfl, ?_⟩; intro w hSw; (try dsimp only at hSw); go_simp; (try (with_reducible rfl))))) | (refine wpAnyH_take (i := 3) (oi := ?o8) (v := undef) ?i8 (by kernel_rfl) (by kernel_rfl) (by kernel_rfl) ?q8 ?y8 (by assumption) ?r8; (case i8 => (simp only [List.getElem?_toArray, List.getElem?_cons_succ, List.getElem?_cons_zero]; rfl)); (case q8 => exact fun _ _ _ h => h); (case y8 => exact Or.inr ⟨by rfl, rfl⟩))
  try simp only [Act.put, List.setIfInBounds_toArray, List.set_cons_zero, List.set_cons_succ]
  first | (refine wpAnyH_take (i := 4) (oi := ?o9) (v := ?v9) ?i9 (by kernel_rfl) (by kernel_rfl) (by kernel_rfl) ?q9 ?y9 (by assumption) ?r9; (case i9 => (simp only [List.getElem?_toArray, List.getElem?_cons_succ, List.getElem?_cons_zero]; rfl)); (case q9 => exact fun _ _ _ h => h); (case y9 => (refine Or.inl ⟨by rfl, ?_⟩; intro w hSw; (try dsimp only at hSw); go_simp; (try (with_reducible rfl))))) | (refine wpAnyH_take (i := 4) (oi := ?o10) (v := undef) ?i10 (by kernel_rfl) (by kernel_rfl) (by kernel_rfl) ?q10 ?y10 (by assumption) ?r10; (case i10 => (simp only [List.getElem?_toArray, List.getElem?_cons_succ, List.getElem?_cons_zero]; rfl)); (case q10 => exact fun _ _ _ h => h); (case y10 => exact Or.inr ⟨by rfl, rfl⟩))
  try simp only [Act.put, List.setIfInBounds_toArray, List.set_cons_zero, List.set_cons_succ]
  first | (refine wpAnyH_take (i := 5) (oi := ?o11) (v := ?v11) ?i11 (by kernel_rfl) (by kernel_rfl) (by kernel_rfl) ?q11 ?y11 (by assumption) ?r11; (case i11 => (simp only [List.getElem?_toArray, List.getElem?_cons_succ, List.getElem?_cons_zero]; rfl)); (case q11 => exact fun _ _ _ h => h); (case y11 => (refine Or.inl ⟨by rfl, ?_⟩; intro w hSw; (try dsimp only at hSw); go_simp; (try (with_reducible rfl))))) | (refine wpAnyH_take (i := 5) (oi := ?o12) (v := undef) ?i12 (by kernel_rfl) (by kernel_rfl) (by kernel_rfl) ?q12 ?y12 (by assumption) ?r12; (case i12 => (simp only [List.getElem?_toArray, List.getElem?_cons_succ, List.getElem?_cons_zero]; rfl)); (case q12 => exact fun _ _ _ h => h); (case y12 => exact Or.inr ⟨by rfl, rfl⟩))
  try simp only [Act.put, List.setIfInBounds_toArray, List.set_cons_zero, List.set_cons_succ]
  first | (refine wpAnyH_take (i := 6) (oi := ?o13) (v := ?v13) ?i13 (by kernel_rfl) (by kernel_rfl) (by kernel_rfl) ?q13 ?y13 (by assumption) ?r13; (case i13 => (simp only [List.getElem?_toArray, List.getElem?_cons_succ, List.getElem?_cons_zero]; rfl)); (case q13 => exact fun _ _ _ h => h); (case y13 => (refine Or.inl ⟨by rfl, ?_⟩; intro w hSw; (try dsimp only at hSw); go_simp; (try (with_reducible rfl))))) | (refine wpAnyH_take (i := 6) (oi := ?o14) (v := undef) ?i14 (by kernel_rfl) (by kernel_rfl) (by kernel_rfl) ?q14 ?y14 (by assumption) ?r14; (case i14 => (simp only [List.getElem?_toArray, List.getElem?_cons_succ, List.getElem?_cons_zero]; rfl)); (case q14 => exact fun _ _ _ h => h); (case y14 => exact Or.inr ⟨by rfl, rfl⟩))
  try simp only [Act.put, List.setIfInBounds_toArray, List.set_cons_zero, List.set_cons_succ]
  first | (refine wpAnyH_take (i := 7) (oi := ?o15) (v := ?v15) ?i15 (by kernel_rfl) (by kernel_rfl) (by kernel_rfl) ?q15 ?y15 (by assumption) ?r15; (case i15 => (simp only [List.getElem?_toArray, List.getElem?_cons_succ, List.getElem?_cons_zero]; rfl)); (case q15 => exact fun _ _ _ h => h); (case y15 => (refine Or.inl ⟨by rfl, ?_⟩; intro w hSw; (try dsimp only at hSw); go_simp; (try (with_reducible rfl))))) | (refine wpAnyH_take (i := 7) (oi := ?o16) (v := undef) ?i16 (by kernel_rfl) (by kernel_rfl) (by kernel_rfl) ?q16 ?y16 (by assumption) ?r16; (case i16 => (simp only [List.getElem?_toArray, List.getElem?_cons_succ, List.getElem?_cons_zero]; rfl)); (case q16 => exact fun _ _ _ h => h); (case y16 => exact Or.inr ⟨by rfl, rfl⟩))
  try simp only [Act.put, List.setIfInBounds_toArray, List.set_cons_zero, List.set_cons_succ]
  first | (refine wpAnyH_take (i := 8) (oi := ?o17) (v := ?v17) ?i17 (by kernel_rfl) (by kernel_rfl) (by kernel_rfl) ?q17 ?y17 (by assumption) ?r17; (case i17 => (simp only [List.getElem?_toArray, List.getElem?_cons_succ, List.getElem?_cons_zero]; rfl)); (case q17 => exact fun _ _ _ h => h); (case y17 => (refine Or.inl ⟨by rfl, ?_⟩; intro w hSw; (try dsimp only at hSw); go_simp; (try (with_reducible rfl))))) | (refine wpAnyH_take (i := 8) (oi := ?o18) (v := undef) ?i18 (by kernel_rfl) (by kernel_rfl) (by kernel_rfl) ?q18 ?y18 (by assumption) ?r18; (case i18 => (simp only [List.getElem?_toArray, List.getElem?_cons_succ, List.getElem?_cons_zero]; rfl)); (case q18 => exact fun _ _ _ h => h); (case y18 => exact Or.inr ⟨by rfl, rfl⟩))
  try simp only [Act.put, List.setIfInBounds_toArray, List.set_cons_zero, List.set_cons_succ]
  refine wpAnyH_ready (rs := [9]) (by kernel_rfl) (by simp) ?_
  refine AllReadyH.cons (by (simp only [List.getElem?_toArray, List.getElem?_cons_succ, List.getElem?_cons_zero]; rfl)) (fun K hK => ?_) AllReadyH.nil
  go_simp
  (try dsimp only)
  refine hK.out _ _ ?_ (fun hHeld => ?_)
  · first | go_keep | exact ⟨y0, y17, y18⟩
  clear hK K
  try simp only [Act.put, List.setIfInBounds_toArray, List.set_cons_zero, List.set_cons_succ]
  refine wpAnyH_ready (rs := [10]) (by kernel_rfl) (by simp) ?_
  refine AllReadyH.cons (by (simp only [List.getElem?_toArray, List.getElem?_cons_succ, List.getElem?_cons_zero]; rfl)) (fun K hK => ?_) AllReadyH.nil
  go_simp
  (try dsimp only)
  refine hK.out _ _ ?_ (fun hHeld => ?_)
  · first | go_keep | exact ⟨y0, y17, y18⟩
  clear hK K
  try simp only [Act.put, List.setIfInBounds_toArray, List.set_cons_zero, List.set_cons_succ]
  refine wpAnyH_done (by kernel_rfl) ?_ _
  obtain ⟨Y, hY⟩ : ∃ Y, Y = (w6.alloc (.cells #[.int .i64 g.op, .int .i64 g.pg] TA)).drew := ⟨_, rfl⟩
  rw [← hY]
  have qY : Y.heap[w6.heap.size]? = some (.cells #[.int .i64 g.op, .int .i64 g.pg] TA (0, 0)) := by rw [hY]; exact blk_new _ _
  have bY : Below w6.heap.size w6 Y := by rw [hY]; exact (below_alloc (Below.refl _ _) _).drew
  have bYd : Below w6.heap.size w6 Y.drew := bY.drew
  have sY : Y.heap.size = w6.heap.size + 1 := by rw [hY]; exact size_alloc _ _
  have fY := hF.keep (hF.below HF3.out HB6.out) bYd
  have lY := (HL3.out.below HB6.out).below bY
  have zY0 := lY.c0
  have zY17 := lY.c17
  have zY18 := lY.c18
  have zY19 := lY.c19
  have zY6 : Y.cell? ⟨w.heap.size, 0, none⟩ = some (.slice A n c) := bcell ((bY.block _ (blt X66.out)).trans X66.out) 0
  have belX : Below N0 w w6 := ((WB.out.trans ((BB.out.trans (HB6.out.mono BB.out.size)).mono (by omega))).mono hsz)
  have kepX : Kept (fun k => K k ∧ k ≠ q) w w6 := (fun k hk => (((BB.out.trans (HB6.out.mono BB.out.size)).mono (by omega)).block k (HLT.out k hk.1)).trans (WB.out.block k (HLT.out k hk.1)))
  have bNY : Below N0 w Y.drew := belX.trans (bYd.mono (by have := belX.size; omega))
  have kNY : Kept (fun k => K k ∧ k ≠ q) w Y.drew := fun k hk => (bYd.block k (by have := HLT.out k hk.1; have := belX.size; omega)).trans (kepX k hk)
  have happ := Append_F (kind := kind) (seq := (g.nx - 1)) hF fY g.op g.pg hkk hsq hBl (HCX.out _ bNY kNY) (by rw [← HN.out]; exact hc) (by rw [← HN.out]; exact hm) hdd
  rw [HAP.out, ← HN.out] at happ
  have HAPP := Lib.hid happ
  have HFK := Aside0.mk fY
  have LY := Aside0.mk lY
  have QY := Lib.hid qY
  have BY := Aside0.mk bY
  have HY := Lib.hid hY
  have hwx : IntKind.u64.wrap (g.nx - 1) = g.nx - 1 := IntWalk.u64_in _ (by omega)
  have hwk : IntKind.i64.wrap (g.pg + (k : Int)) = g.pg + (k : Int) := IntWalk.i64_in _ (by omega)
  have BX := Aside0.mk belX
  have KX := Lib.hid kepX
  have nq1 : ¬ w6.heap.size = q := by have := blt (HL3.out.below HB6.out).blk; omega
  have nq2 : ¬ q = w6.heap.size := fun e => nq1 e.symm
  have nq3 : ¬ w.heap.size + 1 = q := by have := HLT.out q hq; omega
  have nq4 : ¬ q = w.heap.size + 1 := fun e => nq3 e.symm
  have nq5 : ¬ w6.heap.size = w.heap.size + 1 := by have := blt X86.out; omega
  have nq6 : ¬ w.heap.size + 1 = w6.heap.size := fun e => nq5 e.symm
  clear qY bY bYd fY lY belX kepX bNY kNY happ hY y0 y17 y18 hHeld
  go_wp2_with fail
  refine wp_region_held_drew (S := (fun w' => w'.cell? ⟨q, 0, none⟩ = some (.pointer (some ⟨p, 0, none⟩)) ∧ w'.cell? ⟨q, 17, none⟩ = some (.int .i64 g.op) ∧ w'.cell? ⟨q, 18, none⟩ = some (.int .i64 g.pg) ∧ w'.cell? ⟨q, 19, none⟩ = some (.int .u64 g.nx) ∧ w'.cell? ⟨w.heap.size, 0, none⟩ = some (.slice A n c))) (by kernel_rfl) ?_ (fun hHeld => ?_)
  · first | exact ⟨zY0, zY17, zY18, zY19, zY6⟩ | exact ⟨s0, s17, s18, s19, s6⟩
  first | (refine wpAnyH_take (i := 0) (oi := ?o19) (v := ?v19) ?i19 (by kernel_rfl) (by kernel_rfl) (by kernel_rfl) ?q19 ?y19 (by assumption) ?r19; (case i19 => (simp only [List.getElem?_toArray, List.getElem?_cons_succ, List.getElem?_cons_zero]; rfl)); (case q19 => exact fun _ _ _ h => h); (case y19 => (refine Or.inl ⟨by rfl, ?_⟩; intro w hSw; (try dsimp only at hSw); go_simp; (try (with_reducible rfl))))) | (refine wpAnyH_take (i := 0) (oi := ?o20) (v := undef) ?i20 (by kernel_rfl) (by kernel_rfl) (by kernel_rfl) ?q20 ?y20 (by assumption) ?r20; (case i20 => (simp only [List.getElem?_toArray, List.getElem?_cons_succ, List.getElem?_cons_zero]; rfl)); (case q20 => exact fun _ _ _ h => h); (case y20 => exact Or.inr ⟨by rfl, rfl⟩))
  try simp only [Act.put, List.setIfInBounds_toArray, List.set_cons_zero, List.set_cons_succ]
  first | (refine wpAnyH_take (i := 1) (oi := ?o21) (v := ?v21) ?i21 (by kernel_rfl) (by kernel_rfl) (by kernel_rfl) ?q21 ?y21 (by assumption) ?r21; (case i21 => (simp only [List.getElem?_toArray, List.getElem?_cons_succ, List.getElem?_cons_zero]; rfl)); (case q21 => exact fun _ _ _ h => h); (case y21 => (refine Or.inl ⟨by rfl, ?_⟩; intro w hSw; (try dsimp only at hSw); go_simp; (try (with_reducible rfl))))) | (refine wpAnyH_take (i := 1) (oi := ?o22) (v := undef) ?i22 (by kernel_rfl) (by kernel_rfl) (by kernel_rfl) ?q22 ?y22 (by assumption) ?r22; (case i22 => (simp only [List.getElem?_toArray, List.getElem?_cons_succ, List.getElem?_cons_zero]; rfl)); (case q22 => exact fun _ _ _ h => h); (case y22 => exact Or.inr ⟨by rfl, rfl⟩))
  try simp only [Act.put, List.setIfInBounds_toArray, List.set_cons_zero, List.set_cons_succ]
  first | (refine wpAnyH_take (i := 2) (oi := ?o23) (v := ?v23) ?i23 (by kernel_rfl) (by kernel_rfl) (by kernel_rfl) ?q23 ?y23 (by assumption) ?r23; (case i23 => (simp only [List.getElem?_toArray, List.getElem?_cons_succ, List.getElem?_cons_zero]; rfl)); (case q23 => exact fun _ _ _ h => h); (case y23 => (refine Or.inl ⟨by rfl, ?_⟩; intro w hSw; (try dsimp only at hSw); go_simp; (try (with_reducible rfl))))) | (refine wpAnyH_take (i := 2) (oi := ?o24) (v := undef) ?i24 (by kernel_rfl) (by kernel_rfl) (by kernel_rfl) ?q24 ?y24 (by assumption) ?r24; (case i24 => (simp only [List.getElem?_toArray, List.getElem?_cons_succ, List.getElem?_cons_zero]; rfl)); (case q24 => exact fun _ _ _ h => h); (case y24 => exact Or.inr ⟨by rfl, rfl⟩))
  try simp only [Act.put, List.setIfInBounds_toArray, List.set_cons_zero, List.set_cons_succ]
  first | (refine wpAnyH_take (i := 3) (oi := ?o25) (v := ?v25) ?i25 (by kernel_rfl) (by kernel_rfl) (by kernel_rfl) ?q25 ?y25 (by assumption) ?r25; (case i25 => (simp only [List.getElem?_toArray, List.getElem?_cons_succ, List.getElem?_cons_zero]; rfl)); (case q25 => exact fun _ _ _ h => h); (case y25 => (refine Or.inl ⟨by rfl, ?_⟩; intro w hSw; (try dsimp only at hSw); go_simp; (try (with_reducible rfl))))) | (refine wpAnyH_take (i := 3) (oi := ?o26) (v := undef) ?i26 (by kernel_rfl) (by kernel_rfl) (by kernel_rfl) ?q26 ?y26 (by assumption) ?r26; (case i26 => (simp only [List.getElem?_toArray, List.getElem?_cons_succ, List.getElem?_cons_zero]; rfl)); (case q26 => exact fun _ _ _ h => h); (case y26 => exact Or.inr ⟨by rfl, rfl⟩))
  try simp only [Act.put, List.setIfInBounds_toArray, List.set_cons_zero, List.set_cons_succ]
  first | (refine wpAnyH_take (i := 4) (oi := ?o27) (v := ?v27) ?i27 (by kernel_rfl) (by kernel_rfl) (by kernel_rfl) ?q27 ?y27 (by assumption) ?r27; (case i27 => (simp only [List.getElem?_toArray, List.getElem?_cons_succ, List.getElem?_cons_zero]; rfl)); (case q27 => exact fun _ _ _ h => h); (case y27 => (refine Or.inl ⟨by rfl, ?_⟩; intro w hSw; (try dsimp only at hSw); go_simp; (try (with_reducible rfl))))) | (refine wpAnyH_take (i := 4) (oi := ?o28) (v := undef) ?i28 (by kernel_rfl) (by kernel_rfl) (by kernel_rfl) ?q28 ?y28 (by assumption) ?r28; (case i28 => (simp only [List.getElem?_toArray, List.getElem?_cons_succ, List.getElem?_cons_zero]; rfl)); (case q28 => exact fun _ _ _ h => h); (case y28 => exact Or.inr ⟨by rfl, rfl⟩))
  try simp only [Act.put, List.setIfInBounds_toArray, List.set_cons_zero, List.set_cons_succ]
  first | (refine wpAnyH_take (i := 5) (oi := ?o29) (v := ?v29) ?i29 (by kernel_rfl) (by kernel_rfl) (by kernel_rfl) ?q29 ?y29 (by assumption) ?r29; (case i29 => (simp only [List.getElem?_toArray, List.getElem?_cons_succ, List.getElem?_cons_zero]; rfl)); (case q29 => exact fun _ _ _ h => h); (case y29 => (refine Or.inl ⟨by rfl, ?_⟩; intro w hSw; (try dsimp only at hSw); go_simp; (try (with_reducible rfl))))) | (refine wpAnyH_take (i := 5) (oi := ?o30) (v := undef) ?i30 (by kernel_rfl) (by kernel_rfl) (by kernel_rfl) ?q30 ?y30 (by assumption) ?r30; (case i30 => (simp only [List.getElem?_toArray, List.getElem?_cons_succ, List.getElem?_cons_zero]; rfl)); (case q30 => exact fun _ _ _ h => h); (case y30 => exact Or.inr ⟨by rfl, rfl⟩))
  try simp only [Act.put, List.setIfInBounds_toArray, List.set_cons_zero, List.set_cons_succ]
  first | (refine wpAnyH_take (i := 6) (oi := ?o31) (v := ?v31) ?i31 (by kernel_rfl) (by kernel_rfl) (by kernel_rfl) ?q31 ?y31 (by assumption) ?r31; (case i31 => (simp only [List.getElem?_toArray, List.getElem?_cons_succ, List.getElem?_cons_zero]; rfl)); (case q31 => exact fun _ _ _ h => h); (case y31 => (refine Or.inl ⟨by rfl, ?_⟩; intro w hSw; (try dsimp only at hSw); go_simp; (try (with_reducible rfl))))) | (refine wpAnyH_take (i := 6) (oi := ?o32) (v := undef) ?i32 (by kernel_rfl) (by kernel_rfl) (by kernel_rfl) ?q32 ?y32 (by assumption) ?r32; (case i32 => (simp only [List.getElem?_toArray, List.getElem?_cons_succ, List.getElem?_cons_zero]; rfl)); (case q32 => exact fun _ _ _ h => h); (case y32 => exact Or.inr ⟨by rfl, rfl⟩))
  try simp only [Act.put, List.setIfInBounds_toArray, List.set_cons_zero, List.set_cons_succ]
  first | (refine wpAnyH_take (i := 7) (oi := ?o33) (v := ?v33) ?i33 (by kernel_rfl) (by kernel_rfl) (by kernel_rfl) ?q33 ?y33 (by assumption) ?r33; (case i33 => (simp only [List.getElem?_toArray, List.getElem?_cons_succ, List.getElem?_cons_zero]; rfl)); (case q33 => exact fun _ _ _ h => h); (case y33 => (refine Or.inl ⟨by rfl, ?_⟩; intro w hSw; (try dsimp only at hSw); go_simp; (try (with_reducible rfl))))) | (refine wpAnyH_take (i := 7) (oi := ?o34) (v := undef) ?i34 (by kernel_rfl) (by kernel_rfl) (by kernel_rfl) ?q34 ?y34 (by assumption) ?r34; (case i34 => (simp only [List.getElem?_toArray, List.getElem?_cons_succ, List.getElem?_cons_zero]; rfl)); (case q34 => exact fun _ _ _ h => h); (case y34 => exact Or.inr ⟨by rfl, rfl⟩))
  try simp only [Act.put, List.setIfInBounds_toArray, List.set_cons_zero, List.set_cons_succ]
  first | (refine wpAnyH_take (i := 8) (oi := ?o35) (v := ?v35) ?i35 (by kernel_rfl) (by kernel_rfl) (by kernel_rfl) ?q35 ?y35 (by assumption) ?r35; (case i35 => (simp only [List.getElem?_toArray, List.getElem?_cons_succ, List.getElem?_cons_zero]; rfl)); (case q35 => exact fun _ _ _ h => h); (case y35 => (refine Or.inl ⟨by rfl, ?_⟩; intro w hSw; (try dsimp only at hSw); go_simp; (try (with_reducible rfl))))) | (refine wpAnyH_take (i := 8) (oi := ?o36) (v := undef) ?i36 (by kernel_rfl) (by kernel_rfl) (by kernel_rfl) ?q36 ?y36 (by assumption) ?r36; (case i36 => (simp only [List.getElem?_toArray, List.getElem?_cons_succ, List.getElem?_cons_zero]; rfl)); (case q36 => exact fun _ _ _ h => h); (case y36 => exact Or.inr ⟨by rfl, rfl⟩))
  try simp only [Act.put, List.setIfInBounds_toArray, List.set_cons_zero, List.set_cons_succ]
  first | (refine wpAnyH_take (i := 9) (oi := ?o37) (v := ?v37) ?i37 (by kernel_rfl) (by kernel_rfl) (by kernel_rfl) ?q37 ?y37 (by assumption) ?r37; (case i37 => (simp only [List.getElem?_toArray, List.getElem?_cons_succ, List.getElem?_cons_zero]; rfl)); (case q37 => exact fun _ _ _ h => h); (case y37 => (refine Or.inl ⟨by rfl, ?_⟩; intro w hSw; (try dsimp only at hSw); go_simp; (try (with_reducible rfl))))) | (refine wpAnyH_take (i := 9) (oi := ?o38) (v := undef) ?i38 (by kernel_rfl) (by kernel_rfl) (by kernel_rfl) ?q38 ?y38 (by assumption) ?r38; (case i38 => (simp only [List.getElem?_toArray, List.getElem?_cons_succ, List.getElem?_cons_zero]; rfl)); (case q38 => exact fun _ _ _ h => h); (case y38 => exact Or.inr ⟨by rfl, rfl⟩))
  try simp only [Act.put, List.setIfInBounds_toArray, List.set_cons_zero, List.set_cons_succ]
  first | (refine wpAnyH_take (i := 10) (oi := ?o39) (v := ?v39) ?i39 (by kernel_rfl) (by kernel_rfl) (by kernel_rfl) ?q39 ?y39 (by assumption) ?r39; (case i39 => (simp only [List.getElem?_toArray, List.getElem?_cons_succ, List.getElem?_cons_zero]; rfl)); (case q39 => exact fun _ _ _ h => h); (case y39 => (refine Or.inl ⟨by rfl, ?_⟩; intro w hSw; (try dsimp only at hSw); go_simp; (try (with_reducible rfl))))) | (refine wpAnyH_take (i := 10) (oi := ?o40) (v := undef) ?i40 (by kernel_rfl) (by kernel_rfl) (by kernel_rfl) ?q40 ?y40 (by assumption) ?r40; (case i40 => (simp only [List.getElem?_toArray, List.getElem?_cons_succ, List.getElem?_cons_zero]; rfl)); (case q40 => exact fun _ _ _ h => h); (case y40 => exact Or.inr ⟨by rfl, rfl⟩))
  try simp only [Act.put, List.setIfInBounds_toArray, List.set_cons_zero, List.set_cons_succ]
  first | (refine wpAnyH_take (i := 11) (oi := ?o41) (v := ?v41) ?i41 (by kernel_rfl) (by kernel_rfl) (by kernel_rfl) ?q41 ?y41 (by assumption) ?r41; (case i41 => (simp only [List.getElem?_toArray, List.getElem?_cons_succ, List.getElem?_cons_zero]; rfl)); (case q41 => exact fun _ _ _ h => h); (case y41 => (refine Or.inl ⟨by rfl, ?_⟩; intro w hSw; (try dsimp only at hSw); go_simp; (try (with_reducible rfl))))) | (refine wpAnyH_take (i := 11) (oi := ?o42) (v := undef) ?i42 (by kernel_rfl) (by kernel_rfl) (by kernel_rfl) ?q42 ?y42 (by assumption) ?r42; (case i42 => (simp only [List.getElem?_toArray, List.getElem?_cons_succ, List.getElem?_cons_zero]; rfl)); (case q42 => exact fun _ _ _ h => h); (case y42 => exact Or.inr ⟨by rfl, rfl⟩))
  try simp only [Act.put, List.setIfInBounds_toArray, List.set_cons_zero, List.set_cons_succ]
  first | (refine wpAnyH_take (i := 12) (oi := ?o43) (v := ?v43) ?i43 (by kernel_rfl) (by kernel_rfl) (by kernel_rfl) ?q43 ?y43 (by assumption) ?r43; (case i43 => (simp only [List.getElem?_toArray, List.getElem?_cons_succ, List.getElem?_cons_zero]; rfl)); (case q43 => exact fun _ _ _ h => h); (case y43 => (refine Or.inl ⟨by rfl, ?_⟩; intro w hSw; (try dsimp only at hSw); go_simp; (try (with_reducible rfl))))) | (refine wpAnyH_take (i := 12) (oi := ?o44) (v := undef) ?i44 (by kernel_rfl) (by kernel_rfl) (by kernel_rfl) ?q44 ?y44 (by assumption) ?r44; (case i44 => (simp only [List.getElem?_toArray, List.getElem?_cons_succ, List.getElem?_cons_zero]; rfl)); (case q44 => exact fun _ _ _ h => h); (case y44 => exact Or.inr ⟨by rfl, rfl⟩))
  try simp only [Act.put, List.setIfInBounds_toArray, List.set_cons_zero, List.set_cons_succ]
  first | (refine wpAnyH_take (i := 13) (oi := ?o45) (v := ?v45) ?i45 (by kernel_rfl) (by kernel_rfl) (by kernel_rfl) ?q45 ?y45 (by assumption) ?r45; (case i45 => (simp only [List.getElem?_toArray, List.getElem?_cons_succ, List.getElem?_cons_zero]; rfl)); (case q45 => exact fun _ _ _ h => h); (case y45 => (refine Or.inl ⟨by rfl, ?_⟩; intro w hSw; (try dsimp only at hSw); go_simp; (try (with_reducible rfl))))) | (refine wpAnyH_take (i := 13) (oi := ?o46) (v := undef) ?i46 (by kernel_rfl) (by kernel_rfl) (by kernel_rfl) ?q46 ?y46 (by assumption) ?r46; (case i46 => (simp only [List.getElem?_toArray, List.getElem?_cons_succ, List.getElem?_cons_zero]; rfl)); (case q46 => exact fun _ _ _ h => h); (case y46 => exact Or.inr ⟨by rfl, rfl⟩))
  try simp only [Act.put, List.setIfInBounds_toArray, List.set_cons_zero, List.set_cons_succ]
  first | (refine wpAnyH_take (i := 14) (oi := ?o47) (v := ?v47) ?i47 (by kernel_rfl) (by kernel_rfl) (by kernel_rfl) ?q47 ?y47 (by assumption) ?r47; (case i47 => (simp only [List.getElem?_toArray, List.getElem?_cons_succ, List.getElem?_cons_zero]; rfl)); (case q47 => exact fun _ _ _ h => h); (case y47 => (refine Or.inl ⟨by rfl, ?_⟩; intro w hSw; (try dsimp only at hSw); go_simp; (try (with_reducible rfl))))) | (refine wpAnyH_take (i := 14) (oi := ?o48) (v := undef) ?i48 (by kernel_rfl) (by kernel_rfl) (by kernel_rfl) ?q48 ?y48 (by assumption) ?r48; (case i48 => (simp only [List.getElem?_toArray, List.getElem?_cons_succ, List.getElem?_cons_zero]; rfl)); (case q48 => exact fun _ _ _ h => h); (case y48 => exact Or.inr ⟨by rfl, rfl⟩))
  try simp only [Act.put, List.setIfInBounds_toArray, List.set_cons_zero, List.set_cons_succ]
  first | (refine wpAnyH_take (i := 15) (oi := ?o49) (v := ?v49) ?i49 (by kernel_rfl) (by kernel_rfl) (by kernel_rfl) ?q49 ?y49 (by assumption) ?r49; (case i49 => (simp only [List.getElem?_toArray, List.getElem?_cons_succ, List.getElem?_cons_zero]; rfl)); (case q49 => exact fun _ _ _ h => h); (case y49 => (refine Or.inl ⟨by rfl, ?_⟩; intro w hSw; (try dsimp only at hSw); go_simp; (try (with_reducible rfl))))) | (refine wpAnyH_take (i := 15) (oi := ?o50) (v := undef) ?i50 (by kernel_rfl) (by kernel_rfl) (by kernel_rfl) ?q50 ?y50 (by assumption) ?r50; (case i50 => (simp only [List.getElem?_toArray, List.getElem?_cons_succ, List.getElem?_cons_zero]; rfl)); (case q50 => exact fun _ _ _ h => h); (case y50 => exact Or.inr ⟨by rfl, rfl⟩))
  try simp only [Act.put, List.setIfInBounds_toArray, List.set_cons_zero, List.set_cons_succ]
  first | (refine wpAnyH_take (i := 16) (oi := ?o51) (v := ?v51) ?i51 (by kernel_rfl) (by kernel_rfl) (by kernel_rfl) ?q51 ?y51 (by assumption) ?r51; (case i51 => (simp only [List.getElem?_toArray, List.getElem?_cons_succ, List.getElem?_cons_zero]; rfl)); (case q51 => exact fun _ _ _ h => h); (case y51 => (refine Or.inl ⟨by rfl, ?_⟩; intro w hSw; (try dsimp only at hSw); go_simp; (try (with_reducible rfl))))) | (refine wpAnyH_take (i := 16) (oi := ?o52) (v := undef) ?i52 (by kernel_rfl) (by kernel_rfl) (by kernel_rfl) ?q52 ?y52 (by assumption) ?r52; (case i52 => (simp only [List.getElem?_toArray, List.getElem?_cons_succ, List.getElem?_cons_zero]; rfl)); (case q52 => exact fun _ _ _ h => h); (case y52 => exact Or.inr ⟨by rfl, rfl⟩))
  try simp only [Act.put, List.setIfInBounds_toArray, List.set_cons_zero, List.set_cons_succ]
  first | (refine wpAnyH_take (i := 17) (oi := ?o53) (v := ?v53) ?i53 (by kernel_rfl) (by kernel_rfl) (by kernel_rfl) ?q53 ?y53 (by assumption) ?r53; (case i53 => (simp only [List.getElem?_toArray, List.getElem?_cons_succ, List.getElem?_cons_zero]; rfl)); (case q53 => exact fun _ _ _ h => h); (case y53 => (refine Or.inl ⟨by rfl, ?_⟩; intro w hSw; (try dsimp only at hSw); go_simp; (try (with_reducible rfl))))) | (refine wpAnyH_take (i := 17) (oi := ?o54) (v := undef) ?i54 (by kernel_rfl) (by kernel_rfl) (by kernel_rfl) ?q54 ?y54 (by assumption) ?r54; (case i54 => (simp only [List.getElem?_toArray, List.getElem?_cons_succ, List.getElem?_cons_zero]; rfl)); (case q54 => exact fun _ _ _ h => h); (case y54 => exact Or.inr ⟨by rfl, rfl⟩))
  try simp only [Act.put, List.setIfInBounds_toArray, List.set_cons_zero, List.set_cons_succ]
  first | (refine wpAnyH_take (i := 18) (oi := ?o55) (v := ?v55) ?i55 (by kernel_rfl) (by kernel_rfl) (by kernel_rfl) ?q55 ?y55 (by assumption) ?r55; (case i55 => (simp only [List.getElem?_toArray, List.getElem?_cons_succ, List.getElem?_cons_zero]; rfl)); (case q55 => exact fun _ _ _ h => h); (case y55 => (refine Or.inl ⟨by rfl, ?_⟩; intro w hSw; (try dsimp only at hSw); go_simp; (try (with_reducible rfl))))) | (refine wpAnyH_take (i := 18) (oi := ?o56) (v := undef) ?i56 (by kernel_rfl) (by kernel_rfl) (by kernel_rfl) ?q56 ?y56 (by assumption) ?r56; (case i56 => (simp only [List.getElem?_toArray, List.getElem?_cons_succ, List.getElem?_cons_zero]; rfl)); (case q56 => exact fun _ _ _ h => h); (case y56 => exact Or.inr ⟨by rfl, rfl⟩))
  try simp only [Act.put, List.setIfInBounds_toArray, List.set_cons_zero, List.set_cons_succ]
  refine wpAnyH_ready (rs := [19]) (by kernel_rfl) (by simp) ?_
  refine AllReadyH.cons (by (simp only [List.getElem?_toArray, List.getElem?_cons_succ, List.getElem?_cons_zero]; rfl)) (fun K hK => ?_) AllReadyH.nil
  go_simp
  (go_at_call 14; (with_reducible refine HAPP.out.mono ?_); rintro e w10 ⟨rfl, hf10, hb10, hk10⟩; have hl10 : LogIs q p g w10 := ⟨LY.out.len, (hk10 q (.inl (.inl (.inl hq)))).trans LY.out.blk⟩; have s0 := hl10.c0; have s17 := hl10.c17; have s18 := hl10.c18; have s19 := hl10.c19; have fr18 := hl10.frozen 18; have x6 := (hk10 w.heap.size (.inl (.inl (.inr ⟨Nat.le_refl _, by omega⟩)))).trans ((BY.out.block _ (blt X66.out)).trans X66.out); have x8 := (hk10 (w.heap.size + 1) (.inl (.inl (.inr ⟨Nat.le_succ _, by omega⟩)))).trans ((BY.out.block _ (blt X86.out)).trans X86.out); have x12 := (hk10 w6.heap.size (.inr ⟨Nat.le_refl _, by show _ < Y.heap.size; omega⟩)).trans QY.out; have s6 : w10.cell? ⟨w.heap.size, 0, none⟩ = some (.slice A n c) := bcell x6 0; have m0 : w10.cell? ⟨w.heap.size + 1, 0, none⟩ = some (.int .i64 0) := bcell x8 0; have m1 : w10.cell? ⟨w.heap.size + 1, 1, none⟩ = some (.int .i64 0) := bcell x8 1; have mf : ∀ j, w10.frozen? ⟨w.heap.size + 1, j, none⟩ = false := (fun j => bfrozen x8 j); have t0 : w10.cell? ⟨w6.heap.size, 0, none⟩ = some (.int .i64 g.op) := bcell x12 0; have t1 : w10.cell? ⟨w6.heap.size, 1, none⟩ = some (.int .i64 g.pg) := bcell x12 1; have HL10 := Aside0.mk hl10; have X810 := Lib.hid x8; have HF10 := Aside0.mk hf10; have HB10 := Aside0.mk (BX.out.trans ((show Below N0 w6 Y.drew from (BY.out.drew).mono (by have := BX.out.size; omega)).trans hb10)); have HKR := Lib.hid hk10; clear hl10 hf10 hb10 hk10 x6 x8 x12)
  (try dsimp only)
  refine hK.out _ _ ?_ (fun hHeld => ?_)
  · first | exact ⟨zY0, zY17, zY18, zY19, zY6⟩ | exact ⟨s0, s17, s18, s19, s6⟩
  clear hK K
  try simp only [Act.put, List.setIfInBounds_toArray, List.set_cons_zero, List.set_cons_succ]
  first | (refine wpAnyH_take (i := 20) (oi := ?o57) (v := ?v57) ?i57 (by kernel_rfl) (by kernel_rfl) (by kernel_rfl) ?q57 ?y57 (by assumption) ?r57; (case i57 => (simp only [List.getElem?_toArray, List.getElem?_cons_succ, List.getElem?_cons_zero]; rfl)); (case q57 => exact fun _ _ _ h => h); (case y57 => (refine Or.inl ⟨by rfl, ?_⟩; intro w hSw; (try dsimp only at hSw); go_simp; (try (with_reducible rfl))))) | (refine wpAnyH_take (i := 20) (oi := ?o58) (v := undef) ?i58 (by kernel_rfl) (by kernel_rfl) (by kernel_rfl) ?q58 ?y58 (by assumption) ?r58; (case i58 => (simp only [List.getElem?_toArray, List.getElem?_cons_succ, List.getElem?_cons_zero]; rfl)); (case q58 => exact fun _ _ _ h => h); (case y58 => exact Or.inr ⟨by rfl, rfl⟩))
  try simp only [Act.put, List.setIfInBounds_toArray, List.set_cons_zero, List.set_cons_succ]
  first | (refine wpAnyH_take (i := 21) (oi := ?o59) (v := ?v59) ?i59 (by kernel_rfl) (by kernel_rfl) (by kernel_rfl) ?q59 ?y59 (by assumption) ?r59; (case i59 => (simp only [List.getElem?_toArray, List.getElem?_cons_succ, List.getElem?_cons_zero]; rfl)); (case q59 => exact fun _ _ _ h => h); (case y59 => (refine Or.inl ⟨by rfl, ?_⟩; intro w hSw; (try dsimp only at hSw); go_simp; (try (with_reducible rfl))))) | (refine wpAnyH_take (i := 21) (oi := ?o60) (v := undef) ?i60 (by kernel_rfl) (by kernel_rfl) (by kernel_rfl) ?q60 ?y60 (by assumption) ?r60; (case i60 => (simp only [List.getElem?_toArray, List.getElem?_cons_succ, List.getElem?_cons_zero]; rfl)); (case q60 => exact fun _ _ _ h => h); (case y60 => exact Or.inr ⟨by rfl, rfl⟩))
  try simp only [Act.put, List.setIfInBounds_toArray, List.set_cons_zero, List.set_cons_succ]
  first | (refine wpAnyH_take (i := 22) (oi := ?o61) (v := ?v61) ?i61 (by kernel_rfl) (by kernel_rfl) (by kernel_rfl) ?q61 ?y61 (by assumption) ?r61; (case i61 => (simp only [List.getElem?_toArray, List.getElem?_cons_succ, List.getElem?_cons_zero]; rfl)); (case q61 => exact fun _ _ _ h => h); (case y61 => (refine Or.inl ⟨by rfl, ?_⟩; intro w hSw; (try dsimp only at hSw); go_simp; (try (with_reducible rfl))))) | (refine wpAnyH_take (i := 22) (oi := ?o62) (v := undef) ?i62 (by kernel_rfl) (by kernel_rfl) (by kernel_rfl) ?q62 ?y62 (by assumption) ?r62; (case i62 => (simp only [List.getElem?_toArray, List.getElem?_cons_succ, List.getElem?_cons_zero]; rfl)); (case q62 => exact fun _ _ _ h => h); (case y62 => exact Or.inr ⟨by rfl, rfl⟩))
  try simp only [Act.put, List.setIfInBounds_toArray, List.set_cons_zero, List.set_cons_succ]
  first | (refine wpAnyH_take (i := 23) (oi := ?o63) (v := ?v63) ?i63 (by kernel_rfl) (by kernel_rfl) (by kernel_rfl) ?q63 ?y63 (by assumption) ?r63; (case i63 => (simp only [List.getElem?_toArray, List.getElem?_cons_succ, List.getElem?_cons_zero]; rfl)); (case q63 => exact fun _ _ _ h => h); (case y63 => (refine Or.inl ⟨by rfl, ?_⟩; intro w hSw; (try dsimp only at hSw); go_simp; (try (with_reducible rfl))))) | (refine wpAnyH_take (i := 23) (oi := ?o64) (v := undef) ?i64 (by kernel_rfl) (by kernel_rfl) (by kernel_rfl) ?q64 ?y64 (by assumption) ?r64; (case i64 => (simp only [List.getElem?_toArray, List.getElem?_cons_succ, List.getElem?_cons_zero]; rfl)); (case q64 => exact fun _ _ _ h => h); (case y64 => exact Or.inr ⟨by rfl, rfl⟩))
  try simp only [Act.put, List.setIfInBounds_toArray, List.set_cons_zero, List.set_cons_succ]
  first | (refine wpAnyH_take (i := 24) (oi := ?o65) (v := ?v65) ?i65 (by kernel_rfl) (by kernel_rfl) (by kernel_rfl) ?q65 ?y65 (by assumption) ?r65; (case i65 => (simp only [List.getElem?_toArray, List.getElem?_cons_succ, List.getElem?_cons_zero]; rfl)); (case q65 => exact fun _ _ _ h => h); (case y65 => (refine Or.inl ⟨by rfl, ?_⟩; intro w hSw; (try dsimp only at hSw); go_simp; (try (with_reducible rfl))))) | (refine wpAnyH_take (i := 24) (oi := ?o66) (v := undef) ?i66 (by kernel_rfl) (by kernel_rfl) (by kernel_rfl) ?q66 ?y66 (by assumption) ?r66; (case i66 => (simp only [List.getElem?_toArray, List.getElem?_cons_succ, List.getElem?_cons_zero]; rfl)); (case q66 => exact fun _ _ _ h => h); (case y66 => exact Or.inr ⟨by rfl, rfl⟩))
  try simp only [Act.put, List.setIfInBounds_toArray, List.set_cons_zero, List.set_cons_succ]
  refine wpAnyH_done (by kernel_rfl) ?_ _
  go_wp2_with fail
  have HK10 := Lib.hid (show Kept (fun k => K k ∧ k ≠ q) w w10 from fun k hk => (HKR.out k (.inl (.inl (.inl hk.1)))).trans ((BY.out.block k (by have := HLT.out k hk.1; have := BX.out.size; omega)).trans (KX.out k hk)))
  have hl11 := HL10.out.setPg (g.pg + (k : Int))
  have hu11 := Upd.setCell w10 (p := ⟨q, 18, none⟩) (S := fun k => k = q) rfl (.int .i64 (g.pg + (k : Int)))
  have hf11 := hSt _ _ w10 _ q _ _ _ HF10.out (.inl (.inl (.inl hq))) HL10.out.blk hl11.blk (by decide) hu11
  have s10 := hF.size HF10.out
  have hb11 := HB10.out.trans (hu11.below s10 (fun k hk => by rw [hk]; exact hN))
  have x811 := (hu11.block (w.heap.size + 1) (blt X810.out) (fun e => nq3 e)).trans X810.out
  have hk11 : Kept (fun k => K k ∧ k ≠ q) w (w10.setCell ⟨q, 18, none⟩ (.int .i64 (g.pg + (k : Int)))) := fun k hk => (hu11.block k (hF.lt HF10.out k (.inl (.inl (.inl hk.1)))) hk.2).trans (HK10.out k hk)
  obtain ⟨w9, hw9⟩ : ∃ w9, w9 = ((w10.setCell ⟨q, 18, none⟩ (.int .i64 (g.pg + (k : Int)))).setCell ⟨w.heap.size + 1, 0, none⟩ (.int .i64 g.op)).setCell ⟨w.heap.size + 1, 1, none⟩ (.int .i64 g.pg) := ⟨_, rfl⟩
  rw [← hw9]
  obtain ⟨r8, hf9, hl9, hb9, hk9⟩ := put_end hF hSt hf11 hl11 hq HLT.out hsz (Nat.le_succ _) x811 (.inl (.inl (.inr ⟨Nat.le_succ _, by omega⟩))) (fun k hk => .inl (.inl (.inl hk))) hb11 hk11 hw9
  have r0 := bcell r8 0
  have r1 := bcell r8 1
  exact bodyPost_ret (v := .tuple #[.agg #[.int .i64 g.op, .int .i64 g.pg], .int .i64 0]) (by simp [results, Try.results101, go_sem, r0, r1]) rfl ⟨rfl, hf9, hl9, hb9, hk9⟩
set_option maxHeartbeats 4000000 in
set_option maxRecDepth 100000 in
theorem LPut_turn0 (hF : DevFrame N0 p F) (hSt : ∀ D, Stays (fun K w => F K D w)) (h : F K D w) (hl : LogIs q p g w) (hq : K q) (hN : N0 ≤ q) (hC : kB.C w A l.length l) (hc : l.length ≤ c) (hm : l.length < 1000000) (hk : kind ≠ 1) (hv1 : fitsS D.s 1 l.length = true) (ho : g.op < 0) (hkk : KindOk kind) (hBl : Byt l) (hCx : ∀ X, Below N0 w X → Kept (fun k => K k ∧ k ≠ q) w X → kB.C X A l.length l) (hd0 : D.dirty.length < 900000) {m : Nat} (hdd : (appD D (m : Int) 0 0 (rec 1 g.nx [])).dirty.length < 900000) (ho16 : g.op < 16) (hsq : SeqOk g.nx) (hn1 : 0 ≤ g.nx) (hn2 : g.nx < 1000000) (hm16 : m < 16) (hfi : ∀ r, FirstAt (sealG g).st 0 r → r = (m : Int)) {k : Nat} (hp1 : (k : Int) < 900) (hap : appE (appD D (m : Int) 0 0 (rec 1 g.nx [])) (m : Int) 1 l.length = ((k : Int), 0)) (hcn : ¬ (cnt 0 (g.st.take D.s.1.toNat) : Int) < need) : Calls Try.prog 101 #[.pointer (some ⟨q, 0, none⟩), .int .u8 kind, .slice A l.length c, .int .i64 need] w (PutPost N0 q p F K w ((m : Int), 1) 0 (appD (appD D (m : Int) 0 0 (rec 1 g.nx [])) (m : Int) 1 l.length (rec kind g.nx l)) { st := (sealG g).st.set m 1, op := (m : Int), pg := 1 + (k : Int), nx := g.nx + 1 }) := by
  have hpg : ∀ X : World, Calls Try.prog 85 #[.int .i64 0, .int .i64 D.s.2.2] X fun e w' => e = .returned (.int .i64 1) ∧ Below X.heap.size X w' := fun X => by
    have := Pages_ok 0 D.s (hF.shape h) (by omega) X
    rw [kpg_zero (hF.shape h)] at this
    exact this
  have HPG := Lib.hid hpg
  have HKI := Lib.hid (show (kind == 1) = false by simpa using hk)
  have e_k := HKI.out
  have HV1 := Lib.hid hv1
  obtain ⟨c0, hc0⟩ : ∃ c0, c0 = cnt 0 (g.st.take D.s.1.toNat) := ⟨_, rfl⟩
  rw [← hc0] at hcn
  have HC0 := Lib.hid hc0
  clear hc0
  have HAP := Lib.hid hap
  have HCX := Lib.hid hCx
  have HFI := Lib.hid hfi
  clear hap hCx hfi
  obtain ⟨n, hn⟩ : ∃ n, n = l.length := ⟨_, rfl⟩
  have hsz := hF.size h
  have hlt := fun k hk => hF.lt h k hk
  obtain ⟨W, hW⟩ : ∃ W, W = (w.alloc (.cells #[.slice A n c] TBs)).alloc (.cells #[.int .i64 0, .int .i64 0] TA) := ⟨_, rfl⟩
  obtain ⟨q6, q8⟩ := pair_blk w (.cells #[.slice A n c] TBs) (.cells #[.int .i64 0, .int .i64 0] TA)
  rw [← hW] at q6 q8
  have wb : Below w.heap.size w W := by rw [hW]; exact below_alloc (below_alloc (Below.refl _ _) _) _
  have wsz : W.heap.size = w.heap.size + 2 := by rw [hW, size_alloc, size_alloc]
  have hf1 := hF.keep h wb
  have hl1 := hl.below wb
  obtain ⟨ok1, hD1⟩ := hF.dev hf1
  have hsh := hD1.sound.sh
  have HOK := Lib.hid (Lok_any hl1)
  have HSHP := Lib.hid (Shape_any hD1)
  have HF1 := Aside0.mk hf1
  have HL1 := Aside0.mk hl1
  have HW := Lib.hid hW
  have Q6 := Lib.hid q6
  have Q8 := Lib.hid q8
  have WB := Aside0.mk wb
  have HSH := Lib.hid hsh
  have HN := Lib.hid hn
  have HLT := Lib.hid hlt
  have k0 : W.cell? ⟨q, 0, none⟩ = some (.pointer (some ⟨p, 0, none⟩)) := hl1.c0
  rw [← hn] at hc hm
  rw [← hn]
  clear h hl hn hlt hf1 hl1 hD1 hsh hW q6 q8 wb hpg hv1 hk
  go_enter Try.func101, Try.ntmps101
  have e_c : decide ((c0 : Int) < need) = false := decide_eq_false hcn
  go_wp2_with (first
    | (rw [← HW.out])
    | (rw [← HW3.out])
    | (go_at_call 75; (with_reducible refine HOK.out.mono ?_); rintro e w1 ⟨rfl, rfl⟩)
    | (go_at_call 56; (with_reducible refine HSHP.out.mono ?_); rintro e w2 ⟨rfl, hb2⟩; obtain ⟨W3, hW3⟩ : ∃ W3, W3 = w2.alloc (.cells #[.int .i64 D.s.1, .int .i64 D.s.2.1, .int .i64 D.s.2.2] TSh) := ⟨_, rfl⟩; have q10 : W3.heap[w2.heap.size]? = some (.cells #[.int .i64 D.s.1, .int .i64 D.s.2.1, .int .i64 D.s.2.2] TSh (0, 0)) := (by rw [hW3]; exact blk_new _ _); have b23 : Below w2.heap.size w2 W3 := (by rw [hW3]; exact below_alloc (Below.refl _ _) _); have hbb := hb2.trans (b23.mono hb2.size); have HF3 := Aside0.mk (hF.keep (hF.below HF1.out hb2) b23); have HL3 := Aside0.mk (HL1.out.below hbb); have p6 := (hbb.block _ (blt Q6.out)).trans Q6.out; have p8 := (hbb.block _ (blt Q8.out)).trans Q8.out; have P6 := Lib.hid p6; have P8 := Lib.hid p8; have Q10 := Lib.hid q10; have BB := Aside0.mk hbb; have HW3 := Lib.hid hW3; have z0 : W3.cell? ⟨w.heap.size + 1, 0, none⟩ = some (.int .i64 0) := bcell p8 0; have z1 : W3.cell? ⟨w.heap.size + 1, 1, none⟩ = some (.int .i64 0) := bcell p8 1; have zf : ∀ j, W3.frozen? ⟨w.heap.size + 1, j, none⟩ = false := (fun j => bfrozen p8 j); have y2 : W3.cell? ⟨w2.heap.size, 2, none⟩ = some (.int .i64 D.s.2.2) := bcell q10 2; clear hb2 hW3 q10 b23 hbb p6 p8)
    | (go_at_call 85; (with_reducible refine (HPG.out _).mono ?_); rintro e w4 ⟨rfl, hb4⟩; have x6 := (hb4.block _ (blt P6.out)).trans P6.out; have x10 := (hb4.block _ (blt Q10.out)).trans Q10.out; have X6 := Lib.hid x6; have X10 := Lib.hid x10; have HB4 := Aside0.mk hb4; clear x6 x10 hb4)
    | ((with_reducible refine gate_dst (N := 34) rfl ?_); (refine closL (some 34) rfl rfl 30 putfits_clo #[.int .i64 1] rfl rfl (by simp only [List.map_toArray, List.map_cons, List.map_nil]; rfl) ?_; refine (PutFits_any (w := w4) HSH.out (bcell X10.out 0) (bcell X10.out 1) (bcell X10.out 2) (bcell X6.out 0) (show n ≤ 9223372036854775807 by omega) 1).mono ?_; (have hvv := HV1.out; rw [← HN.out] at hvv; rw [hvv]; clear hvv); rintro e w5 ⟨rfl, hb5⟩; refine ⟨_, rfl, ?_⟩; have HB5 := Aside0.mk (HB4.out.trans (hb5.mono HB4.out.size)); have hl5 := HL3.out.below HB5.out; have k05 := hl5.c0; have k17 := hl5.c17; have k18 := hl5.c18; have x6 := (HB5.out.block _ (blt P6.out)).trans P6.out; have x8 := (HB5.out.block _ (blt P8.out)).trans P8.out; have x10 := (HB5.out.block _ (blt Q10.out)).trans Q10.out; have X65 := Lib.hid x6; have X85 := Lib.hid x8; have X105 := Lib.hid x10; have z05 : w5.cell? ⟨w.heap.size + 1, 0, none⟩ = some (.int .i64 0) := bcell x8 0; have z15 : w5.cell? ⟨w.heap.size + 1, 1, none⟩ = some (.int .i64 0) := bcell x8 1; have zf5 : ∀ j, w5.frozen? ⟨w.heap.size + 1, j, none⟩ = false := (fun j => bfrozen x8 j); have HL5 := Aside0.mk hl5; have HF5 := Aside0.mk (hF.below HF3.out HB5.out); clear hb5 hl5 x6 x8 x10))
    | (go_at_call 31; (obtain ⟨okc, hDc⟩ := hF.dev (hF.below HF3.out HB5.out)); (have hcc := LCount_any (HL3.out.below HB5.out) hDc 0); (rw [← HC0.out] at hcc); (with_reducible refine hcc.mono ?_); clear hcc hDc; rintro e w7 ⟨rfl, hb7⟩; have HB7 := Aside0.mk (HB5.out.trans (hb7.mono HB5.out.size)); have x8 := (HB7.out.block _ (blt P8.out)).trans P8.out; have X87 := Lib.hid x8; have z07 : w7.cell? ⟨w.heap.size + 1, 0, none⟩ = some (.int .i64 0) := bcell x8 0; have z17 : w7.cell? ⟨w.heap.size + 1, 1, none⟩ = some (.int .i64 0) := bcell x8 1; have zf7 : ∀ j, w7.frozen? ⟨w.heap.size + 1, j, none⟩ = false := (fun j => bfrozen x8 j); clear hb7 x8)
    | (go_at_call 123; (have htn := LTurn_F hF hSt (hF.below HF3.out HB7.out) (HL3.out.below HB7.out) (.inl (.inl hq)) hN ho16 hsq hn2 hn1 hd0 hm16 HFI.out); (with_reducible refine htn.mono ?_); clear htn; rintro e w8 ⟨rfl, hf8, hl8, hb8, hk8⟩; have bel8 : Below N0 w w8 := (((WB.out.trans ((BB.out.trans (HB7.out.mono BB.out.size)).mono (by omega))).mono hsz)).trans hb8; have kep8 : Kept (fun k => K k ∧ k ≠ q) w w8 := (fun k hk => (hk8 k ⟨.inl (.inl hk.1), hk.2⟩).trans ((show Kept (fun k => K k ∧ k ≠ q) w w7 from (fun k hk => (((BB.out.trans (HB7.out.mono BB.out.size)).mono (by omega)).block k (HLT.out k hk.1)).trans (WB.out.block k (HLT.out k hk.1)))) k hk)); have x6 := (hk8 w.heap.size ⟨.inl (.inr ⟨Nat.le_refl _, by omega⟩), (by have := HLT.out q hq; omega)⟩).trans ((HB7.out.block _ (blt P6.out)).trans P6.out); have x8 := (hk8 (w.heap.size + 1) ⟨.inl (.inr ⟨Nat.le_succ _, by omega⟩), (by have := HLT.out q hq; omega)⟩).trans X87.out; have X68 := Lib.hid x6; have X88 := Lib.hid x8; have HF8 := Aside0.mk hf8; have HL8 := Aside0.mk hl8; have BEL8 := Aside0.mk bel8; have KEP8 := Lib.hid kep8; clear hf8 hl8 hb8 hk8 bel8 kep8 x6 x8))
  have y0 := HL8.out.c0
  have y17 := HL8.out.c17
  have y18 := HL8.out.c18
  refine wp_region_held_drew (S := (fun w' => w'.cell? ⟨q, 0, none⟩ = some (.pointer (some ⟨p, 0, none⟩)) ∧ w'.cell? ⟨q, 17, none⟩ = some (.int .i64 (m : Int)) ∧ w'.cell? ⟨q, 18, none⟩ = some (.int .i64 1))) (by kernel_rfl) ?_ (fun hHeld => ?_)
  · first | go_keep | exact ⟨y0, y17, y18⟩
  first | (refine wpAnyH_take (i := 0) (oi := ?o67) (v := ?v67) ?i67 (by kernel_rfl) (by kernel_rfl) (by kernel_rfl) ?q67 ?y67 (by assumption) ?r67; (case i67 => (simp only [List.getElem?_toArray, List.getElem?_cons_succ, List.getElem?_cons_zero]; rfl)); (case q67 => exact fun _ _ _ h => h); (case y67 => (refine Or.inl ⟨by rfl, ?_⟩; intro w hSw; (try dsimp only at hSw); go_simp; (try (with_reducible rfl))))) | (refine wpAnyH_take (i := 0) (oi := ?o68) (v := undef) ?i68 (by kernel_rfl) (by kernel_rfl) (by kernel_rfl) ?q68 ?y68 (by assumption) ?r68; (case i68 => (simp only [List.getElem?_toArray, List.getElem?_cons_succ, List.getElem?_cons_zero]; rfl)); (case q68 => exact fun _ _ _ h => h); (case y68 => exact Or.inr ⟨by rfl, rfl⟩))
  try simp only [Act.put, List.setIfInBounds_toArray, List.set_cons_zero, List.set_cons_succ]
  first | (refine wpAnyH_take (i := 1) (oi := ?o69) (v := ?v69) ?i69 (by kernel_rfl) (by kernel_rfl) (by kernel_rfl) ?q69 ?y69 (by assumption) ?r69; (case i69 => (simp only [List.getElem?_toArray, List.getElem?_cons_succ, List.getElem?_cons_zero]; rfl)); (case q69 => exact fun _ _ _ h => h); (case y69 => (refine Or.inl ⟨by rfl, ?_⟩; intro w hSw; (try dsimp only at hSw); go_simp; (try (with_reducible rfl))))) | (refine wpAnyH_take (i := 1) (oi := ?o70) (v := undef) ?i70 (by kernel_rfl) (by kernel_rfl) (by kernel_rfl) ?q70 ?y70 (by assumption) ?r70; (case i70 => (simp only [List.getElem?_toArray, List.getElem?_cons_succ, List.getElem?_cons_zero]; rfl)); (case q70 => exact fun _ _ _ h => h); (case y70 => exact Or.inr ⟨by rfl, rfl⟩))
  try simp only [Act.put, List.setIfInBounds_toArray, List.set_cons_zero, List.set_cons_succ]
  first | (refine wpAnyH_take (i := 2) (oi := ?o71) (v := ?v71) ?i71 (by kernel_rfl) (by kernel_rfl) (by kernel_rfl) ?q71 ?y71 (by assumption) ?r71; (case i71 => (simp only [List.getElem?_toArray, List.getElem?_cons_succ, List.getElem?_cons_zero]; rfl)); (case q71 => exact fun _ _ _ h => h); (case y71 => (refine Or.inl ⟨by rfl, ?_⟩; intro w hSw; (try dsimp only at hSw); go_simp; (try (with_reducible rfl))))) | (refine wpAnyH_take (i := 2) (oi := ?o72) (v := undef) ?i72 (by kernel_rfl) (by kernel_rfl) (by kernel_rfl) ?q72 ?y72 (by assumption) ?r72; (case i72 => (simp only [List.getElem?_toArray, List.getElem?_cons_succ, List.getElem?_cons_zero]; rfl)); (case q72 => exact fun _ _ _ h => h); (case y72 => exact Or.inr ⟨by rfl, rfl⟩))
  try simp only [Act.put, List.setIfInBounds_toArray, List.set_cons_zero, List.set_cons_succ]
  first | (refine wpAnyH_take (i := 3) (oi := ?o73) (v := ?v73) ?i73 (by kernel_rfl) (by kernel_rfl) (by kernel_rfl) ?q73 ?y73 (by assumption) ?r73; (case i73 => (simp only [List.getElem?_toArray, List.getElem?_cons_succ, List.getElem?_cons_zero]; rfl)); (case q73 => exact fun _ _ _ h => h); (case y73 => (refine Or.inl ⟨by rfl, ?_⟩; intro w hSw; (try dsimp only at hSw); go_simp; (try (with_reducible rfl))))) | (refine wpAnyH_take (i := 3) (oi := ?o74) (v := undef) ?i74 (by kernel_rfl) (by kernel_rfl) (by kernel_rfl) ?q74 ?y74 (by assumption) ?r74; (case i74 => (simp only [List.getElem?_toArray, List.getElem?_cons_succ, List.getElem?_cons_zero]; rfl)); (case q74 => exact fun _ _ _ h => h); (case y74 => exact Or.inr ⟨by rfl, rfl⟩))
  try simp only [Act.put, List.setIfInBounds_toArray, List.set_cons_zero, List.set_cons_succ]
  first | (refine wpAnyH_take (i := 4) (oi := ?o75) (v := ?v75) ?i75 (by kernel_rfl) (by kernel_rfl) (by kernel_rfl) ?q75 ?y75 (by assumption) ?r75; (case i75 => (simp only [List.getElem?_toArray, List.getElem?_cons_succ, List.getElem?_cons_zero]; rfl)); (case q75 => exact fun _ _ _ h => h); (case y75 => (refine Or.inl ⟨by rfl, ?_⟩; intro w hSw; (try dsimp only at hSw); go_simp; (try (with_reducible rfl))))) | (refine wpAnyH_take (i := 4) (oi := ?o76) (v := undef) ?i76 (by kernel_rfl) (by kernel_rfl) (by kernel_rfl) ?q76 ?y76 (by assumption) ?r76; (case i76 => (simp only [List.getElem?_toArray, List.getElem?_cons_succ, List.getElem?_cons_zero]; rfl)); (case q76 => exact fun _ _ _ h => h); (case y76 => exact Or.inr ⟨by rfl, rfl⟩))
  try simp only [Act.put, List.setIfInBounds_toArray, List.set_cons_zero, List.set_cons_succ]
  first | (refine wpAnyH_take (i := 5) (oi := ?o77) (v := ?v77) ?i77 (by kernel_rfl) (by kernel_rfl) (by kernel_rfl) ?q77 ?y77 (by assumption) ?r77; (case i77 => (simp only [List.getElem?_toArray, List.getElem?_cons_succ, List.getElem?_cons_zero]; rfl)); (case q77 => exact fun _ _ _ h => h); (case y77 => (refine Or.inl ⟨by rfl, ?_⟩; intro w hSw; (try dsimp only at hSw); go_simp; (try (with_reducible rfl))))) | (refine wpAnyH_take (i := 5) (oi := ?o78) (v := undef) ?i78 (by kernel_rfl) (by kernel_rfl) (by kernel_rfl) ?q78 ?y78 (by assumption) ?r78; (case i78 => (simp only [List.getElem?_toArray, List.getElem?_cons_succ, List.getElem?_cons_zero]; rfl)); (case q78 => exact fun _ _ _ h => h); (case y78 => exact Or.inr ⟨by rfl, rfl⟩))
  try simp only [Act.put, List.setIfInBounds_toArray, List.set_cons_zero, List.set_cons_succ]
  first | (refine wpAnyH_take (i := 6) (oi := ?o79) (v := ?v79) ?i79 (by kernel_rfl) (by kernel_rfl) (by kernel_rfl) ?q79 ?y79 (by assumption) ?r79; (case i79 => (simp only [List.getElem?_toArray, List.getElem?_cons_succ, List.getElem?_cons_zero]; rfl)); (case q79 => exact fun _ _ _ h => h); (case y79 => (refine Or.inl ⟨by rfl, ?_⟩; intro w hSw; (try dsimp only at hSw); go_simp; (try (with_reducible rfl))))) | (refine wpAnyH_take (i := 6) (oi := ?o80) (v := undef) ?i80 (by kernel_rfl) (by kernel_rfl) (by kernel_rfl) ?q80 ?y80 (by assumption) ?r80; (case i80 => (simp only [List.getElem?_toArray, List.getElem?_cons_succ, List.getElem?_cons_zero]; rfl)); (case q80 => exact fun _ _ _ h => h); (case y80 => exact Or.inr ⟨by rfl, rfl⟩))
  try simp only [Act.put, List.setIfInBounds_toArray, List.set_cons_zero, List.set_cons_succ]
  first | (refine wpAnyH_take (i := 7) (oi := ?o81) (v := ?v81) ?i81 (by kernel_rfl) (by kernel_rfl) (by kernel_rfl) ?q81 ?y81 (by assumption) ?r81; (case i81 => (simp only [List.getElem?_toArray, List.getElem?_cons_succ, List.getElem?_cons_zero]; rfl)); (case q81 => exact fun _ _ _ h => h); (case y81 => (refine Or.inl ⟨by rfl, ?_⟩; intro w hSw; (try dsimp only at hSw); go_simp; (try (with_reducible rfl))))) | (refine wpAnyH_take (i := 7) (oi := ?o82) (v := undef) ?i82 (by kernel_rfl) (by kernel_rfl) (by kernel_rfl) ?q82 ?y82 (by assumption) ?r82; (case i82 => (simp only [List.getElem?_toArray, List.getElem?_cons_succ, List.getElem?_cons_zero]; rfl)); (case q82 => exact fun _ _ _ h => h); (case y82 => exact Or.inr ⟨by rfl, rfl⟩))
  try simp only [Act.put, List.setIfInBounds_toArray, List.set_cons_zero, List.set_cons_succ]
  first | (refine wpAnyH_take (i := 8) (oi := ?o83) (v := ?v83) ?i83 (by kernel_rfl) (by kernel_rfl) (by kernel_rfl) ?q83 ?y83 (by assumption) ?r83; (case i83 => (simp only [List.getElem?_toArray, List.getElem?_cons_succ, List.getElem?_cons_zero]; rfl)); (case q83 => exact fun _ _ _ h => h); (case y83 => (refine Or.inl ⟨by rfl, ?_⟩; intro w hSw; (try dsimp only at hSw); go_simp; (try (with_reducible rfl))))) | (refine wpAnyH_take (i := 8) (oi := ?o84) (v := undef) ?i84 (by kernel_rfl) (by kernel_rfl) (by kernel_rfl) ?q84 ?y84 (by assumption) ?r84; (case i84 => (simp only [List.getElem?_toArray, List.getElem?_cons_succ, List.getElem?_cons_zero]; rfl)); (case q84 => exact fun _ _ _ h => h); (case y84 => exact Or.inr ⟨by rfl, rfl⟩))
  try simp only [Act.put, List.setIfInBounds_toArray, List.set_cons_zero, List.set_cons_succ]
  refine wpAnyH_ready (rs := [9]) (by kernel_rfl) (by simp) ?_
  refine AllReadyH.cons (by (simp only [List.getElem?_toArray, List.getElem?_cons_succ, List.getElem?_cons_zero]; rfl)) (fun K hK => ?_) AllReadyH.nil
  go_simp
  (try dsimp only)
  refine hK.out _ _ ?_ (fun hHeld => ?_)
  · first | go_keep | exact ⟨y0, y17, y18⟩
  clear hK K
  try simp only [Act.put, List.setIfInBounds_toArray, List.set_cons_zero, List.set_cons_succ]
  refine wpAnyH_ready (rs := [10]) (by kernel_rfl) (by simp) ?_
  refine AllReadyH.cons (by (simp only [List.getElem?_toArray, List.getElem?_cons_succ, List.getElem?_cons_zero]; rfl)) (fun K hK => ?_) AllReadyH.nil
  go_simp
  (try dsimp only)
  refine hK.out _ _ ?_ (fun hHeld => ?_)
  · first | go_keep | exact ⟨y0, y17, y18⟩
  clear hK K
  try simp only [Act.put, List.setIfInBounds_toArray, List.set_cons_zero, List.set_cons_succ]
  refine wpAnyH_done (by kernel_rfl) ?_ _
  obtain ⟨Y, hY⟩ : ∃ Y, Y = (w8.alloc (.cells #[.int .i64 (m : Int), .int .i64 1] TA)).drew := ⟨_, rfl⟩
  rw [← hY]
  have qY : Y.heap[w8.heap.size]? = some (.cells #[.int .i64 (m : Int), .int .i64 1] TA (0, 0)) := by rw [hY]; exact blk_new _ _
  have bY : Below w8.heap.size w8 Y := by rw [hY]; exact (below_alloc (Below.refl _ _) _).drew
  have bYd : Below w8.heap.size w8 Y.drew := bY.drew
  have sY : Y.heap.size = w8.heap.size + 1 := by rw [hY]; exact size_alloc _ _
  have fY := hF.keep HF8.out bYd
  have lY := HL8.out.below bY
  have zY0 := lY.c0
  have zY17 := lY.c17
  have zY18 := lY.c18
  have zY19 := lY.c19
  have zY6 : Y.cell? ⟨w.heap.size, 0, none⟩ = some (.slice A n c) := bcell ((bY.block _ (blt X68.out)).trans X68.out) 0
  have belX : Below N0 w w8 := BEL8.out
  have kepX : Kept (fun k => K k ∧ k ≠ q) w w8 := KEP8.out
  have bNY : Below N0 w Y.drew := belX.trans (bYd.mono (by have := belX.size; omega))
  have kNY : Kept (fun k => K k ∧ k ≠ q) w Y.drew := fun k hk => (bYd.block k (by have := HLT.out k hk.1; have := belX.size; omega)).trans (kepX k hk)
  have happ := Append_F (kind := kind) (seq := g.nx) hF fY (m : Int) 1 hkk hsq hBl (HCX.out _ bNY kNY) (by rw [← HN.out]; exact hc) (by rw [← HN.out]; exact hm) hdd
  rw [HAP.out, ← HN.out] at happ
  have HAPP := Lib.hid happ
  have HFK := Aside0.mk fY
  have LY := Aside0.mk lY
  have QY := Lib.hid qY
  have BY := Aside0.mk bY
  have HY := Lib.hid hY
  have hwx : IntKind.u64.wrap g.nx = g.nx := IntWalk.u64_in _ (by omega)
  have hwk : IntKind.i64.wrap (1 + (k : Int)) = 1 + (k : Int) := IntWalk.i64_in _ (by omega)
  have BX := Aside0.mk belX
  have KX := Lib.hid kepX
  have nq1 : ¬ w8.heap.size = q := by have := blt HL8.out.blk; omega
  have nq2 : ¬ q = w8.heap.size := fun e => nq1 e.symm
  have nq3 : ¬ w.heap.size + 1 = q := by have := HLT.out q hq; omega
  have nq4 : ¬ q = w.heap.size + 1 := fun e => nq3 e.symm
  have nq5 : ¬ w8.heap.size = w.heap.size + 1 := by have := blt X88.out; omega
  have nq6 : ¬ w.heap.size + 1 = w8.heap.size := fun e => nq5 e.symm
  clear qY bY bYd fY lY belX kepX bNY kNY happ hY y0 y17 y18 hHeld
  go_wp2_with fail
  refine wp_region_held_drew (S := (fun w' => w'.cell? ⟨q, 0, none⟩ = some (.pointer (some ⟨p, 0, none⟩)) ∧ w'.cell? ⟨q, 17, none⟩ = some (.int .i64 (m : Int)) ∧ w'.cell? ⟨q, 18, none⟩ = some (.int .i64 1) ∧ w'.cell? ⟨q, 19, none⟩ = some (.int .u64 (g.nx + 1)) ∧ w'.cell? ⟨w.heap.size, 0, none⟩ = some (.slice A n c))) (by kernel_rfl) ?_ (fun hHeld => ?_)
  · first | exact ⟨zY0, zY17, zY18, zY19, zY6⟩ | exact ⟨s0, s17, s18, s19, s6⟩
  first | (refine wpAnyH_take (i := 0) (oi := ?o85) (v := ?v85) ?i85 (by kernel_rfl) (by kernel_rfl) (by kernel_rfl) ?q85 ?y85 (by assumption) ?r85; (case i85 => (simp only [List.getElem?_toArray, List.getElem?_cons_succ, List.getElem?_cons_zero]; rfl)); (case q85 => exact fun _ _ _ h => h); (case y85 => (refine Or.inl ⟨by rfl, ?_⟩; intro w hSw; (try dsimp only at hSw); go_simp; (try (with_reducible rfl))))) | (refine wpAnyH_take (i := 0) (oi := ?o86) (v := undef) ?i86 (by kernel_rfl) (by kernel_rfl) (by kernel_rfl) ?q86 ?y86 (by assumption) ?r86; (case i86 => (simp only [List.getElem?_toArray, List.getElem?_cons_succ, List.getElem?_cons_zero]; rfl)); (case q86 => exact fun _ _ _ h => h); (case y86 => exact Or.inr ⟨by rfl, rfl⟩))
  try simp only [Act.put, List.setIfInBounds_toArray, List.set_cons_zero, List.set_cons_succ]
  first | (refine wpAnyH_take (i := 1) (oi := ?o87) (v := ?v87) ?i87 (by kernel_rfl) (by kernel_rfl) (by kernel_rfl) ?q87 ?y87 (by assumption) ?r87; (case i87 => (simp only [List.getElem?_toArray, List.getElem?_cons_succ, List.getElem?_cons_zero]; rfl)); (case q87 => exact fun _ _ _ h => h); (case y87 => (refine Or.inl ⟨by rfl, ?_⟩; intro w hSw; (try dsimp only at hSw); go_simp; (try (with_reducible rfl))))) | (refine wpAnyH_take (i := 1) (oi := ?o88) (v := undef) ?i88 (by kernel_rfl) (by kernel_rfl) (by kernel_rfl) ?q88 ?y88 (by assumption) ?r88; (case i88 => (simp only [List.getElem?_toArray, List.getElem?_cons_succ, List.getElem?_cons_zero]; rfl)); (case q88 => exact fun _ _ _ h => h); (case y88 => exact Or.inr ⟨by rfl, rfl⟩))
  try simp only [Act.put, List.setIfInBounds_toArray, List.set_cons_zero, List.set_cons_succ]
  first | (refine wpAnyH_take (i := 2) (oi := ?o89) (v := ?v89) ?i89 (by kernel_rfl) (by kernel_rfl) (by kernel_rfl) ?q89 ?y89 (by assumption) ?r89; (case i89 => (simp only [List.getElem?_toArray, List.getElem?_cons_succ, List.getElem?_cons_zero]; rfl)); (case q89 => exact fun _ _ _ h => h); (case y89 => (refine Or.inl ⟨by rfl, ?_⟩; intro w hSw; (try dsimp only at hSw); go_simp; (try (with_reducible rfl))))) | (refine wpAnyH_take (i := 2) (oi := ?o90) (v := undef) ?i90 (by kernel_rfl) (by kernel_rfl) (by kernel_rfl) ?q90 ?y90 (by assumption) ?r90; (case i90 => (simp only [List.getElem?_toArray, List.getElem?_cons_succ, List.getElem?_cons_zero]; rfl)); (case q90 => exact fun _ _ _ h => h); (case y90 => exact Or.inr ⟨by rfl, rfl⟩))
  try simp only [Act.put, List.setIfInBounds_toArray, List.set_cons_zero, List.set_cons_succ]
  first | (refine wpAnyH_take (i := 3) (oi := ?o91) (v := ?v91) ?i91 (by kernel_rfl) (by kernel_rfl) (by kernel_rfl) ?q91 ?y91 (by assumption) ?r91; (case i91 => (simp only [List.getElem?_toArray, List.getElem?_cons_succ, List.getElem?_cons_zero]; rfl)); (case q91 => exact fun _ _ _ h => h); (case y91 => (refine Or.inl ⟨by rfl, ?_⟩; intro w hSw; (try dsimp only at hSw); go_simp; (try (with_reducible rfl))))) | (refine wpAnyH_take (i := 3) (oi := ?o92) (v := undef) ?i92 (by kernel_rfl) (by kernel_rfl) (by kernel_rfl) ?q92 ?y92 (by assumption) ?r92; (case i92 => (simp only [List.getElem?_toArray, List.getElem?_cons_succ, List.getElem?_cons_zero]; rfl)); (case q92 => exact fun _ _ _ h => h); (case y92 => exact Or.inr ⟨by rfl, rfl⟩))
  try simp only [Act.put, List.setIfInBounds_toArray, List.set_cons_zero, List.set_cons_succ]
  first | (refine wpAnyH_take (i := 4) (oi := ?o93) (v := ?v93) ?i93 (by kernel_rfl) (by kernel_rfl) (by kernel_rfl) ?q93 ?y93 (by assumption) ?r93; (case i93 => (simp only [List.getElem?_toArray, List.getElem?_cons_succ, List.getElem?_cons_zero]; rfl)); (case q93 => exact fun _ _ _ h => h); (case y93 => (refine Or.inl ⟨by rfl, ?_⟩; intro w hSw; (try dsimp only at hSw); go_simp; (try (with_reducible rfl))))) | (refine wpAnyH_take (i := 4) (oi := ?o94) (v := undef) ?i94 (by kernel_rfl) (by kernel_rfl) (by kernel_rfl) ?q94 ?y94 (by assumption) ?r94; (case i94 => (simp only [List.getElem?_toArray, List.getElem?_cons_succ, List.getElem?_cons_zero]; rfl)); (case q94 => exact fun _ _ _ h => h); (case y94 => exact Or.inr ⟨by rfl, rfl⟩))
  try simp only [Act.put, List.setIfInBounds_toArray, List.set_cons_zero, List.set_cons_succ]
  first | (refine wpAnyH_take (i := 5) (oi := ?o95) (v := ?v95) ?i95 (by kernel_rfl) (by kernel_rfl) (by kernel_rfl) ?q95 ?y95 (by assumption) ?r95; (case i95 => (simp only [List.getElem?_toArray, List.getElem?_cons_succ, List.getElem?_cons_zero]; rfl)); (case q95 => exact fun _ _ _ h => h); (case y95 => (refine Or.inl ⟨by rfl, ?_⟩; intro w hSw; (try dsimp only at hSw); go_simp; (try (with_reducible rfl))))) | (refine wpAnyH_take (i := 5) (oi := ?o96) (v := undef) ?i96 (by kernel_rfl) (by kernel_rfl) (by kernel_rfl) ?q96 ?y96 (by assumption) ?r96; (case i96 => (simp only [List.getElem?_toArray, List.getElem?_cons_succ, List.getElem?_cons_zero]; rfl)); (case q96 => exact fun _ _ _ h => h); (case y96 => exact Or.inr ⟨by rfl, rfl⟩))
  try simp only [Act.put, List.setIfInBounds_toArray, List.set_cons_zero, List.set_cons_succ]
  first | (refine wpAnyH_take (i := 6) (oi := ?o97) (v := ?v97) ?i97 (by kernel_rfl) (by kernel_rfl) (by kernel_rfl) ?q97 ?y97 (by assumption) ?r97; (case i97 => (simp only [List.getElem?_toArray, List.getElem?_cons_succ, List.getElem?_cons_zero]; rfl)); (case q97 => exact fun _ _ _ h => h); (case y97 => (refine Or.inl ⟨by rfl, ?_⟩; intro w hSw; (try dsimp only at hSw); go_simp; (try (with_reducible rfl))))) | (refine wpAnyH_take (i := 6) (oi := ?o98) (v := undef) ?i98 (by kernel_rfl) (by kernel_rfl) (by kernel_rfl) ?q98 ?y98 (by assumption) ?r98; (case i98 => (simp only [List.getElem?_toArray, List.getElem?_cons_succ, List.getElem?_cons_zero]; rfl)); (case q98 => exact fun _ _ _ h => h); (case y98 => exact Or.inr ⟨by rfl, rfl⟩))
  try simp only [Act.put, List.setIfInBounds_toArray, List.set_cons_zero, List.set_cons_succ]
  first | (refine wpAnyH_take (i := 7) (oi := ?o99) (v := ?v99) ?i99 (by kernel_rfl) (by kernel_rfl) (by kernel_rfl) ?q99 ?y99 (by assumption) ?r99; (case i99 => (simp only [List.getElem?_toArray, List.getElem?_cons_succ, List.getElem?_cons_zero]; rfl)); (case q99 => exact fun _ _ _ h => h); (case y99 => (refine Or.inl ⟨by rfl, ?_⟩; intro w hSw; (try dsimp only at hSw); go_simp; (try (with_reducible rfl))))) | (refine wpAnyH_take (i := 7) (oi := ?o100) (v := undef) ?i100 (by kernel_rfl) (by kernel_rfl) (by kernel_rfl) ?q100 ?y100 (by assumption) ?r100; (case i100 => (simp only [List.getElem?_toArray, List.getElem?_cons_succ, List.getElem?_cons_zero]; rfl)); (case q100 => exact fun _ _ _ h => h); (case y100 => exact Or.inr ⟨by rfl, rfl⟩))
  try simp only [Act.put, List.setIfInBounds_toArray, List.set_cons_zero, List.set_cons_succ]
  first | (refine wpAnyH_take (i := 8) (oi := ?o101) (v := ?v101) ?i101 (by kernel_rfl) (by kernel_rfl) (by kernel_rfl) ?q101 ?y101 (by assumption) ?r101; (case i101 => (simp only [List.getElem?_toArray, List.getElem?_cons_succ, List.getElem?_cons_zero]; rfl)); (case q101 => exact fun _ _ _ h => h); (case y101 => (refine Or.inl ⟨by rfl, ?_⟩; intro w hSw; (try dsimp only at hSw); go_simp; (try (with_reducible rfl))))) | (refine wpAnyH_take (i := 8) (oi := ?o102) (v := undef) ?i102 (by kernel_rfl) (by kernel_rfl) (by kernel_rfl) ?q102 ?y102 (by assumption) ?r102; (case i102 => (simp only [List.getElem?_toArray, List.getElem?_cons_succ, List.getElem?_cons_zero]; rfl)); (case q102 => exact fun _ _ _ h => h); (case y102 => exact Or.inr ⟨by rfl, rfl⟩))
  try simp only [Act.put, List.setIfInBounds_toArray, List.set_cons_zero, List.set_cons_succ]
  first | (refine wpAnyH_take (i := 9) (oi := ?o103) (v := ?v103) ?i103 (by kernel_rfl) (by kernel_rfl) (by kernel_rfl) ?q103 ?y103 (by assumption) ?r103; (case i103 => (simp only [List.getElem?_toArray, List.getElem?_cons_succ, List.getElem?_cons_zero]; rfl)); (case q103 => exact fun _ _ _ h => h); (case y103 => (refine Or.inl ⟨by rfl, ?_⟩; intro w hSw; (try dsimp only at hSw); go_simp; (try (with_reducible rfl))))) | (refine wpAnyH_take (i := 9) (oi := ?o104) (v := undef) ?i104 (by kernel_rfl) (by kernel_rfl) (by kernel_rfl) ?q104 ?y104 (by assumption) ?r104; (case i104 => (simp only [List.getElem?_toArray, List.getElem?_cons_succ, List.getElem?_cons_zero]; rfl)); (case q104 => exact fun _ _ _ h => h); (case y104 => exact Or.inr ⟨by rfl, rfl⟩))
  try simp only [Act.put, List.setIfInBounds_toArray, List.set_cons_zero, List.set_cons_succ]
  first | (refine wpAnyH_take (i := 10) (oi := ?o105) (v := ?v105) ?i105 (by kernel_rfl) (by kernel_rfl) (by kernel_rfl) ?q105 ?y105 (by assumption) ?r105; (case i105 => (simp only [List.getElem?_toArray, List.getElem?_cons_succ, List.getElem?_cons_zero]; rfl)); (case q105 => exact fun _ _ _ h => h); (case y105 => (refine Or.inl ⟨by rfl, ?_⟩; intro w hSw; (try dsimp only at hSw); go_simp; (try (with_reducible rfl))))) | (refine wpAnyH_take (i := 10) (oi := ?o106) (v := undef) ?i106 (by kernel_rfl) (by kernel_rfl) (by kernel_rfl) ?q106 ?y106 (by assumption) ?r106; (case i106 => (simp only [List.getElem?_toArray, List.getElem?_cons_succ, List.getElem?_cons_zero]; rfl)); (case q106 => exact fun _ _ _ h => h); (case y106 => exact Or.inr ⟨by rfl, rfl⟩))
  try simp only [Act.put, List.setIfInBounds_toArray, List.set_cons_zero, List.set_cons_succ]
  first | (refine wpAnyH_take (i := 11) (oi := ?o107) (v := ?v107) ?i107 (by kernel_rfl) (by kernel_rfl) (by kernel_rfl) ?q107 ?y107 (by assumption) ?r107; (case i107 => (simp only [List.getElem?_toArray, List.getElem?_cons_succ, List.getElem?_cons_zero]; rfl)); (case q107 => exact fun _ _ _ h => h); (case y107 => (refine Or.inl ⟨by rfl, ?_⟩; intro w hSw; (try dsimp only at hSw); go_simp; (try (with_reducible rfl))))) | (refine wpAnyH_take (i := 11) (oi := ?o108) (v := undef) ?i108 (by kernel_rfl) (by kernel_rfl) (by kernel_rfl) ?q108 ?y108 (by assumption) ?r108; (case i108 => (simp only [List.getElem?_toArray, List.getElem?_cons_succ, List.getElem?_cons_zero]; rfl)); (case q108 => exact fun _ _ _ h => h); (case y108 => exact Or.inr ⟨by rfl, rfl⟩))
  try simp only [Act.put, List.setIfInBounds_toArray, List.set_cons_zero, List.set_cons_succ]
  first | (refine wpAnyH_take (i := 12) (oi := ?o109) (v := ?v109) ?i109 (by kernel_rfl) (by kernel_rfl) (by kernel_rfl) ?q109 ?y109 (by assumption) ?r109; (case i109 => (simp only [List.getElem?_toArray, List.getElem?_cons_succ, List.getElem?_cons_zero]; rfl)); (case q109 => exact fun _ _ _ h => h); (case y109 => (refine Or.inl ⟨by rfl, ?_⟩; intro w hSw; (try dsimp only at hSw); go_simp; (try (with_reducible rfl))))) | (refine wpAnyH_take (i := 12) (oi := ?o110) (v := undef) ?i110 (by kernel_rfl) (by kernel_rfl) (by kernel_rfl) ?q110 ?y110 (by assumption) ?r110; (case i110 => (simp only [List.getElem?_toArray, List.getElem?_cons_succ, List.getElem?_cons_zero]; rfl)); (case q110 => exact fun _ _ _ h => h); (case y110 => exact Or.inr ⟨by rfl, rfl⟩))
  try simp only [Act.put, List.setIfInBounds_toArray, List.set_cons_zero, List.set_cons_succ]
  first | (refine wpAnyH_take (i := 13) (oi := ?o111) (v := ?v111) ?i111 (by kernel_rfl) (by kernel_rfl) (by kernel_rfl) ?q111 ?y111 (by assumption) ?r111; (case i111 => (simp only [List.getElem?_toArray, List.getElem?_cons_succ, List.getElem?_cons_zero]; rfl)); (case q111 => exact fun _ _ _ h => h); (case y111 => (refine Or.inl ⟨by rfl, ?_⟩; intro w hSw; (try dsimp only at hSw); go_simp; (try (with_reducible rfl))))) | (refine wpAnyH_take (i := 13) (oi := ?o112) (v := undef) ?i112 (by kernel_rfl) (by kernel_rfl) (by kernel_rfl) ?q112 ?y112 (by assumption) ?r112; (case i112 => (simp only [List.getElem?_toArray, List.getElem?_cons_succ, List.getElem?_cons_zero]; rfl)); (case q112 => exact fun _ _ _ h => h); (case y112 => exact Or.inr ⟨by rfl, rfl⟩))
  try simp only [Act.put, List.setIfInBounds_toArray, List.set_cons_zero, List.set_cons_succ]
  first | (refine wpAnyH_take (i := 14) (oi := ?o113) (v := ?v113) ?i113 (by kernel_rfl) (by kernel_rfl) (by kernel_rfl) ?q113 ?y113 (by assumption) ?r113; (case i113 => (simp only [List.getElem?_toArray, List.getElem?_cons_succ, List.getElem?_cons_zero]; rfl)); (case q113 => exact fun _ _ _ h => h); (case y113 => (refine Or.inl ⟨by rfl, ?_⟩; intro w hSw; (try dsimp only at hSw); go_simp; (try (with_reducible rfl))))) | (refine wpAnyH_take (i := 14) (oi := ?o114) (v := undef) ?i114 (by kernel_rfl) (by kernel_rfl) (by kernel_rfl) ?q114 ?y114 (by assumption) ?r114; (case i114 => (simp only [List.getElem?_toArray, List.getElem?_cons_succ, List.getElem?_cons_zero]; rfl)); (case q114 => exact fun _ _ _ h => h); (case y114 => exact Or.inr ⟨by rfl, rfl⟩))
  try simp only [Act.put, List.setIfInBounds_toArray, List.set_cons_zero, List.set_cons_succ]
  first | (refine wpAnyH_take (i := 15) (oi := ?o115) (v := ?v115) ?i115 (by kernel_rfl) (by kernel_rfl) (by kernel_rfl) ?q115 ?y115 (by assumption) ?r115; (case i115 => (simp only [List.getElem?_toArray, List.getElem?_cons_succ, List.getElem?_cons_zero]; rfl)); (case q115 => exact fun _ _ _ h => h); (case y115 => (refine Or.inl ⟨by rfl, ?_⟩; intro w hSw; (try dsimp only at hSw); go_simp; (try (with_reducible rfl))))) | (refine wpAnyH_take (i := 15) (oi := ?o116) (v := undef) ?i116 (by kernel_rfl) (by kernel_rfl) (by kernel_rfl) ?q116 ?y116 (by assumption) ?r116; (case i116 => (simp only [List.getElem?_toArray, List.getElem?_cons_succ, List.getElem?_cons_zero]; rfl)); (case q116 => exact fun _ _ _ h => h); (case y116 => exact Or.inr ⟨by rfl, rfl⟩))
  try simp only [Act.put, List.setIfInBounds_toArray, List.set_cons_zero, List.set_cons_succ]
  first | (refine wpAnyH_take (i := 16) (oi := ?o117) (v := ?v117) ?i117 (by kernel_rfl) (by kernel_rfl) (by kernel_rfl) ?q117 ?y117 (by assumption) ?r117; (case i117 => (simp only [List.getElem?_toArray, List.getElem?_cons_succ, List.getElem?_cons_zero]; rfl)); (case q117 => exact fun _ _ _ h => h); (case y117 => (refine Or.inl ⟨by rfl, ?_⟩; intro w hSw; (try dsimp only at hSw); go_simp; (try (with_reducible rfl))))) | (refine wpAnyH_take (i := 16) (oi := ?o118) (v := undef) ?i118 (by kernel_rfl) (by kernel_rfl) (by kernel_rfl) ?q118 ?y118 (by assumption) ?r118; (case i118 => (simp only [List.getElem?_toArray, List.getElem?_cons_succ, List.getElem?_cons_zero]; rfl)); (case q118 => exact fun _ _ _ h => h); (case y118 => exact Or.inr ⟨by rfl, rfl⟩))
  try simp only [Act.put, List.setIfInBounds_toArray, List.set_cons_zero, List.set_cons_succ]
  first | (refine wpAnyH_take (i := 17) (oi := ?o119) (v := ?v119) ?i119 (by kernel_rfl) (by kernel_rfl) (by kernel_rfl) ?q119 ?y119 (by assumption) ?r119; (case i119 => (simp only [List.getElem?_toArray, List.getElem?_cons_succ, List.getElem?_cons_zero]; rfl)); (case q119 => exact fun _ _ _ h => h); (case y119 => (refine Or.inl ⟨by rfl, ?_⟩; intro w hSw; (try dsimp only at hSw); go_simp; (try (with_reducible rfl))))) | (refine wpAnyH_take (i := 17) (oi := ?o120) (v := undef) ?i120 (by kernel_rfl) (by kernel_rfl) (by kernel_rfl) ?q120 ?y120 (by assumption) ?r120; (case i120 => (simp only [List.getElem?_toArray, List.getElem?_cons_succ, List.getElem?_cons_zero]; rfl)); (case q120 => exact fun _ _ _ h => h); (case y120 => exact Or.inr ⟨by rfl, rfl⟩))
  try simp only [Act.put, List.setIfInBounds_toArray, List.set_cons_zero, List.set_cons_succ]
  first | (refine wpAnyH_take (i := 18) (oi := ?o121) (v := ?v121) ?i121 (by kernel_rfl) (by kernel_rfl) (by kernel_rfl) ?q121 ?y121 (by assumption) ?r121; (case i121 => (simp only [List.getElem?_toArray, List.getElem?_cons_succ, List.getElem?_cons_zero]; rfl)); (case q121 => exact fun _ _ _ h => h); (case y121 => (refine Or.inl ⟨by rfl, ?_⟩; intro w hSw; (try dsimp only at hSw); go_simp; (try (with_reducible rfl))))) | (refine wpAnyH_take (i := 18) (oi := ?o122) (v := undef) ?i122 (by kernel_rfl) (by kernel_rfl) (by kernel_rfl) ?q122 ?y122 (by assumption) ?r122; (case i122 => (simp only [List.getElem?_toArray, List.getElem?_cons_succ, List.getElem?_cons_zero]; rfl)); (case q122 => exact fun _ _ _ h => h); (case y122 => exact Or.inr ⟨by rfl, rfl⟩))
  try simp only [Act.put, List.setIfInBounds_toArray, List.set_cons_zero, List.set_cons_succ]
  refine wpAnyH_ready (rs := [19]) (by kernel_rfl) (by simp) ?_
  refine AllReadyH.cons (by (simp only [List.getElem?_toArray, List.getElem?_cons_succ, List.getElem?_cons_zero]; rfl)) (fun K hK => ?_) AllReadyH.nil
  go_simp
  (go_at_call 14; (with_reducible refine HAPP.out.mono ?_); rintro e w10 ⟨rfl, hf10, hb10, hk10⟩; have hl10 : LogIs q p { st := (sealG g).st.set m 1, op := (m : Int), pg := 1, nx := g.nx + 1 } w10 := ⟨LY.out.len, (hk10 q (.inl (.inl (.inl hq)))).trans LY.out.blk⟩; have s0 := hl10.c0; have s17 := hl10.c17; have s18 := hl10.c18; have s19 := hl10.c19; have fr18 := hl10.frozen 18; have x6 := (hk10 w.heap.size (.inl (.inl (.inr ⟨Nat.le_refl _, by omega⟩)))).trans ((BY.out.block _ (blt X68.out)).trans X68.out); have x8 := (hk10 (w.heap.size + 1) (.inl (.inl (.inr ⟨Nat.le_succ _, by omega⟩)))).trans ((BY.out.block _ (blt X88.out)).trans X88.out); have x12 := (hk10 w8.heap.size (.inr ⟨Nat.le_refl _, by show _ < Y.heap.size; omega⟩)).trans QY.out; have s6 : w10.cell? ⟨w.heap.size, 0, none⟩ = some (.slice A n c) := bcell x6 0; have m0 : w10.cell? ⟨w.heap.size + 1, 0, none⟩ = some (.int .i64 0) := bcell x8 0; have m1 : w10.cell? ⟨w.heap.size + 1, 1, none⟩ = some (.int .i64 0) := bcell x8 1; have mf : ∀ j, w10.frozen? ⟨w.heap.size + 1, j, none⟩ = false := (fun j => bfrozen x8 j); have t0 : w10.cell? ⟨w8.heap.size, 0, none⟩ = some (.int .i64 (m : Int)) := bcell x12 0; have t1 : w10.cell? ⟨w8.heap.size, 1, none⟩ = some (.int .i64 1) := bcell x12 1; have HL10 := Aside0.mk hl10; have X810 := Lib.hid x8; have HF10 := Aside0.mk hf10; have HB10 := Aside0.mk (BX.out.trans ((show Below N0 w8 Y.drew from (BY.out.drew).mono (by have := BX.out.size; omega)).trans hb10)); have HKR := Lib.hid hk10; clear hl10 hf10 hb10 hk10 x6 x8 x12)
  (try dsimp only)
  refine hK.out _ _ ?_ (fun hHeld => ?_)
  · first | exact ⟨zY0, zY17, zY18, zY19, zY6⟩ | exact ⟨s0, s17, s18, s19, s6⟩
  clear hK K
  try simp only [Act.put, List.setIfInBounds_toArray, List.set_cons_zero, List.set_cons_succ]
  first | (refine wpAnyH_take (i := 20) (oi := ?o123) (v := ?v123) ?i123 (by kernel_rfl) (by kernel_rfl) (by kernel_rfl) ?q123 ?y123 (by assumption) ?r123; (case i123 => (simp only [List.getElem?_toArray, List.getElem?_cons_succ, List.getElem?_cons_zero]; rfl)); (case q123 => exact fun _ _ _ h => h); (case y123 => (refine Or.inl ⟨by rfl, ?_⟩; intro w hSw; (try dsimp only at hSw); go_simp; (try (with_reducible rfl))))) | (refine wpAnyH_take (i := 20) (oi := ?o124) (v := undef) ?i124 (by kernel_rfl) (by kernel_rfl) (by kernel_rfl) ?q124 ?y124 (by assumption) ?r124; (case i124 => (simp only [List.getElem?_toArray, List.getElem?_cons_succ, List.getElem?_cons_zero]; rfl)); (case q124 => exact fun _ _ _ h => h); (case y124 => exact Or.inr ⟨by rfl, rfl⟩))
  try simp only [Act.put, List.setIfInBounds_toArray, List.set_cons_zero, List.set_cons_succ]
  first | (refine wpAnyH_take (i := 21) (oi := ?o125) (v := ?v125) ?i125 (by kernel_rfl) (by kernel_rfl) (by kernel_rfl) ?q125 ?y125 (by assumption) ?r125; (case i125 => (simp only [List.getElem?_toArray, List.getElem?_cons_succ, List.getElem?_cons_zero]; rfl)); (case q125 => exact fun _ _ _ h => h); (case y125 => (refine Or.inl ⟨by rfl, ?_⟩; intro w hSw; (try dsimp only at hSw); go_simp; (try (with_reducible rfl))))) | (refine wpAnyH_take (i := 21) (oi := ?o126) (v := undef) ?i126 (by kernel_rfl) (by kernel_rfl) (by kernel_rfl) ?q126 ?y126 (by assumption) ?r126; (case i126 => (simp only [List.getElem?_toArray, List.getElem?_cons_succ, List.getElem?_cons_zero]; rfl)); (case q126 => exact fun _ _ _ h => h); (case y126 => exact Or.inr ⟨by rfl, rfl⟩))
  try simp only [Act.put, List.setIfInBounds_toArray, List.set_cons_zero, List.set_cons_succ]
  first | (refine wpAnyH_take (i := 22) (oi := ?o127) (v := ?v127) ?i127 (by kernel_rfl) (by kernel_rfl) (by kernel_rfl) ?q127 ?y127 (by assumption) ?r127; (case i127 => (simp only [List.getElem?_toArray, List.getElem?_cons_succ, List.getElem?_cons_zero]; rfl)); (case q127 => exact fun _ _ _ h => h); (case y127 => (refine Or.inl ⟨by rfl, ?_⟩; intro w hSw; (try dsimp only at hSw); go_simp; (try (with_reducible rfl))))) | (refine wpAnyH_take (i := 22) (oi := ?o128) (v := undef) ?i128 (by kernel_rfl) (by kernel_rfl) (by kernel_rfl) ?q128 ?y128 (by assumption) ?r128; (case i128 => (simp only [List.getElem?_toArray, List.getElem?_cons_succ, List.getElem?_cons_zero]; rfl)); (case q128 => exact fun _ _ _ h => h); (case y128 => exact Or.inr ⟨by rfl, rfl⟩))
  try simp only [Act.put, List.setIfInBounds_toArray, List.set_cons_zero, List.set_cons_succ]
  first | (refine wpAnyH_take (i := 23) (oi := ?o129) (v := ?v129) ?i129 (by kernel_rfl) (by kernel_rfl) (by kernel_rfl) ?q129 ?y129 (by assumption) ?r129; (case i129 => (simp only [List.getElem?_toArray, List.getElem?_cons_succ, List.getElem?_cons_zero]; rfl)); (case q129 => exact fun _ _ _ h => h); (case y129 => (refine Or.inl ⟨by rfl, ?_⟩; intro w hSw; (try dsimp only at hSw); go_simp; (try (with_reducible rfl))))) | (refine wpAnyH_take (i := 23) (oi := ?o130) (v := undef) ?i130 (by kernel_rfl) (by kernel_rfl) (by kernel_rfl) ?q130 ?y130 (by assumption) ?r130; (case i130 => (simp only [List.getElem?_toArray, List.getElem?_cons_succ, List.getElem?_cons_zero]; rfl)); (case q130 => exact fun _ _ _ h => h); (case y130 => exact Or.inr ⟨by rfl, rfl⟩))
  try simp only [Act.put, List.setIfInBounds_toArray, List.set_cons_zero, List.set_cons_succ]
  first | (refine wpAnyH_take (i := 24) (oi := ?o131) (v := ?v131) ?i131 (by kernel_rfl) (by kernel_rfl) (by kernel_rfl) ?q131 ?y131 (by assumption) ?r131; (case i131 => (simp only [List.getElem?_toArray, List.getElem?_cons_succ, List.getElem?_cons_zero]; rfl)); (case q131 => exact fun _ _ _ h => h); (case y131 => (refine Or.inl ⟨by rfl, ?_⟩; intro w hSw; (try dsimp only at hSw); go_simp; (try (with_reducible rfl))))) | (refine wpAnyH_take (i := 24) (oi := ?o132) (v := undef) ?i132 (by kernel_rfl) (by kernel_rfl) (by kernel_rfl) ?q132 ?y132 (by assumption) ?r132; (case i132 => (simp only [List.getElem?_toArray, List.getElem?_cons_succ, List.getElem?_cons_zero]; rfl)); (case q132 => exact fun _ _ _ h => h); (case y132 => exact Or.inr ⟨by rfl, rfl⟩))
  try simp only [Act.put, List.setIfInBounds_toArray, List.set_cons_zero, List.set_cons_succ]
  refine wpAnyH_done (by kernel_rfl) ?_ _
  go_wp2_with fail
  have HK10 := Lib.hid (show Kept (fun k => K k ∧ k ≠ q) w w10 from fun k hk => (HKR.out k (.inl (.inl (.inl hk.1)))).trans ((BY.out.block k (by have := HLT.out k hk.1; have := BX.out.size; omega)).trans (KX.out k hk)))
  have hl11 := HL10.out.setPg (1 + (k : Int))
  have hu11 := Upd.setCell w10 (p := ⟨q, 18, none⟩) (S := fun k => k = q) rfl (.int .i64 (1 + (k : Int)))
  have hf11 := hSt _ _ w10 _ q _ _ _ HF10.out (.inl (.inl (.inl hq))) HL10.out.blk hl11.blk (by decide) hu11
  have s10 := hF.size HF10.out
  have hb11 := HB10.out.trans (hu11.below s10 (fun k hk => by rw [hk]; exact hN))
  have x811 := (hu11.block (w.heap.size + 1) (blt X810.out) (fun e => nq3 e)).trans X810.out
  have hk11 : Kept (fun k => K k ∧ k ≠ q) w (w10.setCell ⟨q, 18, none⟩ (.int .i64 (1 + (k : Int)))) := fun k hk => (hu11.block k (hF.lt HF10.out k (.inl (.inl (.inl hk.1)))) hk.2).trans (HK10.out k hk)
  obtain ⟨w9, hw9⟩ : ∃ w9, w9 = ((w10.setCell ⟨q, 18, none⟩ (.int .i64 (1 + (k : Int)))).setCell ⟨w.heap.size + 1, 0, none⟩ (.int .i64 (m : Int))).setCell ⟨w.heap.size + 1, 1, none⟩ (.int .i64 1) := ⟨_, rfl⟩
  rw [← hw9]
  obtain ⟨r8, hf9, hl9, hb9, hk9⟩ := put_end hF hSt hf11 hl11 hq HLT.out hsz (Nat.le_succ _) x811 (.inl (.inl (.inr ⟨Nat.le_succ _, by omega⟩))) (fun k hk => .inl (.inl (.inl hk))) hb11 hk11 hw9
  have r0 := bcell r8 0
  have r1 := bcell r8 1
  exact bodyPost_ret (v := .tuple #[.agg #[.int .i64 (m : Int), .int .i64 1], .int .i64 0]) (by simp [results, Try.results101, go_sem, r0, r1]) rfl ⟨rfl, hf9, hl9, hb9, hk9⟩
set_option maxHeartbeats 4000000 in
set_option maxRecDepth 100000 in
theorem LPut_turnN (hF : DevFrame N0 p F) (hSt : ∀ D, Stays (fun K w => F K D w)) (h : F K D w) (hl : LogIs q p g w) (hq : K q) (hN : N0 ≤ q) (hC : kB.C w A l.length l) (hc : l.length ≤ c) (hm : l.length < 1000000) (hk : kind ≠ 1) (hv1 : fitsS D.s 1 l.length = true) (ho : 0 ≤ g.op) (hv2 : fitsS D.s g.pg l.length = false) (hkk : KindOk kind) (hBl : Byt l) (hCx : ∀ X, Below N0 w X → Kept (fun k => K k ∧ k ≠ q) w X → kB.C X A l.length l) (hd0 : D.dirty.length < 900000) {m : Nat} (hdd : (appD D (m : Int) 0 0 (rec 1 g.nx [])).dirty.length < 900000) (ho16 : g.op < 16) (hsq : SeqOk g.nx) (hn1 : 0 ≤ g.nx) (hn2 : g.nx < 1000000) (hm16 : m < 16) (hfi : ∀ r, FirstAt (sealG g).st 0 r → r = (m : Int)) {k : Nat} (hp1 : (k : Int) < 900) (hap : appE (appD D (m : Int) 0 0 (rec 1 g.nx [])) (m : Int) 1 l.length = ((k : Int), 0)) (hcn : ¬ (cnt 0 (g.st.take D.s.1.toNat) : Int) < need) : Calls Try.prog 101 #[.pointer (some ⟨q, 0, none⟩), .int .u8 kind, .slice A l.length c, .int .i64 need] w (PutPost N0 q p F K w ((m : Int), 1) 0 (appD (appD D (m : Int) 0 0 (rec 1 g.nx [])) (m : Int) 1 l.length (rec kind g.nx l)) { st := (sealG g).st.set m 1, op := (m : Int), pg := 1 + (k : Int), nx := g.nx + 1 }) := by
  have hpg : ∀ X : World, Calls Try.prog 85 #[.int .i64 0, .int .i64 D.s.2.2] X fun e w' => e = .returned (.int .i64 1) ∧ Below X.heap.size X w' := fun X => by
    have := Pages_ok 0 D.s (hF.shape h) (by omega) X
    rw [kpg_zero (hF.shape h)] at this
    exact this
  have HPG := Lib.hid hpg
  have HKI := Lib.hid (show (kind == 1) = false by simpa using hk)
  have e_k := HKI.out
  have HV1 := Lib.hid hv1
  have HV2 := Lib.hid hv2
  clear hv2
  obtain ⟨c0, hc0⟩ : ∃ c0, c0 = cnt 0 (g.st.take D.s.1.toNat) := ⟨_, rfl⟩
  rw [← hc0] at hcn
  have HC0 := Lib.hid hc0
  clear hc0
  have HAP := Lib.hid hap
  have HCX := Lib.hid hCx
  have HFI := Lib.hid hfi
  clear hap hCx hfi
  obtain ⟨n, hn⟩ : ∃ n, n = l.length := ⟨_, rfl⟩
  have hsz := hF.size h
  have hlt := fun k hk => hF.lt h k hk
  obtain ⟨W, hW⟩ : ∃ W, W = (w.alloc (.cells #[.slice A n c] TBs)).alloc (.cells #[.int .i64 0, .int .i64 0] TA) := ⟨_, rfl⟩
  obtain ⟨q6, q8⟩ := pair_blk w (.cells #[.slice A n c] TBs) (.cells #[.int .i64 0, .int .i64 0] TA)
  rw [← hW] at q6 q8
  have wb : Below w.heap.size w W := by rw [hW]; exact below_alloc (below_alloc (Below.refl _ _) _) _
  have wsz : W.heap.size = w.heap.size + 2 := by rw [hW, size_alloc, size_alloc]
  have hf1 := hF.keep h wb
  have hl1 := hl.below wb
  obtain ⟨ok1, hD1⟩ := hF.dev hf1
  have hsh := hD1.sound.sh
  have HOK := Lib.hid (Lok_any hl1)
  have HSHP := Lib.hid (Shape_any hD1)
  have HF1 := Aside0.mk hf1
  have HL1 := Aside0.mk hl1
  have HW := Lib.hid hW
  have Q6 := Lib.hid q6
  have Q8 := Lib.hid q8
  have WB := Aside0.mk wb
  have HSH := Lib.hid hsh
  have HN := Lib.hid hn
  have HLT := Lib.hid hlt
  have k0 : W.cell? ⟨q, 0, none⟩ = some (.pointer (some ⟨p, 0, none⟩)) := hl1.c0
  rw [← hn] at hc hm
  rw [← hn]
  clear h hl hn hlt hf1 hl1 hD1 hsh hW q6 q8 wb hpg hv1 hk
  go_enter Try.func101, Try.ntmps101
  have e_c : decide ((c0 : Int) < need) = false := decide_eq_false hcn
  have e_o : decide (g.op < 0) = false := decide_eq_false (by omega)
  go_wp2_with (first
    | (rw [← HW.out])
    | (rw [← HW3.out])
    | (go_at_call 75; (with_reducible refine HOK.out.mono ?_); rintro e w1 ⟨rfl, rfl⟩)
    | (go_at_call 56; (with_reducible refine HSHP.out.mono ?_); rintro e w2 ⟨rfl, hb2⟩; obtain ⟨W3, hW3⟩ : ∃ W3, W3 = w2.alloc (.cells #[.int .i64 D.s.1, .int .i64 D.s.2.1, .int .i64 D.s.2.2] TSh) := ⟨_, rfl⟩; have q10 : W3.heap[w2.heap.size]? = some (.cells #[.int .i64 D.s.1, .int .i64 D.s.2.1, .int .i64 D.s.2.2] TSh (0, 0)) := (by rw [hW3]; exact blk_new _ _); have b23 : Below w2.heap.size w2 W3 := (by rw [hW3]; exact below_alloc (Below.refl _ _) _); have hbb := hb2.trans (b23.mono hb2.size); have HF3 := Aside0.mk (hF.keep (hF.below HF1.out hb2) b23); have HL3 := Aside0.mk (HL1.out.below hbb); have p6 := (hbb.block _ (blt Q6.out)).trans Q6.out; have p8 := (hbb.block _ (blt Q8.out)).trans Q8.out; have P6 := Lib.hid p6; have P8 := Lib.hid p8; have Q10 := Lib.hid q10; have BB := Aside0.mk hbb; have HW3 := Lib.hid hW3; have z0 : W3.cell? ⟨w.heap.size + 1, 0, none⟩ = some (.int .i64 0) := bcell p8 0; have z1 : W3.cell? ⟨w.heap.size + 1, 1, none⟩ = some (.int .i64 0) := bcell p8 1; have zf : ∀ j, W3.frozen? ⟨w.heap.size + 1, j, none⟩ = false := (fun j => bfrozen p8 j); have y2 : W3.cell? ⟨w2.heap.size, 2, none⟩ = some (.int .i64 D.s.2.2) := bcell q10 2; clear hb2 hW3 q10 b23 hbb p6 p8)
    | (go_at_call 85; (with_reducible refine (HPG.out _).mono ?_); rintro e w4 ⟨rfl, hb4⟩; have x6 := (hb4.block _ (blt P6.out)).trans P6.out; have x10 := (hb4.block _ (blt Q10.out)).trans Q10.out; have X6 := Lib.hid x6; have X10 := Lib.hid x10; have HB4 := Aside0.mk hb4; clear x6 x10 hb4)
    | ((with_reducible refine gate_dst (N := 34) rfl ?_); (refine closL (some 34) rfl rfl 30 putfits_clo #[.int .i64 1] rfl rfl (by simp only [List.map_toArray, List.map_cons, List.map_nil]; rfl) ?_; refine (PutFits_any (w := w4) HSH.out (bcell X10.out 0) (bcell X10.out 1) (bcell X10.out 2) (bcell X6.out 0) (show n ≤ 9223372036854775807 by omega) 1).mono ?_; (have hvv := HV1.out; rw [← HN.out] at hvv; rw [hvv]; clear hvv); rintro e w5 ⟨rfl, hb5⟩; refine ⟨_, rfl, ?_⟩; have HB5 := Aside0.mk (HB4.out.trans (hb5.mono HB4.out.size)); have hl5 := HL3.out.below HB5.out; have k05 := hl5.c0; have k17 := hl5.c17; have k18 := hl5.c18; have x6 := (HB5.out.block _ (blt P6.out)).trans P6.out; have x8 := (HB5.out.block _ (blt P8.out)).trans P8.out; have x10 := (HB5.out.block _ (blt Q10.out)).trans Q10.out; have X65 := Lib.hid x6; have X85 := Lib.hid x8; have X105 := Lib.hid x10; have z05 : w5.cell? ⟨w.heap.size + 1, 0, none⟩ = some (.int .i64 0) := bcell x8 0; have z15 : w5.cell? ⟨w.heap.size + 1, 1, none⟩ = some (.int .i64 0) := bcell x8 1; have zf5 : ∀ j, w5.frozen? ⟨w.heap.size + 1, j, none⟩ = false := (fun j => bfrozen x8 j); have HL5 := Aside0.mk hl5; have HF5 := Aside0.mk (hF.below HF3.out HB5.out); clear hb5 hl5 x6 x8 x10))
    | ((with_reducible refine gate_dst (N := 48) rfl ?_); (refine closG (some 48) rfl (by kernel_rfl) 43 putfits_clo #[.int .i64 g.pg] rfl rfl (by simp only [List.map_toArray, List.map_cons, List.map_nil]; rfl) ?_; refine (PutFits_any (w := w5) HSH.out (bcell X105.out 0) (bcell X105.out 1) (bcell X105.out 2) (bcell X65.out 0) (show n ≤ 9223372036854775807 by omega) g.pg).mono ?_; (have hvv := HV2.out; rw [← HN.out] at hvv; rw [hvv]; clear hvv); rintro e w6 ⟨rfl, hb6⟩; refine ⟨_, rfl, ?_⟩; have HB6 := Aside0.mk (HB5.out.trans (hb6.mono HB5.out.size)); have x6 := (hb6.block _ (blt X65.out)).trans X65.out; have x8 := (hb6.block _ (blt X85.out)).trans X85.out; have X66 := Lib.hid x6; have X86 := Lib.hid x8; clear x6 x8 hb6))
    | (go_at_call 31; (obtain ⟨okc, hDc⟩ := hF.dev (hF.below HF3.out HB6.out)); (have hcc := LCount_any (HL3.out.below HB6.out) hDc 0); (rw [← HC0.out] at hcc); (with_reducible refine hcc.mono ?_); clear hcc hDc; rintro e w7 ⟨rfl, hb7⟩; have HB7 := Aside0.mk (HB6.out.trans (hb7.mono HB6.out.size)); have x8 := (HB7.out.block _ (blt P8.out)).trans P8.out; have X87 := Lib.hid x8; have z07 : w7.cell? ⟨w.heap.size + 1, 0, none⟩ = some (.int .i64 0) := bcell x8 0; have z17 : w7.cell? ⟨w.heap.size + 1, 1, none⟩ = some (.int .i64 0) := bcell x8 1; have zf7 : ∀ j, w7.frozen? ⟨w.heap.size + 1, j, none⟩ = false := (fun j => bfrozen x8 j); clear hb7 x8)
    | (go_at_call 123; (have htn := LTurn_F hF hSt (hF.below HF3.out HB7.out) (HL3.out.below HB7.out) (.inl (.inl hq)) hN ho16 hsq hn2 hn1 hd0 hm16 HFI.out); (with_reducible refine htn.mono ?_); clear htn; rintro e w8 ⟨rfl, hf8, hl8, hb8, hk8⟩; have bel8 : Below N0 w w8 := (((WB.out.trans ((BB.out.trans (HB7.out.mono BB.out.size)).mono (by omega))).mono hsz)).trans hb8; have kep8 : Kept (fun k => K k ∧ k ≠ q) w w8 := (fun k hk => (hk8 k ⟨.inl (.inl hk.1), hk.2⟩).trans ((show Kept (fun k => K k ∧ k ≠ q) w w7 from (fun k hk => (((BB.out.trans (HB7.out.mono BB.out.size)).mono (by omega)).block k (HLT.out k hk.1)).trans (WB.out.block k (HLT.out k hk.1)))) k hk)); have x6 := (hk8 w.heap.size ⟨.inl (.inr ⟨Nat.le_refl _, by omega⟩), (by have := HLT.out q hq; omega)⟩).trans ((HB7.out.block _ (blt P6.out)).trans P6.out); have x8 := (hk8 (w.heap.size + 1) ⟨.inl (.inr ⟨Nat.le_succ _, by omega⟩), (by have := HLT.out q hq; omega)⟩).trans X87.out; have X68 := Lib.hid x6; have X88 := Lib.hid x8; have HF8 := Aside0.mk hf8; have HL8 := Aside0.mk hl8; have BEL8 := Aside0.mk bel8; have KEP8 := Lib.hid kep8; clear hf8 hl8 hb8 hk8 bel8 kep8 x6 x8))
  have y0 := HL8.out.c0
  have y17 := HL8.out.c17
  have y18 := HL8.out.c18
  refine wp_region_held_drew (S := (fun w' => w'.cell? ⟨q, 0, none⟩ = some (.pointer (some ⟨p, 0, none⟩)) ∧ w'.cell? ⟨q, 17, none⟩ = some (.int .i64 (m : Int)) ∧ w'.cell? ⟨q, 18, none⟩ = some (.int .i64 1))) (by kernel_rfl) ?_ (fun hHeld => ?_)
  · first | go_keep | exact ⟨y0, y17, y18⟩
  first | (refine wpAnyH_take (i := 0) (oi := ?o133) (v := ?v133) ?i133 (by kernel_rfl) (by kernel_rfl) (by kernel_rfl) ?q133 ?y133 (by assumption) ?r133; (case i133 => (simp only [List.getElem?_toArray, List.getElem?_cons_succ, List.getElem?_cons_zero]; rfl)); (case q133 => exact fun _ _ _ h => h); (case y133 => (refine Or.inl ⟨by rfl, ?_⟩; intro w hSw; (try dsimp only at hSw); go_simp; (try (with_reducible rfl))))) | (refine wpAnyH_take (i := 0) (oi := ?o134) (v := undef) ?i134 (by kernel_rfl) (by kernel_rfl) (by kernel_rfl) ?q134 ?y134 (by assumption) ?r134; (case i134 => (simp only [List.getElem?_toArray, List.getElem?_cons_succ, List.getElem?_cons_zero]; rfl)); (case q134 => exact fun _ _ _ h => h); (case y134 => exact Or.inr ⟨by rfl, rfl⟩))
  try simp only [Act.put, List.setIfInBounds_toArray, List.set_cons_zero, List.set_cons_succ]
  first | (refine wpAnyH_take (i := 1) (oi := ?o135) (v := ?v135) ?i135 (by kernel_rfl) (by kernel_rfl) (by kernel_rfl) ?q135 ?y135 (by assumption) ?r135; (case i135 => (simp only [List.getElem?_toArray, List.getElem?_cons_succ, List.getElem?_cons_zero]; rfl)); (case q135 => exact fun _ _ _ h => h); (case y135 => (refine Or.inl ⟨by rfl, ?_⟩; intro w hSw; (try dsimp only at hSw); go_simp; (try (with_reducible rfl))))) | (refine wpAnyH_take (i := 1) (oi := ?o136) (v := undef) ?i136 (by kernel_rfl) (by kernel_rfl) (by kernel_rfl) ?q136 ?y136 (by assumption) ?r136; (case i136 => (simp only [List.getElem?_toArray, List.getElem?_cons_succ, List.getElem?_cons_zero]; rfl)); (case q136 => exact fun _ _ _ h => h); (case y136 => exact Or.inr ⟨by rfl, rfl⟩))
  try simp only [Act.put, List.setIfInBounds_toArray, List.set_cons_zero, List.set_cons_succ]
  first | (refine wpAnyH_take (i := 2) (oi := ?o137) (v := ?v137) ?i137 (by kernel_rfl) (by kernel_rfl) (by kernel_rfl) ?q137 ?y137 (by assumption) ?r137; (case i137 => (simp only [List.getElem?_toArray, List.getElem?_cons_succ, List.getElem?_cons_zero]; rfl)); (case q137 => exact fun _ _ _ h => h); (case y137 => (refine Or.inl ⟨by rfl, ?_⟩; intro w hSw; (try dsimp only at hSw); go_simp; (try (with_reducible rfl))))) | (refine wpAnyH_take (i := 2) (oi := ?o138) (v := undef) ?i138 (by kernel_rfl) (by kernel_rfl) (by kernel_rfl) ?q138 ?y138 (by assumption) ?r138; (case i138 => (simp only [List.getElem?_toArray, List.getElem?_cons_succ, List.getElem?_cons_zero]; rfl)); (case q138 => exact fun _ _ _ h => h); (case y138 => exact Or.inr ⟨by rfl, rfl⟩))
  try simp only [Act.put, List.setIfInBounds_toArray, List.set_cons_zero, List.set_cons_succ]
  first | (refine wpAnyH_take (i := 3) (oi := ?o139) (v := ?v139) ?i139 (by kernel_rfl) (by kernel_rfl) (by kernel_rfl) ?q139 ?y139 (by assumption) ?r139; (case i139 => (simp only [List.getElem?_toArray, List.getElem?_cons_succ, List.getElem?_cons_zero]; rfl)); (case q139 => exact fun _ _ _ h => h); (case y139 => (refine Or.inl ⟨by rfl, ?_⟩; intro w hSw; (try dsimp only at hSw); go_simp; (try (with_reducible rfl))))) | (refine wpAnyH_take (i := 3) (oi := ?o140) (v := undef) ?i140 (by kernel_rfl) (by kernel_rfl) (by kernel_rfl) ?q140 ?y140 (by assumption) ?r140; (case i140 => (simp only [List.getElem?_toArray, List.getElem?_cons_succ, List.getElem?_cons_zero]; rfl)); (case q140 => exact fun _ _ _ h => h); (case y140 => exact Or.inr ⟨by rfl, rfl⟩))
  try simp only [Act.put, List.setIfInBounds_toArray, List.set_cons_zero, List.set_cons_succ]
  first | (refine wpAnyH_take (i := 4) (oi := ?o141) (v := ?v141) ?i141 (by kernel_rfl) (by kernel_rfl) (by kernel_rfl) ?q141 ?y141 (by assumption) ?r141; (case i141 => (simp only [List.getElem?_toArray, List.getElem?_cons_succ, List.getElem?_cons_zero]; rfl)); (case q141 => exact fun _ _ _ h => h); (case y141 => (refine Or.inl ⟨by rfl, ?_⟩; intro w hSw; (try dsimp only at hSw); go_simp; (try (with_reducible rfl))))) | (refine wpAnyH_take (i := 4) (oi := ?o142) (v := undef) ?i142 (by kernel_rfl) (by kernel_rfl) (by kernel_rfl) ?q142 ?y142 (by assumption) ?r142; (case i142 => (simp only [List.getElem?_toArray, List.getElem?_cons_succ, List.getElem?_cons_zero]; rfl)); (case q142 => exact fun _ _ _ h => h); (case y142 => exact Or.inr ⟨by rfl, rfl⟩))
  try simp only [Act.put, List.setIfInBounds_toArray, List.set_cons_zero, List.set_cons_succ]
  first | (refine wpAnyH_take (i := 5) (oi := ?o143) (v := ?v143) ?i143 (by kernel_rfl) (by kernel_rfl) (by kernel_rfl) ?q143 ?y143 (by assumption) ?r143; (case i143 => (simp only [List.getElem?_toArray, List.getElem?_cons_succ, List.getElem?_cons_zero]; rfl)); (case q143 => exact fun _ _ _ h => h); (case y143 => (refine Or.inl ⟨by rfl, ?_⟩; intro w hSw; (try dsimp only at hSw); go_simp; (try (with_reducible rfl))))) | (refine wpAnyH_take (i := 5) (oi := ?o144) (v := undef) ?i144 (by kernel_rfl) (by kernel_rfl) (by kernel_rfl) ?q144 ?y144 (by assumption) ?r144; (case i144 => (simp only [List.getElem?_toArray, List.getElem?_cons_succ, List.getElem?_cons_zero]; rfl)); (case q144 => exact fun _ _ _ h => h); (case y144 => exact Or.inr ⟨by rfl, rfl⟩))
  try simp only [Act.put, List.setIfInBounds_toArray, List.set_cons_zero, List.set_cons_succ]
  first | (refine wpAnyH_take (i := 6) (oi := ?o145) (v := ?v145) ?i145 (by kernel_rfl) (by kernel_rfl) (by kernel_rfl) ?q145 ?y145 (by assumption) ?r145; (case i145 => (simp only [List.getElem?_toArray, List.getElem?_cons_succ, List.getElem?_cons_zero]; rfl)); (case q145 => exact fun _ _ _ h => h); (case y145 => (refine Or.inl ⟨by rfl, ?_⟩; intro w hSw; (try dsimp only at hSw); go_simp; (try (with_reducible rfl))))) | (refine wpAnyH_take (i := 6) (oi := ?o146) (v := undef) ?i146 (by kernel_rfl) (by kernel_rfl) (by kernel_rfl) ?q146 ?y146 (by assumption) ?r146; (case i146 => (simp only [List.getElem?_toArray, List.getElem?_cons_succ, List.getElem?_cons_zero]; rfl)); (case q146 => exact fun _ _ _ h => h); (case y146 => exact Or.inr ⟨by rfl, rfl⟩))
  try simp only [Act.put, List.setIfInBounds_toArray, List.set_cons_zero, List.set_cons_succ]
  first | (refine wpAnyH_take (i := 7) (oi := ?o147) (v := ?v147) ?i147 (by kernel_rfl) (by kernel_rfl) (by kernel_rfl) ?q147 ?y147 (by assumption) ?r147; (case i147 => (simp only [List.getElem?_toArray, List.getElem?_cons_succ, List.getElem?_cons_zero]; rfl)); (case q147 => exact fun _ _ _ h => h); (case y147 => (refine Or.inl ⟨by rfl, ?_⟩; intro w hSw; (try dsimp only at hSw); go_simp; (try (with_reducible rfl))))) | (refine wpAnyH_take (i := 7) (oi := ?o148) (v := undef) ?i148 (by kernel_rfl) (by kernel_rfl) (by kernel_rfl) ?q148 ?y148 (by assumption) ?r148; (case i148 => (simp only [List.getElem?_toArray, List.getElem?_cons_succ, List.getElem?_cons_zero]; rfl)); (case q148 => exact fun _ _ _ h => h); (case y148 => exact Or.inr ⟨by rfl, rfl⟩))
  try simp only [Act.put, List.setIfInBounds_toArray, List.set_cons_zero, List.set_cons_succ]
  first | (refine wpAnyH_take (i := 8) (oi := ?o149) (v := ?v149) ?i149 (by kernel_rfl) (by kernel_rfl) (by kernel_rfl) ?q149 ?y149 (by assumption) ?r149; (case i149 => (simp only [List.getElem?_toArray, List.getElem?_cons_succ, List.getElem?_cons_zero]; rfl)); (case q149 => exact fun _ _ _ h => h); (case y149 => (refine Or.inl ⟨by rfl, ?_⟩; intro w hSw; (try dsimp only at hSw); go_simp; (try (with_reducible rfl))))) | (refine wpAnyH_take (i := 8) (oi := ?o150) (v := undef) ?i150 (by kernel_rfl) (by kernel_rfl) (by kernel_rfl) ?q150 ?y150 (by assumption) ?r150; (case i150 => (simp only [List.getElem?_toArray, List.getElem?_cons_succ, List.getElem?_cons_zero]; rfl)); (case q150 => exact fun _ _ _ h => h); (case y150 => exact Or.inr ⟨by rfl, rfl⟩))
  try simp only [Act.put, List.setIfInBounds_toArray, List.set_cons_zero, List.set_cons_succ]
  refine wpAnyH_ready (rs := [9]) (by kernel_rfl) (by simp) ?_
  refine AllReadyH.cons (by (simp only [List.getElem?_toArray, List.getElem?_cons_succ, List.getElem?_cons_zero]; rfl)) (fun K hK => ?_) AllReadyH.nil
  go_simp
  (try dsimp only)
  refine hK.out _ _ ?_ (fun hHeld => ?_)
  · first | go_keep | exact ⟨y0, y17, y18⟩
  clear hK K
  try simp only [Act.put, List.setIfInBounds_toArray, List.set_cons_zero, List.set_cons_succ]
  refine wpAnyH_ready (rs := [10]) (by kernel_rfl) (by simp) ?_
  refine AllReadyH.cons (by (simp only [List.getElem?_toArray, List.getElem?_cons_succ, List.getElem?_cons_zero]; rfl)) (fun K hK => ?_) AllReadyH.nil
  go_simp
  (try dsimp only)
  refine hK.out _ _ ?_ (fun hHeld => ?_)
  · first | go_keep | exact ⟨y0, y17, y18⟩
  clear hK K
  try simp only [Act.put, List.setIfInBounds_toArray, List.set_cons_zero, List.set_cons_succ]
  refine wpAnyH_done (by kernel_rfl) ?_ _
  obtain ⟨Y, hY⟩ : ∃ Y, Y = (w8.alloc (.cells #[.int .i64 (m : Int), .int .i64 1] TA)).drew := ⟨_, rfl⟩
  rw [← hY]
  have qY : Y.heap[w8.heap.size]? = some (.cells #[.int .i64 (m : Int), .int .i64 1] TA (0, 0)) := by rw [hY]; exact blk_new _ _
  have bY : Below w8.heap.size w8 Y := by rw [hY]; exact (below_alloc (Below.refl _ _) _).drew
  have bYd : Below w8.heap.size w8 Y.drew := bY.drew
  have sY : Y.heap.size = w8.heap.size + 1 := by rw [hY]; exact size_alloc _ _
  have fY := hF.keep HF8.out bYd
  have lY := HL8.out.below bY
  have zY0 := lY.c0
  have zY17 := lY.c17
  have zY18 := lY.c18
  have zY19 := lY.c19
  have zY6 : Y.cell? ⟨w.heap.size, 0, none⟩ = some (.slice A n c) := bcell ((bY.block _ (blt X68.out)).trans X68.out) 0
  have belX : Below N0 w w8 := BEL8.out
  have kepX : Kept (fun k => K k ∧ k ≠ q) w w8 := KEP8.out
  have bNY : Below N0 w Y.drew := belX.trans (bYd.mono (by have := belX.size; omega))
  have kNY : Kept (fun k => K k ∧ k ≠ q) w Y.drew := fun k hk => (bYd.block k (by have := HLT.out k hk.1; have := belX.size; omega)).trans (kepX k hk)
  have happ := Append_F (kind := kind) (seq := g.nx) hF fY (m : Int) 1 hkk hsq hBl (HCX.out _ bNY kNY) (by rw [← HN.out]; exact hc) (by rw [← HN.out]; exact hm) hdd
  rw [HAP.out, ← HN.out] at happ
  have HAPP := Lib.hid happ
  have HFK := Aside0.mk fY
  have LY := Aside0.mk lY
  have QY := Lib.hid qY
  have BY := Aside0.mk bY
  have HY := Lib.hid hY
  have hwx : IntKind.u64.wrap g.nx = g.nx := IntWalk.u64_in _ (by omega)
  have hwk : IntKind.i64.wrap (1 + (k : Int)) = 1 + (k : Int) := IntWalk.i64_in _ (by omega)
  have BX := Aside0.mk belX
  have KX := Lib.hid kepX
  have nq1 : ¬ w8.heap.size = q := by have := blt HL8.out.blk; omega
  have nq2 : ¬ q = w8.heap.size := fun e => nq1 e.symm
  have nq3 : ¬ w.heap.size + 1 = q := by have := HLT.out q hq; omega
  have nq4 : ¬ q = w.heap.size + 1 := fun e => nq3 e.symm
  have nq5 : ¬ w8.heap.size = w.heap.size + 1 := by have := blt X88.out; omega
  have nq6 : ¬ w.heap.size + 1 = w8.heap.size := fun e => nq5 e.symm
  clear qY bY bYd fY lY belX kepX bNY kNY happ hY y0 y17 y18 hHeld
  go_wp2_with fail
  refine wp_region_held_drew (S := (fun w' => w'.cell? ⟨q, 0, none⟩ = some (.pointer (some ⟨p, 0, none⟩)) ∧ w'.cell? ⟨q, 17, none⟩ = some (.int .i64 (m : Int)) ∧ w'.cell? ⟨q, 18, none⟩ = some (.int .i64 1) ∧ w'.cell? ⟨q, 19, none⟩ = some (.int .u64 (g.nx + 1)) ∧ w'.cell? ⟨w.heap.size, 0, none⟩ = some (.slice A n c))) (by kernel_rfl) ?_ (fun hHeld => ?_)
  · first | exact ⟨zY0, zY17, zY18, zY19, zY6⟩ | exact ⟨s0, s17, s18, s19, s6⟩
  first | (refine wpAnyH_take (i := 0) (oi := ?o151) (v := ?v151) ?i151 (by kernel_rfl) (by kernel_rfl) (by kernel_rfl) ?q151 ?y151 (by assumption) ?r151; (case i151 => (simp only [List.getElem?_toArray, List.getElem?_cons_succ, List.getElem?_cons_zero]; rfl)); (case q151 => exact fun _ _ _ h => h); (case y151 => (refine Or.inl ⟨by rfl, ?_⟩; intro w hSw; (try dsimp only at hSw); go_simp; (try (with_reducible rfl))))) | (refine wpAnyH_take (i := 0) (oi := ?o152) (v := undef) ?i152 (by kernel_rfl) (by kernel_rfl) (by kernel_rfl) ?q152 ?y152 (by assumption) ?r152; (case i152 => (simp only [List.getElem?_toArray, List.getElem?_cons_succ, List.getElem?_cons_zero]; rfl)); (case q152 => exact fun _ _ _ h => h); (case y152 => exact Or.inr ⟨by rfl, rfl⟩))
  try simp only [Act.put, List.setIfInBounds_toArray, List.set_cons_zero, List.set_cons_succ]
  first | (refine wpAnyH_take (i := 1) (oi := ?o153) (v := ?v153) ?i153 (by kernel_rfl) (by kernel_rfl) (by kernel_rfl) ?q153 ?y153 (by assumption) ?r153; (case i153 => (simp only [List.getElem?_toArray, List.getElem?_cons_succ, List.getElem?_cons_zero]; rfl)); (case q153 => exact fun _ _ _ h => h); (case y153 => (refine Or.inl ⟨by rfl, ?_⟩; intro w hSw; (try dsimp only at hSw); go_simp; (try (with_reducible rfl))))) | (refine wpAnyH_take (i := 1) (oi := ?o154) (v := undef) ?i154 (by kernel_rfl) (by kernel_rfl) (by kernel_rfl) ?q154 ?y154 (by assumption) ?r154; (case i154 => (simp only [List.getElem?_toArray, List.getElem?_cons_succ, List.getElem?_cons_zero]; rfl)); (case q154 => exact fun _ _ _ h => h); (case y154 => exact Or.inr ⟨by rfl, rfl⟩))
  try simp only [Act.put, List.setIfInBounds_toArray, List.set_cons_zero, List.set_cons_succ]
  first | (refine wpAnyH_take (i := 2) (oi := ?o155) (v := ?v155) ?i155 (by kernel_rfl) (by kernel_rfl) (by kernel_rfl) ?q155 ?y155 (by assumption) ?r155; (case i155 => (simp only [List.getElem?_toArray, List.getElem?_cons_succ, List.getElem?_cons_zero]; rfl)); (case q155 => exact fun _ _ _ h => h); (case y155 => (refine Or.inl ⟨by rfl, ?_⟩; intro w hSw; (try dsimp only at hSw); go_simp; (try (with_reducible rfl))))) | (refine wpAnyH_take (i := 2) (oi := ?o156) (v := undef) ?i156 (by kernel_rfl) (by kernel_rfl) (by kernel_rfl) ?q156 ?y156 (by assumption) ?r156; (case i156 => (simp only [List.getElem?_toArray, List.getElem?_cons_succ, List.getElem?_cons_zero]; rfl)); (case q156 => exact fun _ _ _ h => h); (case y156 => exact Or.inr ⟨by rfl, rfl⟩))
  try simp only [Act.put, List.setIfInBounds_toArray, List.set_cons_zero, List.set_cons_succ]
  first | (refine wpAnyH_take (i := 3) (oi := ?o157) (v := ?v157) ?i157 (by kernel_rfl) (by kernel_rfl) (by kernel_rfl) ?q157 ?y157 (by assumption) ?r157; (case i157 => (simp only [List.getElem?_toArray, List.getElem?_cons_succ, List.getElem?_cons_zero]; rfl)); (case q157 => exact fun _ _ _ h => h); (case y157 => (refine Or.inl ⟨by rfl, ?_⟩; intro w hSw; (try dsimp only at hSw); go_simp; (try (with_reducible rfl))))) | (refine wpAnyH_take (i := 3) (oi := ?o158) (v := undef) ?i158 (by kernel_rfl) (by kernel_rfl) (by kernel_rfl) ?q158 ?y158 (by assumption) ?r158; (case i158 => (simp only [List.getElem?_toArray, List.getElem?_cons_succ, List.getElem?_cons_zero]; rfl)); (case q158 => exact fun _ _ _ h => h); (case y158 => exact Or.inr ⟨by rfl, rfl⟩))
  try simp only [Act.put, List.setIfInBounds_toArray, List.set_cons_zero, List.set_cons_succ]
  first | (refine wpAnyH_take (i := 4) (oi := ?o159) (v := ?v159) ?i159 (by kernel_rfl) (by kernel_rfl) (by kernel_rfl) ?q159 ?y159 (by assumption) ?r159; (case i159 => (simp only [List.getElem?_toArray, List.getElem?_cons_succ, List.getElem?_cons_zero]; rfl)); (case q159 => exact fun _ _ _ h => h); (case y159 => (refine Or.inl ⟨by rfl, ?_⟩; intro w hSw; (try dsimp only at hSw); go_simp; (try (with_reducible rfl))))) | (refine wpAnyH_take (i := 4) (oi := ?o160) (v := undef) ?i160 (by kernel_rfl) (by kernel_rfl) (by kernel_rfl) ?q160 ?y160 (by assumption) ?r160; (case i160 => (simp only [List.getElem?_toArray, List.getElem?_cons_succ, List.getElem?_cons_zero]; rfl)); (case q160 => exact fun _ _ _ h => h); (case y160 => exact Or.inr ⟨by rfl, rfl⟩))
  try simp only [Act.put, List.setIfInBounds_toArray, List.set_cons_zero, List.set_cons_succ]
  first | (refine wpAnyH_take (i := 5) (oi := ?o161) (v := ?v161) ?i161 (by kernel_rfl) (by kernel_rfl) (by kernel_rfl) ?q161 ?y161 (by assumption) ?r161; (case i161 => (simp only [List.getElem?_toArray, List.getElem?_cons_succ, List.getElem?_cons_zero]; rfl)); (case q161 => exact fun _ _ _ h => h); (case y161 => (refine Or.inl ⟨by rfl, ?_⟩; intro w hSw; (try dsimp only at hSw); go_simp; (try (with_reducible rfl))))) | (refine wpAnyH_take (i := 5) (oi := ?o162) (v := undef) ?i162 (by kernel_rfl) (by kernel_rfl) (by kernel_rfl) ?q162 ?y162 (by assumption) ?r162; (case i162 => (simp only [List.getElem?_toArray, List.getElem?_cons_succ, List.getElem?_cons_zero]; rfl)); (case q162 => exact fun _ _ _ h => h); (case y162 => exact Or.inr ⟨by rfl, rfl⟩))
  try simp only [Act.put, List.setIfInBounds_toArray, List.set_cons_zero, List.set_cons_succ]
  first | (refine wpAnyH_take (i := 6) (oi := ?o163) (v := ?v163) ?i163 (by kernel_rfl) (by kernel_rfl) (by kernel_rfl) ?q163 ?y163 (by assumption) ?r163; (case i163 => (simp only [List.getElem?_toArray, List.getElem?_cons_succ, List.getElem?_cons_zero]; rfl)); (case q163 => exact fun _ _ _ h => h); (case y163 => (refine Or.inl ⟨by rfl, ?_⟩; intro w hSw; (try dsimp only at hSw); go_simp; (try (with_reducible rfl))))) | (refine wpAnyH_take (i := 6) (oi := ?o164) (v := undef) ?i164 (by kernel_rfl) (by kernel_rfl) (by kernel_rfl) ?q164 ?y164 (by assumption) ?r164; (case i164 => (simp only [List.getElem?_toArray, List.getElem?_cons_succ, List.getElem?_cons_zero]; rfl)); (case q164 => exact fun _ _ _ h => h); (case y164 => exact Or.inr ⟨by rfl, rfl⟩))
  try simp only [Act.put, List.setIfInBounds_toArray, List.set_cons_zero, List.set_cons_succ]
  first | (refine wpAnyH_take (i := 7) (oi := ?o165) (v := ?v165) ?i165 (by kernel_rfl) (by kernel_rfl) (by kernel_rfl) ?q165 ?y165 (by assumption) ?r165; (case i165 => (simp only [List.getElem?_toArray, List.getElem?_cons_succ, List.getElem?_cons_zero]; rfl)); (case q165 => exact fun _ _ _ h => h); (case y165 => (refine Or.inl ⟨by rfl, ?_⟩; intro w hSw; (try dsimp only at hSw); go_simp; (try (with_reducible rfl))))) | (refine wpAnyH_take (i := 7) (oi := ?o166) (v := undef) ?i166 (by kernel_rfl) (by kernel_rfl) (by kernel_rfl) ?q166 ?y166 (by assumption) ?r166; (case i166 => (simp only [List.getElem?_toArray, List.getElem?_cons_succ, List.getElem?_cons_zero]; rfl)); (case q166 => exact fun _ _ _ h => h); (case y166 => exact Or.inr ⟨by rfl, rfl⟩))
  try simp only [Act.put, List.setIfInBounds_toArray, List.set_cons_zero, List.set_cons_succ]
  first | (refine wpAnyH_take (i := 8) (oi := ?o167) (v := ?v167) ?i167 (by kernel_rfl) (by kernel_rfl) (by kernel_rfl) ?q167 ?y167 (by assumption) ?r167; (case i167 => (simp only [List.getElem?_toArray, List.getElem?_cons_succ, List.getElem?_cons_zero]; rfl)); (case q167 => exact fun _ _ _ h => h); (case y167 => (refine Or.inl ⟨by rfl, ?_⟩; intro w hSw; (try dsimp only at hSw); go_simp; (try (with_reducible rfl))))) | (refine wpAnyH_take (i := 8) (oi := ?o168) (v := undef) ?i168 (by kernel_rfl) (by kernel_rfl) (by kernel_rfl) ?q168 ?y168 (by assumption) ?r168; (case i168 => (simp only [List.getElem?_toArray, List.getElem?_cons_succ, List.getElem?_cons_zero]; rfl)); (case q168 => exact fun _ _ _ h => h); (case y168 => exact Or.inr ⟨by rfl, rfl⟩))
  try simp only [Act.put, List.setIfInBounds_toArray, List.set_cons_zero, List.set_cons_succ]
  first | (refine wpAnyH_take (i := 9) (oi := ?o169) (v := ?v169) ?i169 (by kernel_rfl) (by kernel_rfl) (by kernel_rfl) ?q169 ?y169 (by assumption) ?r169; (case i169 => (simp only [List.getElem?_toArray, List.getElem?_cons_succ, List.getElem?_cons_zero]; rfl)); (case q169 => exact fun _ _ _ h => h); (case y169 => (refine Or.inl ⟨by rfl, ?_⟩; intro w hSw; (try dsimp only at hSw); go_simp; (try (with_reducible rfl))))) | (refine wpAnyH_take (i := 9) (oi := ?o170) (v := undef) ?i170 (by kernel_rfl) (by kernel_rfl) (by kernel_rfl) ?q170 ?y170 (by assumption) ?r170; (case i170 => (simp only [List.getElem?_toArray, List.getElem?_cons_succ, List.getElem?_cons_zero]; rfl)); (case q170 => exact fun _ _ _ h => h); (case y170 => exact Or.inr ⟨by rfl, rfl⟩))
  try simp only [Act.put, List.setIfInBounds_toArray, List.set_cons_zero, List.set_cons_succ]
  first | (refine wpAnyH_take (i := 10) (oi := ?o171) (v := ?v171) ?i171 (by kernel_rfl) (by kernel_rfl) (by kernel_rfl) ?q171 ?y171 (by assumption) ?r171; (case i171 => (simp only [List.getElem?_toArray, List.getElem?_cons_succ, List.getElem?_cons_zero]; rfl)); (case q171 => exact fun _ _ _ h => h); (case y171 => (refine Or.inl ⟨by rfl, ?_⟩; intro w hSw; (try dsimp only at hSw); go_simp; (try (with_reducible rfl))))) | (refine wpAnyH_take (i := 10) (oi := ?o172) (v := undef) ?i172 (by kernel_rfl) (by kernel_rfl) (by kernel_rfl) ?q172 ?y172 (by assumption) ?r172; (case i172 => (simp only [List.getElem?_toArray, List.getElem?_cons_succ, List.getElem?_cons_zero]; rfl)); (case q172 => exact fun _ _ _ h => h); (case y172 => exact Or.inr ⟨by rfl, rfl⟩))
  try simp only [Act.put, List.setIfInBounds_toArray, List.set_cons_zero, List.set_cons_succ]
  first | (refine wpAnyH_take (i := 11) (oi := ?o173) (v := ?v173) ?i173 (by kernel_rfl) (by kernel_rfl) (by kernel_rfl) ?q173 ?y173 (by assumption) ?r173; (case i173 => (simp only [List.getElem?_toArray, List.getElem?_cons_succ, List.getElem?_cons_zero]; rfl)); (case q173 => exact fun _ _ _ h => h); (case y173 => (refine Or.inl ⟨by rfl, ?_⟩; intro w hSw; (try dsimp only at hSw); go_simp; (try (with_reducible rfl))))) | (refine wpAnyH_take (i := 11) (oi := ?o174) (v := undef) ?i174 (by kernel_rfl) (by kernel_rfl) (by kernel_rfl) ?q174 ?y174 (by assumption) ?r174; (case i174 => (simp only [List.getElem?_toArray, List.getElem?_cons_succ, List.getElem?_cons_zero]; rfl)); (case q174 => exact fun _ _ _ h => h); (case y174 => exact Or.inr ⟨by rfl, rfl⟩))
  try simp only [Act.put, List.setIfInBounds_toArray, List.set_cons_zero, List.set_cons_succ]
  first | (refine wpAnyH_take (i := 12) (oi := ?o175) (v := ?v175) ?i175 (by kernel_rfl) (by kernel_rfl) (by kernel_rfl) ?q175 ?y175 (by assumption) ?r175; (case i175 => (simp only [List.getElem?_toArray, List.getElem?_cons_succ, List.getElem?_cons_zero]; rfl)); (case q175 => exact fun _ _ _ h => h); (case y175 => (refine Or.inl ⟨by rfl, ?_⟩; intro w hSw; (try dsimp only at hSw); go_simp; (try (with_reducible rfl))))) | (refine wpAnyH_take (i := 12) (oi := ?o176) (v := undef) ?i176 (by kernel_rfl) (by kernel_rfl) (by kernel_rfl) ?q176 ?y176 (by assumption) ?r176; (case i176 => (simp only [List.getElem?_toArray, List.getElem?_cons_succ, List.getElem?_cons_zero]; rfl)); (case q176 => exact fun _ _ _ h => h); (case y176 => exact Or.inr ⟨by rfl, rfl⟩))
  try simp only [Act.put, List.setIfInBounds_toArray, List.set_cons_zero, List.set_cons_succ]
  first | (refine wpAnyH_take (i := 13) (oi := ?o177) (v := ?v177) ?i177 (by kernel_rfl) (by kernel_rfl) (by kernel_rfl) ?q177 ?y177 (by assumption) ?r177; (case i177 => (simp only [List.getElem?_toArray, List.getElem?_cons_succ, List.getElem?_cons_zero]; rfl)); (case q177 => exact fun _ _ _ h => h); (case y177 => (refine Or.inl ⟨by rfl, ?_⟩; intro w hSw; (try dsimp only at hSw); go_simp; (try (with_reducible rfl))))) | (refine wpAnyH_take (i := 13) (oi := ?o178) (v := undef) ?i178 (by kernel_rfl) (by kernel_rfl) (by kernel_rfl) ?q178 ?y178 (by assumption) ?r178; (case i178 => (simp only [List.getElem?_toArray, List.getElem?_cons_succ, List.getElem?_cons_zero]; rfl)); (case q178 => exact fun _ _ _ h => h); (case y178 => exact Or.inr ⟨by rfl, rfl⟩))
  try simp only [Act.put, List.setIfInBounds_toArray, List.set_cons_zero, List.set_cons_succ]
  first | (refine wpAnyH_take (i := 14) (oi := ?o179) (v := ?v179) ?i179 (by kernel_rfl) (by kernel_rfl) (by kernel_rfl) ?q179 ?y179 (by assumption) ?r179; (case i179 => (simp only [List.getElem?_toArray, List.getElem?_cons_succ, List.getElem?_cons_zero]; rfl)); (case q179 => exact fun _ _ _ h => h); (case y179 => (refine Or.inl ⟨by rfl, ?_⟩; intro w hSw; (try dsimp only at hSw); go_simp; (try (with_reducible rfl))))) | (refine wpAnyH_take (i := 14) (oi := ?o180) (v := undef) ?i180 (by kernel_rfl) (by kernel_rfl) (by kernel_rfl) ?q180 ?y180 (by assumption) ?r180; (case i180 => (simp only [List.getElem?_toArray, List.getElem?_cons_succ, List.getElem?_cons_zero]; rfl)); (case q180 => exact fun _ _ _ h => h); (case y180 => exact Or.inr ⟨by rfl, rfl⟩))
  try simp only [Act.put, List.setIfInBounds_toArray, List.set_cons_zero, List.set_cons_succ]
  first | (refine wpAnyH_take (i := 15) (oi := ?o181) (v := ?v181) ?i181 (by kernel_rfl) (by kernel_rfl) (by kernel_rfl) ?q181 ?y181 (by assumption) ?r181; (case i181 => (simp only [List.getElem?_toArray, List.getElem?_cons_succ, List.getElem?_cons_zero]; rfl)); (case q181 => exact fun _ _ _ h => h); (case y181 => (refine Or.inl ⟨by rfl, ?_⟩; intro w hSw; (try dsimp only at hSw); go_simp; (try (with_reducible rfl))))) | (refine wpAnyH_take (i := 15) (oi := ?o182) (v := undef) ?i182 (by kernel_rfl) (by kernel_rfl) (by kernel_rfl) ?q182 ?y182 (by assumption) ?r182; (case i182 => (simp only [List.getElem?_toArray, List.getElem?_cons_succ, List.getElem?_cons_zero]; rfl)); (case q182 => exact fun _ _ _ h => h); (case y182 => exact Or.inr ⟨by rfl, rfl⟩))
  try simp only [Act.put, List.setIfInBounds_toArray, List.set_cons_zero, List.set_cons_succ]
  first | (refine wpAnyH_take (i := 16) (oi := ?o183) (v := ?v183) ?i183 (by kernel_rfl) (by kernel_rfl) (by kernel_rfl) ?q183 ?y183 (by assumption) ?r183; (case i183 => (simp only [List.getElem?_toArray, List.getElem?_cons_succ, List.getElem?_cons_zero]; rfl)); (case q183 => exact fun _ _ _ h => h); (case y183 => (refine Or.inl ⟨by rfl, ?_⟩; intro w hSw; (try dsimp only at hSw); go_simp; (try (with_reducible rfl))))) | (refine wpAnyH_take (i := 16) (oi := ?o184) (v := undef) ?i184 (by kernel_rfl) (by kernel_rfl) (by kernel_rfl) ?q184 ?y184 (by assumption) ?r184; (case i184 => (simp only [List.getElem?_toArray, List.getElem?_cons_succ, List.getElem?_cons_zero]; rfl)); (case q184 => exact fun _ _ _ h => h); (case y184 => exact Or.inr ⟨by rfl, rfl⟩))
  try simp only [Act.put, List.setIfInBounds_toArray, List.set_cons_zero, List.set_cons_succ]
  first | (refine wpAnyH_take (i := 17) (oi := ?o185) (v := ?v185) ?i185 (by kernel_rfl) (by kernel_rfl) (by kernel_rfl) ?q185 ?y185 (by assumption) ?r185; (case i185 => (simp only [List.getElem?_toArray, List.getElem?_cons_succ, List.getElem?_cons_zero]; rfl)); (case q185 => exact fun _ _ _ h => h); (case y185 => (refine Or.inl ⟨by rfl, ?_⟩; intro w hSw; (try dsimp only at hSw); go_simp; (try (with_reducible rfl))))) | (refine wpAnyH_take (i := 17) (oi := ?o186) (v := undef) ?i186 (by kernel_rfl) (by kernel_rfl) (by kernel_rfl) ?q186 ?y186 (by assumption) ?r186; (case i186 => (simp only [List.getElem?_toArray, List.getElem?_cons_succ, List.getElem?_cons_zero]; rfl)); (case q186 => exact fun _ _ _ h => h); (case y186 => exact Or.inr ⟨by rfl, rfl⟩))
  try simp only [Act.put, List.setIfInBounds_toArray, List.set_cons_zero, List.set_cons_succ]
  first | (refine wpAnyH_take (i := 18) (oi := ?o187) (v := ?v187) ?i187 (by kernel_rfl) (by kernel_rfl) (by kernel_rfl) ?q187 ?y187 (by assumption) ?r187; (case i187 => (simp only [List.getElem?_toArray, List.getElem?_cons_succ, List.getElem?_cons_zero]; rfl)); (case q187 => exact fun _ _ _ h => h); (case y187 => (refine Or.inl ⟨by rfl, ?_⟩; intro w hSw; (try dsimp only at hSw); go_simp; (try (with_reducible rfl))))) | (refine wpAnyH_take (i := 18) (oi := ?o188) (v := undef) ?i188 (by kernel_rfl) (by kernel_rfl) (by kernel_rfl) ?q188 ?y188 (by assumption) ?r188; (case i188 => (simp only [List.getElem?_toArray, List.getElem?_cons_succ, List.getElem?_cons_zero]; rfl)); (case q188 => exact fun _ _ _ h => h); (case y188 => exact Or.inr ⟨by rfl, rfl⟩))
  try simp only [Act.put, List.setIfInBounds_toArray, List.set_cons_zero, List.set_cons_succ]
  refine wpAnyH_ready (rs := [19]) (by kernel_rfl) (by simp) ?_
  refine AllReadyH.cons (by (simp only [List.getElem?_toArray, List.getElem?_cons_succ, List.getElem?_cons_zero]; rfl)) (fun K hK => ?_) AllReadyH.nil
  go_simp
  (go_at_call 14; (with_reducible refine HAPP.out.mono ?_); rintro e w10 ⟨rfl, hf10, hb10, hk10⟩; have hl10 : LogIs q p { st := (sealG g).st.set m 1, op := (m : Int), pg := 1, nx := g.nx + 1 } w10 := ⟨LY.out.len, (hk10 q (.inl (.inl (.inl hq)))).trans LY.out.blk⟩; have s0 := hl10.c0; have s17 := hl10.c17; have s18 := hl10.c18; have s19 := hl10.c19; have fr18 := hl10.frozen 18; have x6 := (hk10 w.heap.size (.inl (.inl (.inr ⟨Nat.le_refl _, by omega⟩)))).trans ((BY.out.block _ (blt X68.out)).trans X68.out); have x8 := (hk10 (w.heap.size + 1) (.inl (.inl (.inr ⟨Nat.le_succ _, by omega⟩)))).trans ((BY.out.block _ (blt X88.out)).trans X88.out); have x12 := (hk10 w8.heap.size (.inr ⟨Nat.le_refl _, by show _ < Y.heap.size; omega⟩)).trans QY.out; have s6 : w10.cell? ⟨w.heap.size, 0, none⟩ = some (.slice A n c) := bcell x6 0; have m0 : w10.cell? ⟨w.heap.size + 1, 0, none⟩ = some (.int .i64 0) := bcell x8 0; have m1 : w10.cell? ⟨w.heap.size + 1, 1, none⟩ = some (.int .i64 0) := bcell x8 1; have mf : ∀ j, w10.frozen? ⟨w.heap.size + 1, j, none⟩ = false := (fun j => bfrozen x8 j); have t0 : w10.cell? ⟨w8.heap.size, 0, none⟩ = some (.int .i64 (m : Int)) := bcell x12 0; have t1 : w10.cell? ⟨w8.heap.size, 1, none⟩ = some (.int .i64 1) := bcell x12 1; have HL10 := Aside0.mk hl10; have X810 := Lib.hid x8; have HF10 := Aside0.mk hf10; have HB10 := Aside0.mk (BX.out.trans ((show Below N0 w8 Y.drew from (BY.out.drew).mono (by have := BX.out.size; omega)).trans hb10)); have HKR := Lib.hid hk10; clear hl10 hf10 hb10 hk10 x6 x8 x12)
  (try dsimp only)
  refine hK.out _ _ ?_ (fun hHeld => ?_)
  · first | exact ⟨zY0, zY17, zY18, zY19, zY6⟩ | exact ⟨s0, s17, s18, s19, s6⟩
  clear hK K
  try simp only [Act.put, List.setIfInBounds_toArray, List.set_cons_zero, List.set_cons_succ]
  first | (refine wpAnyH_take (i := 20) (oi := ?o189) (v := ?v189) ?i189 (by kernel_rfl) (by kernel_rfl) (by kernel_rfl) ?q189 ?y189 (by assumption) ?r189; (case i189 => (simp only [List.getElem?_toArray, List.getElem?_cons_succ, List.getElem?_cons_zero]; rfl)); (case q189 => exact fun _ _ _ h => h); (case y189 => (refine Or.inl ⟨by rfl, ?_⟩; intro w hSw; (try dsimp only at hSw); go_simp; (try (with_reducible rfl))))) | (refine wpAnyH_take (i := 20) (oi := ?o190) (v := undef) ?i190 (by kernel_rfl) (by kernel_rfl) (by kernel_rfl) ?q190 ?y190 (by assumption) ?r190; (case i190 => (simp only [List.getElem?_toArray, List.getElem?_cons_succ, List.getElem?_cons_zero]; rfl)); (case q190 => exact fun _ _ _ h => h); (case y190 => exact Or.inr ⟨by rfl, rfl⟩))
  try simp only [Act.put, List.setIfInBounds_toArray, List.set_cons_zero, List.set_cons_succ]
  first | (refine wpAnyH_take (i := 21) (oi := ?o191) (v := ?v191) ?i191 (by kernel_rfl) (by kernel_rfl) (by kernel_rfl) ?q191 ?y191 (by assumption) ?r191; (case i191 => (simp only [List.getElem?_toArray, List.getElem?_cons_succ, List.getElem?_cons_zero]; rfl)); (case q191 => exact fun _ _ _ h => h); (case y191 => (refine Or.inl ⟨by rfl, ?_⟩; intro w hSw; (try dsimp only at hSw); go_simp; (try (with_reducible rfl))))) | (refine wpAnyH_take (i := 21) (oi := ?o192) (v := undef) ?i192 (by kernel_rfl) (by kernel_rfl) (by kernel_rfl) ?q192 ?y192 (by assumption) ?r192; (case i192 => (simp only [List.getElem?_toArray, List.getElem?_cons_succ, List.getElem?_cons_zero]; rfl)); (case q192 => exact fun _ _ _ h => h); (case y192 => exact Or.inr ⟨by rfl, rfl⟩))
  try simp only [Act.put, List.setIfInBounds_toArray, List.set_cons_zero, List.set_cons_succ]
  first | (refine wpAnyH_take (i := 22) (oi := ?o193) (v := ?v193) ?i193 (by kernel_rfl) (by kernel_rfl) (by kernel_rfl) ?q193 ?y193 (by assumption) ?r193; (case i193 => (simp only [List.getElem?_toArray, List.getElem?_cons_succ, List.getElem?_cons_zero]; rfl)); (case q193 => exact fun _ _ _ h => h); (case y193 => (refine Or.inl ⟨by rfl, ?_⟩; intro w hSw; (try dsimp only at hSw); go_simp; (try (with_reducible rfl))))) | (refine wpAnyH_take (i := 22) (oi := ?o194) (v := undef) ?i194 (by kernel_rfl) (by kernel_rfl) (by kernel_rfl) ?q194 ?y194 (by assumption) ?r194; (case i194 => (simp only [List.getElem?_toArray, List.getElem?_cons_succ, List.getElem?_cons_zero]; rfl)); (case q194 => exact fun _ _ _ h => h); (case y194 => exact Or.inr ⟨by rfl, rfl⟩))
  try simp only [Act.put, List.setIfInBounds_toArray, List.set_cons_zero, List.set_cons_succ]
  first | (refine wpAnyH_take (i := 23) (oi := ?o195) (v := ?v195) ?i195 (by kernel_rfl) (by kernel_rfl) (by kernel_rfl) ?q195 ?y195 (by assumption) ?r195; (case i195 => (simp only [List.getElem?_toArray, List.getElem?_cons_succ, List.getElem?_cons_zero]; rfl)); (case q195 => exact fun _ _ _ h => h); (case y195 => (refine Or.inl ⟨by rfl, ?_⟩; intro w hSw; (try dsimp only at hSw); go_simp; (try (with_reducible rfl))))) | (refine wpAnyH_take (i := 23) (oi := ?o196) (v := undef) ?i196 (by kernel_rfl) (by kernel_rfl) (by kernel_rfl) ?q196 ?y196 (by assumption) ?r196; (case i196 => (simp only [List.getElem?_toArray, List.getElem?_cons_succ, List.getElem?_cons_zero]; rfl)); (case q196 => exact fun _ _ _ h => h); (case y196 => exact Or.inr ⟨by rfl, rfl⟩))
  try simp only [Act.put, List.setIfInBounds_toArray, List.set_cons_zero, List.set_cons_succ]
  first | (refine wpAnyH_take (i := 24) (oi := ?o197) (v := ?v197) ?i197 (by kernel_rfl) (by kernel_rfl) (by kernel_rfl) ?q197 ?y197 (by assumption) ?r197; (case i197 => (simp only [List.getElem?_toArray, List.getElem?_cons_succ, List.getElem?_cons_zero]; rfl)); (case q197 => exact fun _ _ _ h => h); (case y197 => (refine Or.inl ⟨by rfl, ?_⟩; intro w hSw; (try dsimp only at hSw); go_simp; (try (with_reducible rfl))))) | (refine wpAnyH_take (i := 24) (oi := ?o198) (v := undef) ?i198 (by kernel_rfl) (by kernel_rfl) (by kernel_rfl) ?q198 ?y198 (by assumption) ?r198; (case i198 => (simp only [List.getElem?_toArray, List.getElem?_cons_succ, List.getElem?_cons_zero]; rfl)); (case q198 => exact fun _ _ _ h => h); (case y198 => exact Or.inr ⟨by rfl, rfl⟩))
  try simp only [Act.put, List.setIfInBounds_toArray, List.set_cons_zero, List.set_cons_succ]
  refine wpAnyH_done (by kernel_rfl) ?_ _
  go_wp2_with fail
  have HK10 := Lib.hid (show Kept (fun k => K k ∧ k ≠ q) w w10 from fun k hk => (HKR.out k (.inl (.inl (.inl hk.1)))).trans ((BY.out.block k (by have := HLT.out k hk.1; have := BX.out.size; omega)).trans (KX.out k hk)))
  have hl11 := HL10.out.setPg (1 + (k : Int))
  have hu11 := Upd.setCell w10 (p := ⟨q, 18, none⟩) (S := fun k => k = q) rfl (.int .i64 (1 + (k : Int)))
  have hf11 := hSt _ _ w10 _ q _ _ _ HF10.out (.inl (.inl (.inl hq))) HL10.out.blk hl11.blk (by decide) hu11
  have s10 := hF.size HF10.out
  have hb11 := HB10.out.trans (hu11.below s10 (fun k hk => by rw [hk]; exact hN))
  have x811 := (hu11.block (w.heap.size + 1) (blt X810.out) (fun e => nq3 e)).trans X810.out
  have hk11 : Kept (fun k => K k ∧ k ≠ q) w (w10.setCell ⟨q, 18, none⟩ (.int .i64 (1 + (k : Int)))) := fun k hk => (hu11.block k (hF.lt HF10.out k (.inl (.inl (.inl hk.1)))) hk.2).trans (HK10.out k hk)
  obtain ⟨w9, hw9⟩ : ∃ w9, w9 = ((w10.setCell ⟨q, 18, none⟩ (.int .i64 (1 + (k : Int)))).setCell ⟨w.heap.size + 1, 0, none⟩ (.int .i64 (m : Int))).setCell ⟨w.heap.size + 1, 1, none⟩ (.int .i64 1) := ⟨_, rfl⟩
  rw [← hw9]
  obtain ⟨r8, hf9, hl9, hb9, hk9⟩ := put_end hF hSt hf11 hl11 hq HLT.out hsz (Nat.le_succ _) x811 (.inl (.inl (.inr ⟨Nat.le_succ _, by omega⟩))) (fun k hk => .inl (.inl (.inl hk))) hb11 hk11 hw9
  have r0 := bcell r8 0
  have r1 := bcell r8 1
  exact bodyPost_ret (v := .tuple #[.agg #[.int .i64 (m : Int), .int .i64 1], .int .i64 0]) (by simp [results, Try.results101, go_sem, r0, r1]) rfl ⟨rfl, hf9, hl9, hb9, hk9⟩
end
end Go.Proofs.Ytmbiebdcnadhkaa.Fl

/- The document's log: its cells; Count and Seal walked. -/
namespace Go.Proofs.Ytmbiebdcnadhkaa.Fl
open Go.RowKit Go.Proofs.YtmbiebdcnadhkaaW.PrintWords Go.Proofs.YtmbiebdcnadhkaaW.PrintMore Go.Maps
set_option linter.unusedSimpArgs false
set_option linter.unusedVariables false
abbrev TRL : TypeId := 66
abbrev TNi : TypeId := 3
def rlogC (x t cap : Nat) (g : LG) : Array Value := #[.pointer (some ⟨x, 0, none⟩), .slice (some ⟨t, 0, none⟩) g.st.length cap, .int .i64 g.op, .int .i64 g.pg, .int .u64 g.nx]
/-- The document's log: a block r of five cells, its states a row t of their own. -/
structure RLog (r t x cap : Nat) (rest : List Value) (g : LG) (w : World) : Prop where
  blk : w.heap[r]? = some (.cells (rlogC x t cap g) TRL (0, 0))
  row : w.heap[t]? = some (.cells (g.st.map (fun x => Value.int .i64 x) ++ rest).toArray TNi (0, 0))
section
variable {r t x cap : Nat} {rest : List Value} {g : LG} {w w' : World}
theorem RLog.ne (h : RLog r t x cap rest g w) : r ≠ t := fun e => by
  have h1 := h.blk
  rw [e, h.row] at h1
  injection h1 with h1
  injection h1 with _ h1 _
  exact absurd h1 (by decide)
theorem RLog.step (h : RLog r t x cap rest g w) (hr : w'.heap[r]? = w.heap[r]?) (ht : w'.heap[t]? = w.heap[t]?) : RLog r t x cap rest g w' := ⟨hr.trans h.blk, ht.trans h.row⟩
theorem RLog.below (h : RLog r t x cap rest g w) (hb : Below w.heap.size w w') : RLog r t x cap rest g w' := h.step (hb.block _ (blt h.blk)) (hb.block _ (blt h.row))
theorem RLog.c0 (h : RLog r t x cap rest g w) : w.cell? ⟨r, 0, none⟩ = some (.pointer (some ⟨x, 0, none⟩)) := bcell h.blk 0
theorem RLog.c1 (h : RLog r t x cap rest g w) : w.cell? ⟨r, 1, none⟩ = some (.slice (some ⟨t, 0, none⟩) g.st.length cap) := bcell h.blk 1
theorem RLog.c2 (h : RLog r t x cap rest g w) : w.cell? ⟨r, 2, none⟩ = some (.int .i64 g.op) := bcell h.blk 2
theorem RLog.c3 (h : RLog r t x cap rest g w) : w.cell? ⟨r, 3, none⟩ = some (.int .i64 g.pg) := bcell h.blk 3
theorem RLog.c4 (h : RLog r t x cap rest g w) : w.cell? ⟨r, 4, none⟩ = some (.int .u64 g.nx) := bcell h.blk 4
theorem RLog.fr (h : RLog r t x cap rest g w) (j : Nat) : w.frozen? ⟨r, j, none⟩ = false := bfrozen h.blk _
theorem RLog.ft (h : RLog r t x cap rest g w) (j : Nat) : w.frozen? ⟨t, j, none⟩ = false := bfrozen h.row _
theorem RLog.cst (h : RLog r t x cap rest g w) {i : Nat} {y : Int} (hy : g.st[i]? = some y) : w.cell? ⟨t, i, none⟩ = some (.int .i64 y) := by
  have hl := (List.getElem?_eq_some_iff.1 hy).1
  rw [bcell h.row]
  simp only [List.getElem?_toArray]
  rw [List.getElem?_append_left (by simpa using hl), List.getElem?_map, hy]
  rfl
theorem RLog.setSt (h : RLog r t x cap rest g w) {i : Nat} (hi : i < g.st.length) (y : Int) : RLog r t x cap rest { g with st := g.st.set i y } (w.setCell ⟨t, i, none⟩ (.int .i64 y)) := by
  refine ⟨(Below.heap_setCell _ ⟨t, i, none⟩ _ r h.ne).trans (h.blk.trans ?_), (setCell_blk h.row _ _).trans ?_⟩
  · simp [rlogC]
  · congr 2
    simp only [List.setIfInBounds_toArray]
    congr 1
    rw [List.set_append_left _ _ (by simpa using hi), ← List.map_set]
theorem RLog.setOp (h : RLog r t x cap rest g w) (y : Int) : RLog r t x cap rest { g with op := y } (w.setCell ⟨r, 2, none⟩ (.int .i64 y)) :=
  ⟨(setCell_blk h.blk _ _).trans rfl, (Below.heap_setCell _ ⟨r, 2, none⟩ _ t (fun e => h.ne e.symm)).trans h.row⟩
theorem RLog.setPg (h : RLog r t x cap rest g w) (y : Int) : RLog r t x cap rest { g with pg := y } (w.setCell ⟨r, 3, none⟩ (.int .i64 y)) :=
  ⟨(setCell_blk h.blk _ _).trans rfl, (Below.heap_setCell _ ⟨r, 3, none⟩ _ t (fun e => h.ne e.symm)).trans h.row⟩
theorem RLog.setNx (h : RLog r t x cap rest g w) (y : Int) : RLog r t x cap rest { g with nx := y } (w.setCell ⟨r, 4, none⟩ (.int .u64 y)) :=
  ⟨(setCell_blk h.blk _ _).trans rfl, (Below.heap_setCell _ ⟨r, 4, none⟩ _ t (fun e => h.ne e.symm)).trans h.row⟩
def rsealG (g : LG) : LG := { st := if g.op < 0 then g.st else g.st.set g.op.toNat 2, op := -1, pg := 0, nx := g.nx }
set_option maxHeartbeats 1000000 in
set_option maxRecDepth 100000 in
theorem RSeal_any (h : RLog r t x cap rest g w) (ho : g.op < g.st.length) : Calls Try.prog 73 #[.pointer (some ⟨r, 0, none⟩)] w fun e w' => e = .returned (.tuple #[]) ∧ RLog r t x cap rest (rsealG g) w' ∧ ∃ w1 g1, RLog r t x cap rest g1 w1 ∧ Upd (fun k => k = t) w w1 ∧ Upd (fun k => k = r) w1 w' := by
  have k1 := h.c1
  have k2 := h.c2
  have k3 := h.c3
  have f2 := h.fr 2
  have f3 := h.fr 3
  by_cases h0 : g.op < 0
  · have e_o : decide (g.op ≥ 0) = false := decide_eq_false (by omega)
    have hs : rsealG g = { st := g.st, op := -1, pg := 0, nx := g.nx } := by unfold rsealG; rw [if_pos h0]
    rw [hs]
    have HL := Aside0.mk h
    clear h hs
    go_enter Try.func73, Try.ntmps73
    go_wp2_with fail
    go_end0
    exact ⟨rfl, (HL.out.setOp (-1)).setPg 0, w, g, HL.out, Upd.ofBelow (Below.refl _ _) _, (Upd.setCell w (p := ⟨r, 2, none⟩) (S := fun k => k = r) rfl _).trans (Upd.setCell _ (p := ⟨r, 3, none⟩) (S := fun k => k = r) rfl _) (fun k hk _ => hk)⟩
  · obtain ⟨n, hn⟩ := Int.eq_ofNat_of_zero_le (show 0 ≤ g.op by omega)
    have hs : rsealG g = { st := g.st.set n 2, op := -1, pg := 0, nx := g.nx } := by unfold rsealG; rw [if_neg h0, hn, Int.toNat_natCast]
    rw [hs]
    obtain ⟨m, hm⟩ : ∃ m, m = g.st.length := ⟨_, rfl⟩
    obtain ⟨y, hy⟩ : ∃ y, g.st[n]? = some y := ⟨_, List.getElem?_eq_getElem (by omega)⟩
    have c5 := h.cst hy
    have f5 := h.ft n
    have hni : n < g.st.length := by omega
    have n1 := h.ne
    have n2 : ¬ t = r := fun e => n1 e.symm
    rw [hn] at k2
    rw [← hm] at k1
    have q1 : (n : Int) < (m : Int) := by omega
    have q0 : (0 : Int) ≤ (n : Int) := by omega
    have e_o : decide ((n : Int) ≥ 0) = true := decide_eq_true (by omega)
    have HL := Aside0.mk h
    have HN := Lib.hid hni
    clear h hs hy hm hni hn h0 ho
    go_enter Try.func73, Try.ntmps73
    go_wp2_with fail
    go_region_held3 (fun w' => w'.cell? ⟨r, 1, none⟩ = some (.slice (some ⟨t, 0, none⟩) m cap) ∧ w'.cell? ⟨r, 2, none⟩ = some (.int .i64 (n : Int))) (go_keep) (fail)
    go_wp2_with fail
    go_end0
    have hu := (Upd.setCell (w.setCell ⟨t, n, none⟩ (.int .i64 2)) (p := ⟨r, 2, none⟩) (S := fun k => k = r) rfl (.int .i64 (-1))).trans (Upd.setCell _ (p := ⟨r, 3, none⟩) (S := fun k => k = r) rfl (.int .i64 0)) (fun k hk _ => hk)
    have hz := ((HL.out.setSt HN.out 2).setOp (-1)).setPg 0
    exact ⟨rfl, ⟨hz.blk, hz.row⟩, _, _, HL.out.setSt HN.out 2, Upd.setCell w (p := ⟨t, n, none⟩) (S := fun k => k = t) rfl (.int .i64 2), ⟨hu.os, hu.tape, hu.output, hu.size, hu.block⟩⟩
set_option maxHeartbeats 1000000 in
set_option maxRecDepth 100000 in
theorem RCount_any (h : RLog r t x cap rest g w) (hlen : g.st.length < 1000) (a : Int) : Calls Try.prog 32 #[.pointer (some ⟨r, 0, none⟩), .int .i64 a] w fun e w' => e = .returned (.int .i64 (cnt a g.st : Int)) ∧ Below w.heap.size w w' := by
  obtain ⟨n, hn⟩ : ∃ n, n = g.st.length := ⟨_, rfl⟩
  have k1 := h.c1
  have hc := fun (X : World) (hb : Below w.heap.size w X) (i : Nat) (x : Int) (hx : g.st[i]? = some x) => (h.below hb).cst hx
  have htk : g.st.take n = g.st := List.take_of_length_le (by omega)
  have HC := Lib.hid hc
  have HTK := Lib.hid htk
  have HN := Lib.hid hn
  have hm : n < 1000 := by omega
  rw [← hn] at k1
  clear hc h hn hlen htk
  go_enter Try.func32, Try.ntmps32
  go_wp2
  go_loopw [5, 13] (fun v5 v13 wr => ∃ k : Nat, k ≤ n ∧ v13 = .int .i64 (k : Int) ∧ v5 = .int .i64 (cnt a (g.st.take k) : Int) ∧ Below w.heap.size w wr) (fun _ v13 _ => n - (intOf v13).toNat)
  case atStart => exact ⟨0, Nat.zero_le _, rfl, rfl, Below.refl _ _⟩
  case round =>
    obtain ⟨k, hk, rfl, rfl, hb⟩ := hrel
    have HB := Aside0.mk hb
    clear hb
    have hcl := cnt_le a (g.st.take k)
    rw [List.length_take] at hcl
    by_cases hlt : k < n
    · obtain ⟨x, hx⟩ : ∃ x, g.st[k]? = some x := ⟨_, List.getElem?_eq_getElem (by have := HN.out; omega)⟩
      have hct := cnt_take (a := a) hx
      have c5 := HC.out _ HB.out k x hx
      have HCT := Lib.hid hct
      have k0 : (0 : Int) ≤ (k : Int) := by omega
      have k1 : (k : Int) < (n : Int) := by omega
      obtain ⟨cv, hcv⟩ : ∃ cv, cv = cnt a (g.st.take k) := ⟨_, rfl⟩
      rw [← hcv] at hcl ⊢
      have HCV := Lib.hid hcv
      clear hx hct hcv
      by_cases hxa : x = a
      · have e1 : (x == a) = true := by simpa using hxa
        have hxa2 := Lib.hid hxa
        clear hxa
        go_wp2
        exact ⟨⟨k + 1, by omega, by go_num, by rw [HCT.out, if_pos hxa2.out, ← HCV.out]; go_num, HB.out⟩, by simp [intOf]; omega⟩
      · have e1 : (x == a) = false := by simpa using hxa
        have hxa2 := Lib.hid hxa
        clear hxa
        go_wp2
        exact ⟨⟨k + 1, by omega, by go_num, by rw [HCT.out, if_neg hxa2.out, ← HCV.out]; rfl, HB.out⟩, by simp [intOf]; omega⟩
    · obtain rfl : k = n := by omega
      go_wp2
      go_ret
      exact ⟨by rw [HTK.out]; rfl, HB.out⟩
end
end Go.Proofs.Ytmbiebdcnadhkaa.Fl

/- The document's log: Erase over any frame: walked. -/
namespace Go.Proofs.Ytmbiebdcnadhkaa.Fl
open Go.RowKit Go.Proofs.YtmbiebdcnadhkaaW.PrintWords Go.Proofs.YtmbiebdcnadhkaaW.PrintMore Go.Maps
set_option linter.unusedSimpArgs false
set_option linter.unusedVariables false
def rEraseE (g : LG) (a : Int) : Int := if a < 0 ∨ (g.st.length : Int) ≤ a then 6 else if g.st.getD a.toNat 0 = 1 then 1 else 0
def rEraseG (g : LG) (a : Int) : LG := if rEraseE g a = 0 then { g with st := g.st.set a.toNat 0 } else g
def rEraseP (ps : List Pg) (g : LG) (a : Int) : List Pg := if rEraseE g a = 0 then eraseP a ps else ps
section
variable {N0 x r t cap : Nat} {rest : List Value} {s : Int × Int × Int} {G : (Nat → Prop) → List Pg → World → Prop} {K : Nat → Prop} {ps : List Pg} {g : LG} {w : World}
set_option maxHeartbeats 1000000 in
set_option maxRecDepth 100000 in
theorem RLErase_G (hG : RefFrame N0 x s G) (hSt : ∀ ps, Stays (fun K w => G K ps w)) (h : G K ps w) (hl : RLog r t x cap rest g w) (hr : K r) (ht : K t) (hN : N0 ≤ t) (hlen : g.st.length < 1000) (hpl : ps.length < 1000000) (a : Int) : Calls Try.prog 71 #[.pointer (some ⟨r, 0, none⟩), .int .i64 a] w fun e w' => e = .returned (.int .i64 (rEraseE g a)) ∧ G K (rEraseP ps g a) w' ∧ RLog r t x cap rest (rEraseG g a) w' ∧ Below N0 w w' ∧ Kept (fun k => K k ∧ k ≠ r ∧ k ≠ t) w w' := by
  have k0 := hl.c0
  have k1 := hl.c1
  have hsz := hG.size h
  obtain ⟨m, hm⟩ : ∃ m, m = g.st.length := ⟨_, rfl⟩
  have HL := Aside0.mk hl
  have HFR := Aside0.mk h
  have HM := Lib.hid hm
  by_cases hout : a < 0 ∨ (g.st.length : Int) ≤ a
  · have he : rEraseE g a = 6 := by unfold rEraseE; rw [if_pos hout]
    have h1 : rEraseP ps g a = ps := by unfold rEraseP; rw [he]; rfl
    have h2 : rEraseG g a = g := by unfold rEraseG; rw [he]; rfl
    rw [he, h1, h2]
    rw [← hm] at hout k1 hlen
    by_cases h0 : a < 0
    · have e_o : decide (a < 0) = true := decide_eq_true h0
      clear h hl hm he h1 h2 hout
      go_enter Try.func71, Try.ntmps71
      go_wp2_with fail
      go_ret
      exact ⟨rfl, HFR.out, HL.out, Below.refl _ _, fun k _ => rfl⟩
    · have e_o : decide (a < 0) = false := decide_eq_false h0
      have e_1 : decide (a ≥ (m : Int)) = true := decide_eq_true (by omega)
      clear h hl hm he h1 h2 hout
      go_enter Try.func71, Try.ntmps71
      go_wp2_with fail
      go_ret
      exact ⟨rfl, HFR.out, HL.out, Below.refl _ _, fun k _ => rfl⟩
  · have ha0 : ¬ a < 0 := fun h => hout (.inl h)
    have ha1 : ¬ (m : Int) ≤ a := fun h => hout (.inr (by rw [← hm]; exact h))
    obtain ⟨n, rfl⟩ := Int.eq_ofNat_of_zero_le (show 0 ≤ a by omega)
    obtain ⟨y, hy⟩ : ∃ y, g.st[n]? = some y := ⟨_, List.getElem?_eq_getElem (by omega)⟩
    have hyv : g.st.getD (n : Int).toNat 0 = y := by rw [Int.toNat_natCast, List.getD_eq_getElem?_getD, hy]; rfl
    have hev : rEraseE g (n : Int) = if y = 1 then 1 else 0 := by unfold rEraseE; rw [if_neg hout, hyv]
    have c5 := hl.cst hy
    have e_o : decide ((n : Int) < 0) = false := decide_eq_false (by omega)
    have e_1 : decide ((n : Int) ≥ (m : Int)) = false := decide_eq_false (by omega)
    have q0 : (0 : Int) ≤ (n : Int) := by omega
    have q1 : (n : Int) < (m : Int) := by omega
    have hni : n < g.st.length := by omega
    have HNI := Lib.hid hni
    rw [← hm] at k1 hlen
    by_cases hy1 : y = 1
    · have he : rEraseE g (n : Int) = 1 := by rw [hev, if_pos hy1]
      have h1 : rEraseP ps g (n : Int) = ps := by unfold rEraseP; rw [he]; rfl
      have h2 : rEraseG g (n : Int) = g := by unfold rEraseG; rw [he]; rfl
      have e1 : (y == 1) = true := by simpa using hy1
      rw [he, h1, h2]
      clear h hl hm he h1 h2 hout hev hy hyv hy1 ha0 ha1 hni
      go_enter Try.func71, Try.ntmps71
      go_wp2_with fail
      go_ret
      exact ⟨rfl, HFR.out, HL.out, Below.refl _ _, fun k _ => rfl⟩
    · have he : rEraseE g (n : Int) = 0 := by rw [hev, if_neg hy1]
      have h1 : rEraseP ps g (n : Int) = eraseP (n : Int) ps := by unfold rEraseP; rw [he]; rfl
      have h2 : rEraseG g (n : Int) = { g with st := g.st.set n 0 } := by unfold rEraseG; rw [he]; rfl
      have e1 : (y == 1) = false := by simpa using hy1
      rw [he, h1, h2]
      have her := hG.upd h (fun ok hX => RErase_any hX hpl (n : Int))
      have HER := Lib.hid her
      have HY := Lib.hid hy
      clear h hl hm he h1 h2 hout hev hy hyv hy1 ha0 ha1 hni her
      go_enter Try.func71, Try.ntmps71
      go_wp2_with (go_at_call 80; (with_reducible refine HER.out.mono ?_); rintro e w3 ⟨rfl, hf3, hb, hk⟩; have hl3 : RLog r t x cap rest g w3 := HL.out.step (hk r hr) (hk t ht); have z1 := hl3.c1; (rw [← HM.out] at z1); have z5 := hl3.cst HY.out; have z3 := hl3.ft n; have HL3 := Aside0.mk hl3; have HF3 := Aside0.mk hf3; have HB3 := Aside0.mk hb; have HK3 := Lib.hid hk; clear hl3 hf3 hb hk k0 k1 c5)
      go_ret
      have hz := HL3.out.setSt HNI.out 0
      have hu := Upd.setCell w3 (p := ⟨t, n, none⟩) (S := fun k => k = t) rfl (.int .i64 0)
      exact ⟨rfl, hSt _ K _ _ t _ _ _ HF3.out ht HL3.out.row hz.row (by decide) hu, hz, HB3.out.trans (hu.below (hG.size HF3.out) (fun k hk => by rw [hk]; exact hN)), fun k hk => (hu.block k (hG.lt HF3.out k hk.1) hk.2.2).trans (HK3.out k hk.1)⟩
end
end Go.Proofs.Ytmbiebdcnadhkaa.Fl

