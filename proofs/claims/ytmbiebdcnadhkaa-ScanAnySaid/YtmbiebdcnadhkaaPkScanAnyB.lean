/- The parts of this proof, one after the other (wip/tools/packfl.py). -/
import Derived.Test.YtmbiebdcnadhkaaPkScanAnyA
import Derived.Test.YtmbiebdcnadhkaaProg
import Derived.Lib.SlBytesConst
import Derived.WalkKit
import Derived.DataElems
import Derived.WalkSpells
import Derived.WalkLawsBesides
import Derived.Test.YtmbiebdcnadhkaaPkScanAnyV
import Derived.Below
import Derived.Deep.Draws
import Derived.Deep.AppendLies
import Derived.Maps.AppendAt
import Derived.OwnWalk
import Derived.Laws.BytesArg
import Derived.Laws.MakeOwn
import Derived.Laws.OwnMore
import Derived.Deep.OwnRows
import Derived.Tactics
import Derived.Lib.ConvBytes
import Derived.Laws.Slices
import Derived.KernelRfl
import Derived.RowKit3
import Derived.Deep.LoopGhost
import Derived.Deep.QuietTactic
import Derived.BigQuiet
import Derived.WideLaws
import Derived.Deep.DeepCutAuto
import Derived.Deep.CutBlock
import Derived.Deep.RegionHeld3
import Derived.Laws.Rows
import Derived.Lib.AppendStr
import Derived.ArgAppend
import Derived.Laws.IdiomCopy
import Derived.OrdersHeld
import Derived.Laws.BitsLemmas
import Derived.RowKit
import Derived.Test.YtmbiebdcnadhkaaWWords
import Derived.Test.YtmbiebdcnadhkaaWLast
import Derived.Test.YtmbiebdcnadhkaaWTab
import Derived.IntWalk
/- The two devices side by side in one memory: each call on one leaves the other. -/
namespace Go.Proofs.Ytmbiebdcnadhkaa.Fl
open Go.RowKit Go.Proofs.YtmbiebdcnadhkaaW.PrintWords Go.Proofs.YtmbiebdcnadhkaaW.PrintMore Go.Maps
set_option linter.unusedSimpArgs false
set_option linter.unusedVariables false
/-- The two in one memory, all above N0, no block of the one a block of the other. -/
def Two (K : Nat → Prop) (N0 p x : Nat) (D : PD) (s : Int × Int × Int) (ps : List Pg) (w : World) : Prop :=
  ∃ okD okX : Nat → Prop, DevIs N0 p D okD w ∧ RefIs N0 x s ps okX w ∧ (∀ k, okD k → okX k → False) ∧ (∀ k, okD k → N0 ≤ k) ∧ (∀ k, okX k → N0 ≤ k) ∧ N0 ≤ w.heap.size ∧ (∀ k, K k → k < w.heap.size ∧ (¬ okD k ∧ ¬ okX k ∨ ∃ cs fr, w.heap[k]? = some (.cells cs TB fr)))
def Kept (K : Nat → Prop) (w w' : World) : Prop := ∀ k, K k → w'.heap[k]? = w.heap[k]?
section
variable {K : Nat → Prop} {N0 p x : Nat} {D D' : PD} {s : Int × Int × Int} {ps ps' : List Pg} {w w' : World} {f : FuncId} {args : Array Value} {res : Ending}
theorem upd_below {ok : Nat → Prop} (hu : Upd (Mut ok w) w w') (h0 : N0 ≤ w.heap.size) (hk : ∀ k, ok k → N0 ≤ k) : Below N0 w w' := hu.below h0 (fun k h => hk k h.1)
theorem Two.size (h : Two K N0 p x D s ps w) : N0 ≤ w.heap.size := by
  obtain ⟨okD, okX, hD, hX, hd, h1, h2, h0, hK⟩ := h
  exact h0
end
end Go.Proofs.Ytmbiebdcnadhkaa.Fl

/- Few: walked. No condition. -/
namespace Go.Proofs.Ytmbiebdcnadhkaa.Fl
open Go.RowKit Go.Proofs.YtmbiebdcnadhkaaW.PrintWords Go.Proofs.YtmbiebdcnadhkaaW.PrintMore Go.Maps
set_option linter.unusedSimpArgs false
set_option linter.unusedVariables false
end Go.Proofs.Ytmbiebdcnadhkaa.Fl

/- All that a device holds are bytes, whatever is done to it. No program in sight. -/
namespace Go.Proofs.Ytmbiebdcnadhkaa.Fl
set_option linter.unusedSimpArgs false
set_option linter.unusedVariables false
def Byt (l : List Int) : Prop := ∀ x ∈ l, 0 ≤ x ∧ x ≤ 255
def BytP (ps : List Pg) : Prop := ∀ q ∈ ps, Byt q.2.1
theorem Byt.nil : Byt [] := fun _ h => by cases h
theorem Byt.append {a b : List Int} (h : Byt a) (k : Byt b) : Byt (a ++ b) := fun x hx => (List.mem_append.1 hx).elim (h x) (k x)
theorem Byt.take {a : List Int} (h : Byt a) (n : Nat) : Byt (a.take n) := fun x hx => h x (List.mem_of_mem_take hx)
theorem Byt.drop {a : List Int} (h : Byt a) (n : Nat) : Byt (a.drop n) := fun x hx => h x (List.mem_of_mem_drop hx)
theorem Byt.full {n : Nat} {l : List Int} (h : Byt l) : Byt (full n l) := Byt.append h (fun x hx => by rw [List.eq_of_mem_replicate hx]; omega)
theorem BytP.write {s : Int × Int × Int} {ps : List Pg} (h : BytP ps) (a b : Int) {l : List Int} (hl : Byt l) : BytP (rwP s ps a b l) := by
  unfold rwP
  split
  · intro q hq
    rcases List.mem_append.1 hq with hq | hq
    · exact h q hq
    · rw [List.mem_singleton.1 hq]
      exact Byt.full hl
  · exact h
end Go.Proofs.Ytmbiebdcnadhkaa.Fl

/- Made: walked. No condition. -/
namespace Go.Proofs.Ytmbiebdcnadhkaa.Fl
open Go.RowKit Go.Proofs.YtmbiebdcnadhkaaW.PrintWords Go.Proofs.YtmbiebdcnadhkaaW.PrintMore Go.Maps
set_option linter.unusedSimpArgs false
set_option linter.unusedVariables false
theorem rwP_len (s : Int × Int × Int) (ps : List Pg) (a b : Int) (l : List Int) : (rwP s ps a b l).length ≤ ps.length + 1 := by
  unfold rwP
  split <;> simp
end Go.Proofs.Ytmbiebdcnadhkaa.Fl

/- Like: walked. No condition. -/
namespace Go.Proofs.Ytmbiebdcnadhkaa.Fl
open Go.RowKit Go.Proofs.YtmbiebdcnadhkaaW.PrintWords Go.Proofs.YtmbiebdcnadhkaaW.PrintMore Go.Maps
set_option linter.unusedSimpArgs false
set_option linter.unusedVariables false
section
variable {K : Nat → Prop} {N0 p x : Nat} {D : PD} {s : Int × Int × Int} {ps : List Pg} {w : World}
theorem Two.used (h : Two K N0 p x D s ps w) (a b : Int) : Calls Try.prog 58 #[.pointer (some ⟨p, 0, none⟩), .int .i64 a, .int .i64 b] w fun e w' => e = .returned (.bool (usedB D a b)) ∧ w = w' := by
  obtain ⟨okD, okX, hD, hX, _⟩ := h
  exact Used_any hD a b
end
end Go.Proofs.Ytmbiebdcnadhkaa.Fl

/- frame.Pad: walked. No condition. -/
namespace Go.Proofs.Ytmbiebdcnadhkaa.Fl
open Go.RowKit Go.Proofs.YtmbiebdcnadhkaaW.PrintWords Go.Proofs.YtmbiebdcnadhkaaW.PrintMore Go.Maps
set_option linter.unusedSimpArgs false
set_option linter.unusedVariables false
/-- Bytes in pages of n, the last one filled up. -/
def padL (n : Nat) (bs : List Int) : List (List Int) := if h : bs = [] ∨ n = 0 then [] else full n (bs.take n) :: padL n (bs.drop n)
termination_by bs.length
decreasing_by
  have h1 : bs ≠ [] := fun e => h (.inl e)
  have h2 : n ≠ 0 := fun e => h (.inr e)
  have h3 : 0 < bs.length := List.length_pos_iff.2 h1
  simp only [List.length_drop]
  omega
theorem padL_nil (n : Nat) : padL n [] = [] := by rw [padL]; simp
theorem padL_cons {n : Nat} {bs : List Int} (h0 : 0 < bs.length) (hn : 1 ≤ n) : padL n bs = full n (bs.take n) :: padL n (bs.drop n) := by
  rw [padL, dif_neg]
  rintro (h | h)
  · rw [h] at h0; simp at h0
  · omega
def sliceLen (v : Value) : Nat := match v with | .slice _ l _ => l | _ => 0
theorem info_row : (Try.prog.info? 36).map (fun i => (i.zero, i.size, i.bytes)) = some (some (.slice none 0 0), 1, 24) := by kernel_rfl
attribute [local go_sem] min_two min2_int
section
variable {w : World} {A : Option Addr} {c : Nat} {bs : List Int}
theorem pad_row {w wr w2 : World} {g n N : Nat} {cur : List Value} {b : List Int} (hb : Below N w wr) (hg : wr.heap.size ≤ g) (h3 : cur.take n = ff n) (h4 : n ≤ cur.length) (h5 : w2.heap[g]? = some (.cells (splice cur 0 (b.map (Value.int .u8))).toArray TB (0, 0))) (hn : b.length ≤ n) (hl : n < 1000000 := by omega) (hN : N ≤ wr.heap.size := by omega) :
    kData.M w2 N (fun k => wr.heap.size ≤ k) (full n b) [.slice (some ⟨g, 0, none⟩) n n] := by
  obtain ⟨h5', h6⟩ := splice_full h4 h3 hn
  refine ⟨_, rfl, some ⟨g, 0, none⟩, n, ?_, ?_, ?_, .inr ⟨g, 0, _, rfl, Nat.le_trans hN hg, hg, h5, h6⟩⟩
  · rw [full_length hn]
  · rw [full_length hn]; exact Nat.le_refl _
  · rw [full_length hn]; omega
theorem pad_own {N : Nat} {W : World} {v : Value} {rows : List (List Int)} {ok : Nat → Prop} (h : kData.R 36 W N ok v rows) : ∀ k, v.ownBlock = some k → k < W.heap.size := by
  intro k hk
  obtain ⟨h0, inner, ho, _⟩ := h
  rcases ho.2 with ⟨rfl, _⟩ | ⟨g, cap, cur, rfl, _, hh, _⟩
  · cases hk
  · have : g = k := by simpa [Value.ownBlock] using hk
    rw [← this]
    exact blt hh
theorem data_cell {W : World} {B : Option Addr} {k : Nat} {rows : List (List Int)} {i : Nat} {row : List Int} (h : kData.C W B k rows) (hi : rows[i]? = some row) : ∃ ad A1 c1, B = some ad ∧ W.cell? (ad.add i) = some (.slice A1 row.length c1) ∧ row.length ≤ c1 ∧ kB.C W A1 row.length row := by
  have hl := (List.getElem?_eq_some_iff.1 hi).1
  have hn := h.1
  obtain ⟨ad, e, hcell⟩ := h.2.2 (by omega)
  obtain ⟨cs, _, h1, h3⟩ := hcell i row hi
  obtain ⟨A1, c1, rfl, h4, h5⟩ := h1
  refine ⟨ad, A1, c1, e, ?_, h4, h5⟩
  have := h3 0 _ rfl
  rw [show i * kData.sz = i from Nat.mul_one i] at this
  simpa using this
set_option maxHeartbeats 2000000 in
set_option maxRecDepth 100000 in
theorem Pad_any (h : kB.C w A bs.length bs) (hc : bs.length ≤ c) (hl : bs.length < 1000000) (n : Nat) (h1 : 1 ≤ n) (h2 : n ≤ 4096) :
    Calls Try.prog 57 #[.slice A bs.length c, .int .i64 (n : Int)] w fun e w' => ∃ v, e = .returned v ∧ kData.R 36 w' w.heap.size (fun k => w.heap.size ≤ k) v (padL n bs) ∧ Below w.heap.size w w' := by
  have hf := Fits_any (n : Int) 1 4096 w
  rw [show fitsB (n : Int) 1 4096 = true by simp [fitsB]; omega] at hf
  obtain ⟨L, hL⟩ : ∃ L, L = bs.length := ⟨_, rfl⟩
  have HF := Lib.hid hf
  have HC := Aside0.mk h
  have HL := Lib.hid hL
  rw [← hL] at hc hl
  rw [← hL]
  clear hf h hL
  go_enter Try.func57, Try.ntmps57
  go_wp2_with (go_at_call 59; (with_reducible refine HF.out.mono ?_); rintro e w' ⟨rfl, rfl⟩)
  go_loopw [0, 5] (fun v0 v5 wr => ∃ (A' : Option Addr) (c' : Nat) (cs : List Int) (rows : List (List Int)), v0 = .slice A' cs.length c' ∧ cs.length ≤ c' ∧ kB.C w A' cs.length cs ∧ rows.length + cs.length ≤ L ∧ rows ++ padL n cs = padL n bs ∧ kData.R 36 wr w.heap.size (fun k => w.heap.size ≤ k) v5 rows ∧ Below w.heap.size w wr) (fun v0 _ _ => sliceLen v0)
  case atStart => exact ⟨A, c, bs, [], by rw [HL.out], by have := HL.out; omega, HC.out, by have := HL.out; simp; omega, rfl, Kd.R_nil _ _ _ _ _, Below.refl _ _⟩
  case round =>
    obtain ⟨A', c', cs, rows, rfl, hcc, hC, hrl, hpad, hR, hb⟩ := hrel
    obtain ⟨q, hq⟩ : ∃ q, q = cs.length := ⟨_, rfl⟩
    have HQ := Lib.hid hq
    have HCC := Lib.hid hcc
    have HCR := Aside0.mk hC
    have HRL := Lib.hid hrl
    have HPAD := Lib.hid hpad
    have HR := Aside0.mk hR
    have HB := Aside0.mk hb
    rw [← hq] at hcc hrl
    rw [← hq]
    clear hC hpad hR hb hq
    obtain ⟨A5, c5, rfl⟩ := Kd.R_slice HR.out
    by_cases h0 : q = 0
    · subst h0
      have hnil : cs = [] := List.eq_nil_of_length_eq_zero HQ.out.symm
      have hp := HPAD.out
      rw [hnil, padL_nil, List.append_nil] at hp
      have HP := Lib.hid hp
      clear hnil hp
      go_wp2
      go_ret
      exact ⟨_, rfl, by rw [← HP.out]; exact HR.out, HB.out⟩
    · have q0 : (0 : Int) < (q : Int) := by omega
      obtain ⟨ad, hA, hca⟩ := C_cells HCR.out (by have := HQ.out; omega)
      subst hA
      by_cases hqn : q < n
      · obtain ⟨m, rfl⟩ : ∃ m, m = q := ⟨_, rfl⟩
        have hm1 : 1 ≤ m := by omega
        have hm3 : m ≤ n := by omega
        have htk : cs.take m = cs.take n := by rw [HQ.out, List.take_length, List.take_of_length_le (by have := HQ.out; omega)]
        have hdr : cs.drop m = cs.drop n := by rw [HQ.out, List.drop_length, List.drop_eq_nil_of_le (by have := HQ.out; omega)]
        by_cases hcm : c' = m
        · have htl : (cs.take m).length = m := by rw [List.length_take]; have := HQ.out; omega
          have hpl := padL_cons (n := n) (bs := cs) (by have := HQ.out; omega) h1
          rw [← htk, ← hdr] at hpl
          have HM := Lib.hid (show ((cs.take m).map (Value.int .u8)).length = Nat.min m n by rw [List.length_map, htl]; exact (Nat.min_eq_left hm3).symm)
          have HTL := Lib.hid htl
          have HPL := Lib.hid hpl
          have i0 : (0 : Int) ≤ (m : Int) := by omega
          skip
          have i3 : (m : Int) ≤ (c' : Int) := by omega
          have HA : Hid ((wr.alloc (.cells #[.int .u8 255] TB)).cell? ⟨wr.heap.size, 0, none⟩ = some (.int .u8 255)) := Lib.hid (by rw [bcell (blk_new wr _)]; rfl)
          have htc := fun (W : World) (hW : Below wr.heap.size wr W) => C_cells (Kd.C_below (Kd.C_take HCR.out (show m ≤ cs.length by have := HQ.out; omega)) (HB.out.trans (hW.mono HB.out.size))) (by rw [htl]; omega)
          have HTC := Lib.hid htc
          have hdc := Kd.C_drop (m := m) (c := c') HCR.out (by have := HQ.out; omega) HCC.out
          have hz : m * kB.sz = m := Nat.mul_one m
          rw [hz, if_pos hcm] at hdc
          have HDC := Lib.hid hdc
          have hdl : (cs.drop m).length = m - m := by rw [List.length_drop, HQ.out]
          have HDL := Lib.hid hdl
          have hro := fun k hk => pad_own HR.out k hk
          have HRO := Lib.hid hro
          clear htl htk hdr hpl hca htc hdc hz hdl hro
          go_wp2_with (first
            | (go_at_call 99; (with_reducible refine (Repeat_any _ n _ HA.out (by omega) (by omega)).mono ?_); rintro e w1 ⟨g, cur, rfl, hg1, hg2, hg3, hg4, hb1⟩; have G1 : Hid (wr.heap.size ≤ g) := Lib.hid (by simp at hg1; omega); have G2 := Lib.hid hg2; have G3 := Lib.hid hg3; have G4 := Lib.hid hg4; have HB1 : Aside0 (Below wr.heap.size wr w1) := Aside0.mk ((below_alloc (Below.refl _ _) _).trans (hb1.mono (by simp))); clear hg1 hg2 hg3 hg4 hb1 HA)
            | ((with_reducible refine gate_builtin (b := .copy) rfl ?_); refine wpList_copy_splice rfl (.tmp 21) (.tmp 24) 36 36 rfl TB Try.underlying36 size_u8 _ _ _ _ _ _ rfl rfl g 0 cur TB G2.out ((cs.take m).map (Value.int .u8)) HM.out (fun h0 => ⟨rfl, HTC.out _ HB1.out⟩) (by simp only [Nat.zero_add]; rw [HM.out]; exact Nat.le_trans (Nat.min_le_right m n) G4.out) (u8_one _) wr.heap.size wr HB1.out G1.out ?_; intro w2 hg2 hb2; have G5 := hg2; have HB2 := Aside0.mk hb2; clear hg2 hb2)
            | (at_builtin; refine Kd.R_append kData (w0 := w) w.heap.size rfl (.tmp 26) (.tmp 28) 109 36 (.slice none 0 0) 24 rfl Try.underlying109 info_row rfl (by decide) (by decide) (.slice A5 rows.length c5) rows (full n (cs.take m)) [.slice (some ⟨g, 0, none⟩) n n] (fun j => w.heap.size ≤ j) (fun k => wr.heap.size ≤ k) rfl (by simp [Act.eval]) (pad_row HB.out G1.out G3.out G4.out G5.out (by rw [HTL.out]; omega) (by omega) HB.out.size) (fun k hk => ⟨Nat.le_trans HB.out.size hk, fun e => by have := HRO.out k e.symm; omega⟩) (fun i hi => Nat.le_trans HB.out.size (Nat.le_trans HB2.out.size hi)) (Kd.R_below HR.out HB2.out) (HB.out.trans (HB2.out.mono HB.out.size)) (Nat.le_trans HB.out.size HB2.out.size) (by have := HRL.out; omega) ?_; intro v1 w3 hr1 hb3 _ _; have HR1 := Aside0.mk hr1; have HB3 := Aside0.mk hb3; clear hr1 hb3))
          have hpd : (rows ++ [full n (cs.take m)]) ++ padL n (cs.drop m) = padL n bs := by
            rw [List.append_assoc]
            show rows ++ (full n (cs.take m) :: padL n (cs.drop m)) = _
            rw [← HPL.out, HPAD.out]
          exact ⟨⟨_, c' - m, cs.drop m, rows ++ [full n (cs.take m)], by rw [HDL.out]; simp [hcm], by rw [HDL.out]; omega, HDC.out, by rw [HDL.out]; have := HRL.out; have := HQ.out; simp; omega, hpd, HR1.out, HB3.out⟩, by simp [sliceLen]; omega⟩
        · have htl : (cs.take m).length = m := by rw [List.length_take]; have := HQ.out; omega
          have hpl := padL_cons (n := n) (bs := cs) (by have := HQ.out; omega) h1
          rw [← htk, ← hdr] at hpl
          have HM := Lib.hid (show ((cs.take m).map (Value.int .u8)).length = Nat.min m n by rw [List.length_map, htl]; exact (Nat.min_eq_left hm3).symm)
          have HTL := Lib.hid htl
          have HPL := Lib.hid hpl
          have i0 : (0 : Int) ≤ (m : Int) := by omega
          skip
          have i3 : (m : Int) ≤ (c' : Int) := by omega
          have HA : Hid ((wr.alloc (.cells #[.int .u8 255] TB)).cell? ⟨wr.heap.size, 0, none⟩ = some (.int .u8 255)) := Lib.hid (by rw [bcell (blk_new wr _)]; rfl)
          have htc := fun (W : World) (hW : Below wr.heap.size wr W) => C_cells (Kd.C_below (Kd.C_take HCR.out (show m ≤ cs.length by have := HQ.out; omega)) (HB.out.trans (hW.mono HB.out.size))) (by rw [htl]; omega)
          have HTC := Lib.hid htc
          have hdc := Kd.C_drop (m := m) (c := c') HCR.out (by have := HQ.out; omega) HCC.out
          have hz : m * kB.sz = m := Nat.mul_one m
          rw [hz, if_neg hcm] at hdc
          have HDC := Lib.hid hdc
          have hdl : (cs.drop m).length = m - m := by rw [List.length_drop, HQ.out]
          have HDL := Lib.hid hdl
          have hro := fun k hk => pad_own HR.out k hk
          have HRO := Lib.hid hro
          clear htl htk hdr hpl hca htc hdc hz hdl hro
          go_wp2_with (first
            | (go_at_call 99; (with_reducible refine (Repeat_any _ n _ HA.out (by omega) (by omega)).mono ?_); rintro e w1 ⟨g, cur, rfl, hg1, hg2, hg3, hg4, hb1⟩; have G1 : Hid (wr.heap.size ≤ g) := Lib.hid (by simp at hg1; omega); have G2 := Lib.hid hg2; have G3 := Lib.hid hg3; have G4 := Lib.hid hg4; have HB1 : Aside0 (Below wr.heap.size wr w1) := Aside0.mk ((below_alloc (Below.refl _ _) _).trans (hb1.mono (by simp))); clear hg1 hg2 hg3 hg4 hb1 HA)
            | ((with_reducible refine gate_builtin (b := .copy) rfl ?_); refine wpList_copy_splice rfl (.tmp 21) (.tmp 24) 36 36 rfl TB Try.underlying36 size_u8 _ _ _ _ _ _ rfl rfl g 0 cur TB G2.out ((cs.take m).map (Value.int .u8)) HM.out (fun h0 => ⟨rfl, HTC.out _ HB1.out⟩) (by simp only [Nat.zero_add]; rw [HM.out]; exact Nat.le_trans (Nat.min_le_right m n) G4.out) (u8_one _) wr.heap.size wr HB1.out G1.out ?_; intro w2 hg2 hb2; have G5 := hg2; have HB2 := Aside0.mk hb2; clear hg2 hb2)
            | (at_builtin; refine Kd.R_append kData (w0 := w) w.heap.size rfl (.tmp 26) (.tmp 28) 109 36 (.slice none 0 0) 24 rfl Try.underlying109 info_row rfl (by decide) (by decide) (.slice A5 rows.length c5) rows (full n (cs.take m)) [.slice (some ⟨g, 0, none⟩) n n] (fun j => w.heap.size ≤ j) (fun k => wr.heap.size ≤ k) rfl (by simp [Act.eval]) (pad_row HB.out G1.out G3.out G4.out G5.out (by rw [HTL.out]; omega) (by omega) HB.out.size) (fun k hk => ⟨Nat.le_trans HB.out.size hk, fun e => by have := HRO.out k e.symm; omega⟩) (fun i hi => Nat.le_trans HB.out.size (Nat.le_trans HB2.out.size hi)) (Kd.R_below HR.out HB2.out) (HB.out.trans (HB2.out.mono HB.out.size)) (Nat.le_trans HB.out.size HB2.out.size) (by have := HRL.out; omega) ?_; intro v1 w3 hr1 hb3 _ _; have HR1 := Aside0.mk hr1; have HB3 := Aside0.mk hb3; clear hr1 hb3))
          have hpd : (rows ++ [full n (cs.take m)]) ++ padL n (cs.drop m) = padL n bs := by
            rw [List.append_assoc]
            show rows ++ (full n (cs.take m) :: padL n (cs.drop m)) = _
            rw [← HPL.out, HPAD.out]
          exact ⟨⟨_, c' - m, cs.drop m, rows ++ [full n (cs.take m)], by rw [HDL.out]; simp [hcm], by rw [HDL.out]; omega, HDC.out, by rw [HDL.out]; have := HRL.out; have := HQ.out; simp; omega, hpd, HR1.out, HB3.out⟩, by simp [sliceLen]; omega⟩
      · obtain ⟨m, rfl⟩ : ∃ m, m = n := ⟨_, rfl⟩
        have hm1 : 1 ≤ m := by omega
        have hm3 : m ≤ m := Nat.le_refl _
        have htk : cs.take m = cs.take m := rfl
        have hdr : cs.drop m = cs.drop m := rfl
        by_cases hcm : c' = m
        · have htl : (cs.take m).length = m := by rw [List.length_take]; have := HQ.out; omega
          have hpl := padL_cons (n := m) (bs := cs) (by have := HQ.out; omega) h1
          skip
          have HM := Lib.hid (show ((cs.take m).map (Value.int .u8)).length = Nat.min m m by rw [List.length_map, htl]; exact (Nat.min_eq_left hm3).symm)
          have HTL := Lib.hid htl
          have HPL := Lib.hid hpl
          have i0 : (0 : Int) ≤ (m : Int) := by omega
          have i1 : (m : Int) ≤ (q : Int) := by omega
          have i2 : (q : Int) ≤ (c' : Int) := by omega
          have i3 : (m : Int) ≤ (c' : Int) := by omega
          have HA : Hid ((wr.alloc (.cells #[.int .u8 255] TB)).cell? ⟨wr.heap.size, 0, none⟩ = some (.int .u8 255)) := Lib.hid (by rw [bcell (blk_new wr _)]; rfl)
          have htc := fun (W : World) (hW : Below wr.heap.size wr W) => C_cells (Kd.C_below (Kd.C_take HCR.out (show m ≤ cs.length by have := HQ.out; omega)) (HB.out.trans (hW.mono HB.out.size))) (by rw [htl]; omega)
          have HTC := Lib.hid htc
          have hdc := Kd.C_drop (m := m) (c := c') HCR.out (by have := HQ.out; omega) HCC.out
          have hz : m * kB.sz = m := Nat.mul_one m
          rw [hz, if_pos hcm] at hdc
          have HDC := Lib.hid hdc
          have hdl : (cs.drop m).length = q - m := by rw [List.length_drop, HQ.out]
          have HDL := Lib.hid hdl
          have hro := fun k hk => pad_own HR.out k hk
          have HRO := Lib.hid hro
          clear htl htk hdr hpl hca htc hdc hz hdl hro
          go_wp2_with (first
            | (go_at_call 99; (with_reducible refine (Repeat_any _ m _ HA.out (by omega) (by omega)).mono ?_); rintro e w1 ⟨g, cur, rfl, hg1, hg2, hg3, hg4, hb1⟩; have G1 : Hid (wr.heap.size ≤ g) := Lib.hid (by simp at hg1; omega); have G2 := Lib.hid hg2; have G3 := Lib.hid hg3; have G4 := Lib.hid hg4; have HB1 : Aside0 (Below wr.heap.size wr w1) := Aside0.mk ((below_alloc (Below.refl _ _) _).trans (hb1.mono (by simp))); clear hg1 hg2 hg3 hg4 hb1 HA)
            | ((with_reducible refine gate_builtin (b := .copy) rfl ?_); refine wpList_copy_splice rfl (.tmp 21) (.tmp 24) 36 36 rfl TB Try.underlying36 size_u8 _ _ _ _ _ _ rfl rfl g 0 cur TB G2.out ((cs.take m).map (Value.int .u8)) HM.out (fun h0 => ⟨rfl, HTC.out _ HB1.out⟩) (by simp only [Nat.zero_add]; rw [HM.out]; exact Nat.le_trans (Nat.min_le_right m m) G4.out) (u8_one _) wr.heap.size wr HB1.out G1.out ?_; intro w2 hg2 hb2; have G5 := hg2; have HB2 := Aside0.mk hb2; clear hg2 hb2)
            | (at_builtin; refine Kd.R_append kData (w0 := w) w.heap.size rfl (.tmp 26) (.tmp 28) 109 36 (.slice none 0 0) 24 rfl Try.underlying109 info_row rfl (by decide) (by decide) (.slice A5 rows.length c5) rows (full m (cs.take m)) [.slice (some ⟨g, 0, none⟩) m m] (fun j => w.heap.size ≤ j) (fun k => wr.heap.size ≤ k) rfl (by simp [Act.eval]) (pad_row HB.out G1.out G3.out G4.out G5.out (by rw [HTL.out]; omega) (by omega) HB.out.size) (fun k hk => ⟨Nat.le_trans HB.out.size hk, fun e => by have := HRO.out k e.symm; omega⟩) (fun i hi => Nat.le_trans HB.out.size (Nat.le_trans HB2.out.size hi)) (Kd.R_below HR.out HB2.out) (HB.out.trans (HB2.out.mono HB.out.size)) (Nat.le_trans HB.out.size HB2.out.size) (by have := HRL.out; omega) ?_; intro v1 w3 hr1 hb3 _ _; have HR1 := Aside0.mk hr1; have HB3 := Aside0.mk hb3; clear hr1 hb3))
          have hpd : (rows ++ [full m (cs.take m)]) ++ padL m (cs.drop m) = padL m bs := by
            rw [List.append_assoc]
            show rows ++ (full m (cs.take m) :: padL m (cs.drop m)) = _
            rw [← HPL.out, HPAD.out]
          exact ⟨⟨_, c' - m, cs.drop m, rows ++ [full m (cs.take m)], by rw [HDL.out]; simp [hcm], by rw [HDL.out]; omega, HDC.out, by rw [HDL.out]; have := HRL.out; have := HQ.out; simp; omega, hpd, HR1.out, HB3.out⟩, by simp [sliceLen]; omega⟩
        · have htl : (cs.take m).length = m := by rw [List.length_take]; have := HQ.out; omega
          have hpl := padL_cons (n := m) (bs := cs) (by have := HQ.out; omega) h1
          skip
          have HM := Lib.hid (show ((cs.take m).map (Value.int .u8)).length = Nat.min m m by rw [List.length_map, htl]; exact (Nat.min_eq_left hm3).symm)
          have HTL := Lib.hid htl
          have HPL := Lib.hid hpl
          have i0 : (0 : Int) ≤ (m : Int) := by omega
          have i1 : (m : Int) ≤ (q : Int) := by omega
          have i2 : (q : Int) ≤ (c' : Int) := by omega
          have i3 : (m : Int) ≤ (c' : Int) := by omega
          have HA : Hid ((wr.alloc (.cells #[.int .u8 255] TB)).cell? ⟨wr.heap.size, 0, none⟩ = some (.int .u8 255)) := Lib.hid (by rw [bcell (blk_new wr _)]; rfl)
          have htc := fun (W : World) (hW : Below wr.heap.size wr W) => C_cells (Kd.C_below (Kd.C_take HCR.out (show m ≤ cs.length by have := HQ.out; omega)) (HB.out.trans (hW.mono HB.out.size))) (by rw [htl]; omega)
          have HTC := Lib.hid htc
          have hdc := Kd.C_drop (m := m) (c := c') HCR.out (by have := HQ.out; omega) HCC.out
          have hz : m * kB.sz = m := Nat.mul_one m
          rw [hz, if_neg hcm] at hdc
          have HDC := Lib.hid hdc
          have hdl : (cs.drop m).length = q - m := by rw [List.length_drop, HQ.out]
          have HDL := Lib.hid hdl
          have hro := fun k hk => pad_own HR.out k hk
          have HRO := Lib.hid hro
          clear htl htk hdr hpl hca htc hdc hz hdl hro
          go_wp2_with (first
            | (go_at_call 99; (with_reducible refine (Repeat_any _ m _ HA.out (by omega) (by omega)).mono ?_); rintro e w1 ⟨g, cur, rfl, hg1, hg2, hg3, hg4, hb1⟩; have G1 : Hid (wr.heap.size ≤ g) := Lib.hid (by simp at hg1; omega); have G2 := Lib.hid hg2; have G3 := Lib.hid hg3; have G4 := Lib.hid hg4; have HB1 : Aside0 (Below wr.heap.size wr w1) := Aside0.mk ((below_alloc (Below.refl _ _) _).trans (hb1.mono (by simp))); clear hg1 hg2 hg3 hg4 hb1 HA)
            | ((with_reducible refine gate_builtin (b := .copy) rfl ?_); refine wpList_copy_splice rfl (.tmp 21) (.tmp 24) 36 36 rfl TB Try.underlying36 size_u8 _ _ _ _ _ _ rfl rfl g 0 cur TB G2.out ((cs.take m).map (Value.int .u8)) HM.out (fun h0 => ⟨rfl, HTC.out _ HB1.out⟩) (by simp only [Nat.zero_add]; rw [HM.out]; exact Nat.le_trans (Nat.min_le_right m m) G4.out) (u8_one _) wr.heap.size wr HB1.out G1.out ?_; intro w2 hg2 hb2; have G5 := hg2; have HB2 := Aside0.mk hb2; clear hg2 hb2)
            | (at_builtin; refine Kd.R_append kData (w0 := w) w.heap.size rfl (.tmp 26) (.tmp 28) 109 36 (.slice none 0 0) 24 rfl Try.underlying109 info_row rfl (by decide) (by decide) (.slice A5 rows.length c5) rows (full m (cs.take m)) [.slice (some ⟨g, 0, none⟩) m m] (fun j => w.heap.size ≤ j) (fun k => wr.heap.size ≤ k) rfl (by simp [Act.eval]) (pad_row HB.out G1.out G3.out G4.out G5.out (by rw [HTL.out]; omega) (by omega) HB.out.size) (fun k hk => ⟨Nat.le_trans HB.out.size hk, fun e => by have := HRO.out k e.symm; omega⟩) (fun i hi => Nat.le_trans HB.out.size (Nat.le_trans HB2.out.size hi)) (Kd.R_below HR.out HB2.out) (HB.out.trans (HB2.out.mono HB.out.size)) (Nat.le_trans HB.out.size HB2.out.size) (by have := HRL.out; omega) ?_; intro v1 w3 hr1 hb3 _ _; have HR1 := Aside0.mk hr1; have HB3 := Aside0.mk hb3; clear hr1 hb3))
          have hpd : (rows ++ [full m (cs.take m)]) ++ padL m (cs.drop m) = padL m bs := by
            rw [List.append_assoc]
            show rows ++ (full m (cs.take m) :: padL m (cs.drop m)) = _
            rw [← HPL.out, HPAD.out]
          exact ⟨⟨_, c' - m, cs.drop m, rows ++ [full m (cs.take m)], by rw [HDL.out]; simp [hcm], by rw [HDL.out]; omega, HDC.out, by rw [HDL.out]; have := HRL.out; have := HQ.out; simp; omega, hpd, HR1.out, HB3.out⟩, by simp [sliceLen]; omega⟩
end
theorem padL_len {n : Nat} (hn : 1 ≤ n) : ∀ (k : Nat) (bs : List Int), bs.length ≤ k → (padL n bs).length = (bs.length + n - 1) / n
  | 0, bs, h => by
    have : bs = [] := List.eq_nil_of_length_eq_zero (by omega)
    rw [this, padL_nil]
    simp
    exact (Nat.div_eq_of_lt (by omega)).symm
  | k + 1, bs, h => by
    by_cases h0 : 0 < bs.length
    · rw [padL_cons h0 hn, List.length_cons, padL_len hn k (bs.drop n) (by rw [List.length_drop]; omega), List.length_drop]
      by_cases h1 : n ≤ bs.length
      · rw [show bs.length + n - 1 = (bs.length - n + n - 1) + n by omega, Nat.add_div_right _ (by omega)]
      · rw [show bs.length - n + n - 1 = n - 1 by omega, Nat.div_eq_of_lt (show n - 1 < n by omega), show bs.length + n - 1 = bs.length - 1 + n by omega, Nat.add_div_right _ (by omega), Nat.div_eq_of_lt (show bs.length - 1 < n by omega)]
    · have : bs = [] := List.eq_nil_of_length_eq_zero (by omega)
      rw [this, padL_nil]
      simp
      exact (Nat.div_eq_of_lt (by omega)).symm
end Go.Proofs.Ytmbiebdcnadhkaa.Fl

/- A record in pages: what is written of it, and where; the driver's device and the document's stay together. No program in sight. -/
namespace Go.Proofs.Ytmbiebdcnadhkaa.Fl
set_option linter.unusedSimpArgs false
set_option linter.unusedVariables false
/-- Bytes in parts of n. -/
def chunkL (n : Nat) (bs : List Int) : List (List Int) := if h : bs = [] ∨ n = 0 then [] else bs.take n :: chunkL n (bs.drop n)
termination_by bs.length
decreasing_by
  have h1 : bs ≠ [] := fun e => h (.inl e)
  have h2 : n ≠ 0 := fun e => h (.inr e)
  have h3 : 0 < bs.length := List.length_pos_iff.2 h1
  simp only [List.length_drop]
  omega
theorem chunkL_nil (n : Nat) : chunkL n [] = [] := by rw [chunkL]; simp
theorem chunkL_cons {n : Nat} {bs : List Int} (h0 : 0 < bs.length) (hn : 1 ≤ n) : chunkL n bs = bs.take n :: chunkL n (bs.drop n) := by
  rw [chunkL, dif_neg]
  rintro (h | h)
  · rw [h] at h0; simp at h0
  · omega
theorem padL_chunk {n : Nat} (hn : 1 ≤ n) : ∀ (k : Nat) (bs : List Int), bs.length ≤ k → padL n bs = (chunkL n bs).map (full n)
  | 0, bs, h => by
    have : bs = [] := List.eq_nil_of_length_eq_zero (by omega)
    rw [this, padL_nil, chunkL_nil]
    rfl
  | k + 1, bs, h => by
    by_cases h0 : 0 < bs.length
    · rw [padL_cons h0 hn, chunkL_cons h0 hn, padL_chunk hn k (bs.drop n) (by rw [List.length_drop]; omega)]
      rfl
    · have : bs = [] := List.eq_nil_of_length_eq_zero (by omega)
      rw [this, padL_nil, chunkL_nil]
      rfl
theorem padL_chunks {n : Nat} (hn : 1 ≤ n) (bs : List Int) : padL n bs = (chunkL n bs).map (full n) := padL_chunk hn _ bs (Nat.le_refl _)
theorem chunk_len {n : Nat} (hn : 1 ≤ n) (bs : List Int) : (chunkL n bs).length = (bs.length + n - 1) / n := by
  have := padL_len hn bs.length bs (Nat.le_refl _)
  rw [padL_chunks hn, List.length_map] at this
  exact this
theorem chunk_get {n : Nat} (hn : 1 ≤ n) : ∀ (i : Nat) (bs row : List Int), (chunkL n bs)[i]? = some row → i * n < bs.length ∧ row = (bs.drop (i * n)).take n
  | 0, bs, row, h => by
    by_cases h0 : 0 < bs.length
    · rw [chunkL_cons h0 hn] at h
      simp at h
      exact ⟨by omega, by rw [← h]; simp⟩
    · have : bs = [] := List.eq_nil_of_length_eq_zero (by omega)
      rw [this, chunkL_nil] at h
      cases h
  | i + 1, bs, row, h => by
    by_cases h0 : 0 < bs.length
    · rw [chunkL_cons h0 hn, List.getElem?_cons_succ] at h
      obtain ⟨h1, h2⟩ := chunk_get hn i (bs.drop n) row h
      rw [List.length_drop] at h1
      rw [List.drop_drop] at h2
      have e : (i + 1) * n = n + i * n := by rw [Nat.succ_mul, Nat.add_comm]
      exact ⟨by omega, by rw [e]; exact h2⟩
    · have : bs = [] := List.eq_nil_of_length_eq_zero (by omega)
      rw [this, chunkL_nil] at h
      cases h
/-- Rows written one page behind the other. -/
def wrD (a b : Int) : List (List Int) → PD → PD
  | [], D => D
  | r :: rs, D => wrD a (b + 1) rs (writeD D a b r)
def wrP (s : Int × Int × Int) (a b : Int) : List (List Int) → List Pg → List Pg
  | [], ps => ps
  | r :: rs, ps => wrP s a (b + 1) rs (rwP s ps a b r)
theorem wrD_snoc (a : Int) (r : List Int) : ∀ (rs : List (List Int)) (b : Int) (D : PD), wrD a b (rs ++ [r]) D = writeD (wrD a b rs D) a (b + rs.length) r
  | [], b, D => by simp [wrD]
  | q :: rs, b, D => by
    show wrD a (b + 1) (rs ++ [r]) (writeD D a b q) = _
    rw [wrD_snoc a r rs]
    show writeD (wrD a (b + 1) rs _) a (b + 1 + rs.length) r = writeD (wrD a (b + 1) rs _) a (b + ((rs.length + 1 : Nat) : Int)) r
    rw [show b + 1 + (rs.length : Int) = b + ((rs.length + 1 : Nat) : Int) by omega]
theorem writeD_s (D : PD) (a b : Int) (l : List Int) : (writeD D a b l).s = D.s := by
  unfold writeD
  split <;> rfl
theorem wrD_s (a : Int) : ∀ (rs : List (List Int)) (b : Int) (D : PD), (wrD a b rs D).s = D.s
  | [], _, _ => rfl
  | r :: rs, b, D => by
    show (wrD a (b + 1) rs (writeD D a b r)).s = D.s
    rw [wrD_s a rs, writeD_s]
theorem full_full {n : Nat} {l : List Int} (h : l.length ≤ n) : full n (full n l) = full n l := full_self (full_length h)
theorem writeD_full {D : PD} {a b : Int} {l : List Int} (hs : 0 ≤ D.s.2.2) (h : l.length ≤ D.s.2.2.toNat) : writeD D a b (full D.s.2.2.toNat l) = writeD D a b l := by
  have h1 : (full D.s.2.2.toNat l).length = D.s.2.2.toNat := full_length h
  have he : writeE D a b (full D.s.2.2.toNat l) = writeE D a b l := by
    unfold writeE
    rw [h1]
    have e1 : ¬ D.s.2.2 < ((D.s.2.2.toNat : Nat) : Int) := by omega
    have e2 : ¬ D.s.2.2 < (l.length : Int) := by omega
    rw [if_neg e1, if_neg e2]
  unfold writeD
  rw [he]
  unfold numB
  rw [full_full h]
variable {D : PD} {s : Int × Int × Int} {ps : List Pg}
theorem Sim.wr (a : Int) : ∀ (rs : List (List Int)) (b : Int) (D : PD) (ps : List Pg), Sim D s ps → Sim (wrD a b rs D) s (wrP s a b rs ps)
  | [], _, _, _, h => h
  | r :: rs, b, D, ps, h => Sim.wr a rs (b + 1) _ _ (h.write a b r)
theorem BytP.wr (a : Int) : ∀ (rs : List (List Int)) (b : Int) (ps : List Pg), BytP ps → (∀ r ∈ rs, Byt r) → BytP (wrP s a b rs ps)
  | [], _, _, h, _ => h
  | r :: rs, b, ps, h, k => BytP.wr a rs (b + 1) _ (h.write a b (k r (by simp))) (fun q hq => k q (by simp [hq]))
theorem wrP_len (s : Int × Int × Int) (a : Int) : ∀ (rs : List (List Int)) (b : Int) (ps : List Pg), (wrP s a b rs ps).length ≤ ps.length + rs.length
  | [], _, _ => Nat.le_refl _
  | r :: rs, b, ps => by
    have h1 := wrP_len s a rs (b + 1) (rwP s ps a b r)
    have h2 := rwP_len s ps a b r
    show (wrP s a (b + 1) rs (rwP s ps a b r)).length ≤ _
    rw [List.length_cons]
    omega
theorem chunk_byt {n : Nat} (hn : 1 ≤ n) {bs : List Int} (h : Byt bs) : ∀ r ∈ chunkL n bs, Byt r := fun r hr => by
  obtain ⟨i, hi, e⟩ := List.getElem_of_mem hr
  obtain ⟨_, h2⟩ := chunk_get hn i bs r (by rw [← e, List.getElem?_eq_getElem hi])
  rw [h2]
  exact (h.drop _).take _
theorem chunk_le {n : Nat} (hn : 1 ≤ n) {bs : List Int} : ∀ r ∈ chunkL n bs, r.length ≤ n := fun r hr => by
  obtain ⟨i, hi, e⟩ := List.getElem_of_mem hr
  obtain ⟨_, h2⟩ := chunk_get hn i bs r (by rw [← e, List.getElem?_eq_getElem hi])
  rw [h2, List.length_take]
  omega
/-! ### A record put -/
/-- How many pages a record of so many bytes takes. -/
def kpg (s : Int × Int × Int) (n : Nat) : Nat := (n + 16 + s.2.2.toNat - 1) / s.2.2.toNat
def anyUsed (a b : Int) (k : Nat) (ps : List Pg) : Bool := (List.range k).any (fun i => decide (0 ≤ findI a (b + (i : Int)) ps))
def appR (s : Int × Int × Int) (ps : List Pg) (a b : Int) (n : Nat) : Int × Int :=
  if hasB s a b = false then (0, 6) else if 4096 < n then (0, 10) else if s.2.1 < b + (kpg s n : Int) then (0, 5) else if anyUsed a b (kpg s n) ps = true then (0, 7) else ((kpg s n : Int), 0)
def appP (s : Int × Int × Int) (ps : List Pg) (a b : Int) (n : Nat) (bs : List Int) : List Pg := if (appR s ps a b n).2 = 0 then wrP s a b (chunkL s.2.2.toNat bs) ps else ps
def anyUsedD (a b : Int) (k : Nat) (D : PD) : Bool := (List.range k).any (fun i => usedB D a (b + (i : Int)))
def appE (D : PD) (a b : Int) (n : Nat) : Int × Int :=
  if hasB D.s a b = false then (0, 6) else if 4096 < n then (0, 10) else if D.s.2.1 < b + (kpg D.s n : Int) then (0, 5) else if anyUsedD a b (kpg D.s n) D = true then (0, 7) else ((kpg D.s n : Int), 0)
def appD (D : PD) (a b : Int) (n : Nat) (bs : List Int) : PD := if (appE D a b n).2 = 0 then wrD a b (chunkL D.s.2.2.toNat bs) D else D
theorem Sim.appE (h : Sim D s ps) (a b : Int) (n : Nat) : Fl.appE D a b n = appR s ps a b n := by
  unfold Fl.appE appR
  have hu : anyUsedD a b (kpg D.s n) D = anyUsed a b (kpg s n) ps := by
    unfold anyUsedD anyUsed
    rw [h.sh]
    congr 1
    funext i
    exact h.used _ _
  rw [hu, h.sh]
theorem Sim.app (h : Sim D s ps) (a b : Int) (n : Nat) (bs : List Int) : Sim (appD D a b n bs) s (appP s ps a b n bs) := by
  unfold appD appP
  rw [h.appE, h.sh]
  split
  · exact Sim.wr a _ b D ps h
  · exact h
end Go.Proofs.Ytmbiebdcnadhkaa.Fl

/- Small facts for walks by hand, beside the printed ones. -/
namespace Go.Proofs.Ytmbiebdcnadhkaa.Hand
open Go.RowKit Go.Proofs.YtmbiebdcnadhkaaW.PrintWords

/-- The cell of an element. -/
theorem C_cell {k : IntKind} {w : World} {A : Option Addr} {n : Nat} {l : List Int} (h : (Kd.int k).C w A n l) (i : Nat) (hi : i < n) :
    ∃ ad, A = some ad ∧ w.cell? (ad.add i) = some (.int k (rd l (i : Int))) := by
  have h' := (Kd.reads_of_C (d := (0 : Int)) h).at_ (i : Int) (by omega) (by omega)
  simpa [rdOf, rd] using h'
theorem C_take {α : Type} {d : Kd α} {w : World} {A : Option Addr} {n : Nat} {l : List α} (h : d.C w A n l) (i : Nat) (hi : i ≤ n) : d.C w A i (l.take i) := by
  obtain ⟨h1, h2, h3⟩ := h
  refine ⟨by rw [List.length_take]; omega, by omega, fun hp => ?_⟩
  obtain ⟨ad, e, hc⟩ := h3 (by omega)
  refine ⟨ad, e, fun j p hj => hc j p ?_⟩
  rw [List.getElem?_take] at hj
  split at hj
  · exact hj
  · cases hj
theorem C_drop {α : Type} {d : Kd α} {w : World} {A : Option Addr} {n : Nat} {l : List α} (h : d.C w A n l) (i : Nat) (hi : i ≤ n) (B : Option Addr) (hB : i < n → B = A.map (·.add (i * d.sz))) : d.C w B (n - i) (l.drop i) := by
  obtain ⟨h1, h2, h3⟩ := h
  refine ⟨by rw [List.length_drop]; omega, by omega, fun hp => ?_⟩
  obtain ⟨ad, e, hc⟩ := h3 (by omega)
  refine ⟨ad.add (i * d.sz), by rw [hB (by omega), e]; rfl, fun j p hj => ?_⟩
  rw [List.getElem?_drop] at hj
  obtain ⟨c, q1, q2, q3⟩ := hc (i + j) p hj
  refine ⟨c, q1, q2, fun x u hx => ?_⟩
  have := q3 x u hx
  rw [Nat.add_mul] at this
  have e2 : (ad.add (i * d.sz)).add (j * d.sz + x) = ad.add (i * d.sz + j * d.sz + x) := by
    rw [Addr.add_add, Nat.add_assoc]
  rw [e2]
  exact this
/-- 'xs[i:]' as the walk spells it. -/
theorem C_drop1 {k : IntKind} {w : World} {A : Option Addr} {n cap : Nat} {l : List Int} (h : (Kd.int k).C w A n l) (i : Nat) (hi : i ≤ n) (hc : n ≤ cap) :
    (Kd.int k).C w (if cap = i then A else Option.map (fun x => x.add i) A) (n - i) (l.drop i) :=
  C_drop h i hi _ (fun hlt => by rw [if_neg (by omega), show i * (Kd.int k).sz = i from Nat.mul_one i])
theorem block_cell {w : World} {g : Nat} {cs : Array Value} {t : TypeId} {fr : Nat × Nat} (h : w.heap[g]? = some (.cells cs t fr)) (i : Nat) : w.cell? ⟨g, i, none⟩ = cs[i]? := by
  unfold World.cell?
  simp [h]
theorem block_frozen {w : World} {g : Nat} {cs : Array Value} {t : TypeId} (h : w.heap[g]? = some (.cells cs t (0, 0))) (i : Nat) : w.frozen? ⟨g, i, none⟩ = false := by
  unfold World.frozen?
  simp [h]
theorem alloc_at (w : World) (o : Obj) : (w.alloc o).heap[w.heap.size]? = some o := by
  show (w.heap.push o)[w.heap.size]? = some o
  simp
theorem bcell {W w1 : World} (hb : Below W.heap.size W w1) : (∀ b o, b < W.heap.size → w1.cell? ⟨b, o, none⟩ = W.cell? ⟨b, o, none⟩) ∧ (∀ b o, b < W.heap.size → w1.frozen? ⟨b, o, none⟩ = W.frozen? ⟨b, o, none⟩) :=
  ⟨fun b o h => hb.cell (p := ⟨b, o, none⟩) h, fun b o h => hb.frozen (p := ⟨b, o, none⟩) h⟩
end Go.Proofs.Ytmbiebdcnadhkaa.Hand

/- Clone, Grow and Concat of bytes, walked. -/
namespace Go.Proofs.Ytmbiebdcnadhkaa.Hand
open Go.RowKit Go.Proofs.YtmbiebdcnadhkaaW.PrintWords Go.Proofs.YtmbiebdcnadhkaaW.PrintLast Go.Proofs.YtmbiebdcnadhkaaW.PrintMore
theorem info_u8 : (Try.prog.info? 5).map (fun i => (i.zero, i.size, i.bytes)) = some (some (.int .u8 0), 1, 1) := by kernel_rfl
set_option maxHeartbeats 400000 in
set_option maxRecDepth 100000 in
theorem grow_any (n : Int) (w : World) (h0 : 0 < n) (hl : n ≤ 140737488355328) :
    Calls Try.prog 137 #[.slice none 0 0, .int .i64 n] w fun e w' => ∃ v0_ : Value, e = .returned (v0_) ∧ Kd.R (Kd.int .u8) 5 w' w.heap.size (fun _ => True) v0_ ([] : List Int) ∧ Below w.heap.size w w' := by
  have HB := Aside0.mk (Below.refl w.heap.size w)
  have h1 : 0 ≤ n := by omega
  have h2 : n ≤ 9223372036854775807 := by omega
  go_enter Try.func137, Try.ntmps137
  go_wp2_with (first | (at_builtin; refine Kd.R_append_zeros (Kd.int .u8) (w0 := w) w.heap.size rfl (.tmp 20) (.tmp 21) 36 3 5 (.int .u8 0) 1 rfl Try.underlying36 Try.underlying3 info_u8 rfl (by decide) (by decide) (.slice none 0 0) [] (0 : Int) n (fun _ => True) rfl rfl (by rfl) (fun _ _ => trivial) (Kd.R_nil _ _ _ _ _) h1 HB.out HB.out.size (by simp; omega) ?_; intro v1 w1 ho hb hg hat; clear hg hat; obtain ⟨A1, c1, e1⟩ := Kd.R_slice ho; subst e1; have HO := Aside0.mk (Kd.R_take ho (Nat.zero_le _)); have HB1 := Aside0.mk hb; clear ho hb))
  go_ret
  exact ⟨_, rfl, HO.out, HB1.out⟩

set_option maxHeartbeats 1000000 in
set_option maxRecDepth 100000 in
theorem concat_any (g : Nat) (A B : Option Addr) (ca cb : Nat) (a b : List Int) (w : World) (h0 : w.cell? ⟨g, 0, none⟩ = some (.slice A a.length ca)) (h1 : w.cell? ⟨g, 1, none⟩ = some (.slice B b.length cb))
    (hA : Kd.C (Kd.int .u8) w A a.length a) (hB : Kd.C (Kd.int .u8) w B b.length b) (hp : 0 < a.length + b.length) (hl : a.length + b.length ≤ 1000000) :
    Calls Try.prog 118 #[.slice (some ⟨g, 0, none⟩) 2 2] w fun e w' => ∃ v0_ : Value, e = .returned (v0_) ∧ Kd.R (Kd.int .u8) 5 w' w.heap.size (fun _ => True) v0_ (a ++ b) ∧ Below w.heap.size w w' := by
  have HA := Aside0.mk hA
  have HB := Aside0.mk hB
  have HB0 := Aside0.mk (Below.refl w.heap.size w)
  clear hA hB
  have hla : (a.length : Int) ≤ 1000000 := by omega
  have hlb : (b.length : Int) ≤ 1000000 := by omega
  go_enter Try.func118, Try.ntmps118
  go_wp2
  go_loop [3, 11] (fun v3 v11 => ∃ k : Nat, k ≤ 2 ∧ v11 = .int .i64 (k : Int) ∧ v3 = .int .i64 (if k = 0 then 0 else if k = 1 then (a.length : Int) else (a.length : Int) + (b.length : Int))) (fun _ v11 => 2 - (intOf v11).toNat)
  case atStart => exact ⟨0, by omega, rfl, rfl⟩
  case round =>
    obtain ⟨k, hk, rfl, rfl⟩ := hrel
    match k, hk with
    | 0, _ =>
      go_wp2
      go_round
      case rel => exact ⟨1, by omega, rfl, rfl⟩
      case measure => simp [intOf]
    | 1, _ =>
      go_wp2
      go_round
      case rel => exact ⟨2, by omega, rfl, by simp⟩
      case measure => simp [intOf]
    | 2, _ =>
      have hpos : (0 : Int) < (a.length : Int) + (b.length : Int) := by omega
      go_wp2_with (first | (go_at_call 137; refine (grow_any _ _ hpos (by omega)).mono ?_; rintro e w1 ⟨v1, rfl, ho, hb⟩; have HO1 := Aside0.mk ho; have HB1 := Aside0.mk hb; clear ho hb))
      have c0 : w1.cell? ⟨g, 0, none⟩ = some (.slice A a.length ca) := by rw [HB1.out.cell (World.block_lt_of_cell? w _ h0)]; exact h0
      have c1 : w1.cell? ⟨g, 1, none⟩ = some (.slice B b.length cb) := by rw [HB1.out.cell (World.block_lt_of_cell? w _ h1)]; exact h1
      have hg := World.block_lt_of_cell? w _ h0
      clear h0 h1
      go_loopw [6, 27] (fun v6 v27 wr => ∃ (k : Nat) (v : Value), k ≤ 2 ∧ v27 = .int .i64 (k : Int) ∧ v = v6 ∧ Below w.heap.size w wr ∧ Kd.R (Kd.int .u8) 5 wr w.heap.size (fun _ => True) v (if k = 0 then [] else if k = 1 then a else a ++ b)) (fun _ v27 _ => 2 - (intOf v27).toNat)
      case atStart => exact ⟨0, _, by omega, rfl, rfl, HB1.out, HO1.out⟩
      case round =>
        obtain ⟨k, v, hk, rfl, rfl, hb2, ho2⟩ := hrel
        have HB2 := Aside0.mk hb2
        have d0 : wr.cell? ⟨g, 0, none⟩ = some (.slice A a.length ca) := by rw [hb2.cell (p := ⟨g, 0, none⟩) hg, ← HB1.out.cell (p := ⟨g, 0, none⟩) hg, c0]
        have d1 : wr.cell? ⟨g, 1, none⟩ = some (.slice B b.length cb) := by rw [hb2.cell (p := ⟨g, 1, none⟩) hg, ← HB1.out.cell (p := ⟨g, 1, none⟩) hg, c1]
        clear c0 c1 hb2
        match k, hk with
        | 0, _ =>
          have HO2 : Aside0 (Kd.R (Kd.int .u8) 5 wr w.heap.size (fun _ => True) v ([] : List Int)) := Aside0.mk ho2
          clear ho2
          go_wp2_with (first | (at_builtin; refine Kd.R_append_row (Value.int .u8) (0 : Int) (w0 := w) w.heap.size rfl (.tmp 31) (.tmp 32) 36 5 (.int .u8 0) 1 rfl Try.underlying36 info_u8 rfl (by decide) v [] a A a.length ca (fun _ => True) rfl rfl (fun _ _ => trivial) HO2.out (Kd.C_below HA.out HB2.out) HB2.out HB2.out.size (by simp; omega) ?_; intro v2 w2 ho3 hb3 hg3 hat3; clear hg3 hat3; have HO3 := Aside0.mk ho3; have HB3 := Aside0.mk hb3; clear ho3 hb3))
          go_roundw
          case rel => exact ⟨1, _, by omega, rfl, rfl, HB3.out, HO3.out⟩
          case measure => simp [intOf]
        | 1, _ =>
          have HO2 : Aside0 (Kd.R (Kd.int .u8) 5 wr w.heap.size (fun _ => True) v a) := Aside0.mk ho2
          clear ho2
          go_wp2_with (first | (at_builtin; refine Kd.R_append_row (Value.int .u8) (0 : Int) (w0 := w) w.heap.size rfl (.tmp 31) (.tmp 32) 36 5 (.int .u8 0) 1 rfl Try.underlying36 info_u8 rfl (by decide) v a b B b.length cb (fun _ => True) rfl rfl (fun _ _ => trivial) HO2.out (Kd.C_below HB.out HB2.out) HB2.out HB2.out.size (by simp; omega) ?_; intro v2 w2 ho3 hb3 hg3 hat3; clear hg3 hat3; have HO3 := Aside0.mk ho3; have HB3 := Aside0.mk hb3; clear ho3 hb3))
          go_roundw
          case rel => exact ⟨2, _, by omega, rfl, rfl, HB3.out, HO3.out⟩
          case measure => simp [intOf]
        | 2, _ =>
          have HO2 := Aside0.mk ho2
          clear ho2
          go_wp2
          go_ret
          exact ⟨_, rfl, HO2.out, HB2.out⟩
set_option maxHeartbeats 400000 in
set_option maxRecDepth 100000 in
theorem clone_any (A0 : Option Addr) (c0 : Nat) (l0 : List Int) (w : World) (hr0 : Kd.C (Kd.int .u8) w A0 l0.length l0) (hl : l0.length * 1 ≤ 140737488355328) :
    Calls Try.prog 117 #[.slice A0 l0.length c0] w fun e w' => ∃ v0_ : Value, e = .returned (v0_) ∧ Kd.R (Kd.int .u8) 5 w' w.heap.size (fun _ => True) v0_ l0 ∧ Below w.heap.size w w' := by
  have HR0 := Aside0.mk hr0
  have HL := Aside0.mk hl
  have HB := Aside0.mk (Below.refl w.heap.size w)
  clear hr0 hl
  have en := fun (w : World) (a : Option Addr) (n c : Nat) => Lib.run_eql_slice_nil (P := Try.prog) w 36 5 a n c 0 0 Try.underlying36
  cases A0 with
  | none =>
    obtain rfl : l0 = [] := by
      by_cases h : 0 < l0.length
      · obtain ⟨ad, e, _⟩ := HR0.out.2.2 h
        cases e
      · exact List.eq_nil_of_length_eq_zero (by omega)
    go_enter Try.func117, Try.ntmps117
    go_wp2
    go_ret
    exact ⟨_, rfl, Kd.R_nil _ _ _ _ _, HB.out⟩
  | some ad =>
    go_enter Try.func117, Try.ntmps117
    go_wp2_with (first | ((with_reducible refine gate_dst (N := 5) rfl ?_); refine Kd.R_lit (Kd.int .u8) w.heap.size 5 ?hg (N := 5) ?hd (xs := ([] : List Int)) (inner := []) (ok := fun _ => True) (okp := fun _ => True) ?hr ?hp (fun _ hk => hk) trivial (Below.refl _ _) (Nat.le_refl _) (by simp) ?_; (case hd => rfl); (case hg => rfl); (case hr => first | (go_simp; done) | (go_simp; rfl)); (case hp => exact Reps.none _ _); intro v1 w1 ho hb hg_ hnew_; clear hg_ hnew_; have HO := Aside0.mk ho; have HB1 := Aside0.mk hb; clear ho hb) | (at_builtin; refine Kd.R_append_row (Value.int .u8) (0 : Int) (w0 := w) w.heap.size rfl (.tmp 5) (.tmp 6) 36 5 (.int .u8 0) 1 rfl Try.underlying36 info_u8 rfl (by decide) v1 [] l0 (some ad) l0.length c0 (fun _ => True) rfl rfl (fun _ _ => trivial) HO.out (Kd.C_below HR0.out HB1.out) HB1.out HB1.out.size (by have := HL.out; simp; omega) ?_; intro v2 w2 ho2 hb2 hg2 hat2; clear hg2 hat2; have HO2 := Aside0.mk ho2; have HB2 := Aside0.mk hb2; clear ho2 hb2))
    go_ret
    exact ⟨_, rfl, HO2.out, HB2.out⟩
end Go.Proofs.Ytmbiebdcnadhkaa.Hand

-- Written by myprint.py, a program of this session (in its repo under wip/tools), out of the loaded functions; Lean checks it.
namespace Go.Proofs.Ytmbiebdcnadhkaa.QFrame
open Go.RowKit Go.Proofs.YtmbiebdcnadhkaaW.PrintWords Go.Proofs.YtmbiebdcnadhkaaW.PrintLast Go.Proofs.YtmbiebdcnadhkaaW.PrintMore
attribute [local go_sem] max2_int min2_int max_two min_two max_three min_three max_four min_four   -- for this text's walks alone
set_option linter.unusedVariables false
set_option linter.unusedSimpArgs false



def errW : Option Int → Value
  | none => .nilIface
  | some c => .iface 0 (.int .i64 c)
theorem errW_none : errW none = .nilIface := rfl
theorem errW_some (c : Int) : errW (some c) = .iface 0 (.int .i64 c) := rfl

theorem info5 : (Try.prog.info? 5).map (fun i => (i.zero, i.size, i.bytes)) = some (some (.int .u8 0), 1, 1) := by kernel_rfl
-- the values' own types
/-! #### struct type 107 -/
end Go.Proofs.Ytmbiebdcnadhkaa.QFrame

-- Written by myprint.py, a program of this session (in its repo under wip/tools), out of the loaded functions; Lean checks it.
namespace Go.Proofs.Ytmbiebdcnadhkaa.QFrame
open Go.RowKit Go.Proofs.YtmbiebdcnadhkaaW.PrintWords Go.Proofs.YtmbiebdcnadhkaaW.PrintLast Go.Proofs.YtmbiebdcnadhkaaW.PrintMore
attribute [local go_sem] max2_int min2_int max_two min_two max_three min_three max_four min_four   -- for this text's walks alone
set_option linter.unusedVariables false
set_option linter.unusedSimpArgs false

/-! ### crc_Next: function 149 -/
def crc_Next.l0 : Nat → Int → Int → Option (Int)
  | 0, _, _ => none
  | k + 1, x0, x10 => if x10 < 8 then (if (Go.bits .and .u32 x0 1) = 1 then (crc_Next.l0 k (Go.bits .xor .u32 (x0 / 2) 3988292384) (wrap64 (x10 + 1))) else (crc_Next.l0 k (x0 / 2) (wrap64 (x10 + 1)))) else (some x0)
def crc_Next.f (k : Nat) (a0 : Int) (a1 : Int) : Option (Int) := crc_Next.l0 k (Go.bits .xor .u32 a0 ((a1) % 4294967296)) 0
set_option maxHeartbeats 8000000 in
set_option maxRecDepth 100000 in
theorem crc_Next.calls (k : Nat) (a0 : Int) (a1 : Int) (r : Int) (w : World) (h : crc_Next.f k a0 a1 = some r) :
    Calls Try.prog 149 #[.int .u32 a0, .int .u8 a1] w fun e w' => e = .returned (.int .u32 r) ∧ Drawn0 w w' := by
  have H : (crc_Next.l0 k (Go.bits .xor .u32 a0 ((a1) % 4294967296)) 0) = some r := h
  clear h
  have H' := Aside0.mk H
  clear H
  go_enter Try.func149, Try.ntmps149
  go_wp2
  go_loopg [0, 10] k (fun kq v0 v10 w' => ∃ (x0_1 : Int) (x10_1 : Int), v0 = .int .u32 x0_1 ∧ v10 = .int .i64 x10_1 ∧ Aside0 (crc_Next.l0 kq x0_1 x10_1 = some r) ∧ Aside0 (kq ≤ k) ∧ Drawn0 w w')
  case atStart => exact ⟨(Go.bits .xor .u32 a0 ((a1) % 4294967296)), (0), (by first | rfl | (simp; done) | (simp [*]; done)), (by first | rfl | (simp; done) | (simp [*]; done)), H', ⟨Nat.le_refl _⟩, by repeat (first | exact Drawn0.refl _ | apply Drawn0.step)⟩
  case round =>
    clear H'
    try clear c1
    try clear p2
    obtain ⟨x0_1, x10_1, rfl, rfl, HA, HK1, ⟨m1, rfl⟩⟩ := hrel
    cases gk with
    | zero => exact absurd HA.out (by simp [crc_Next.l0])
    | succ k1 =>
      have H := HA.out
      clear HA
      simp only [crc_Next.l0] at H
      by_cases c3 : x10_1 < 8
      · rw [if_pos c3] at H
        have c3b0 : decide (x10_1 < 8) = true := decide_eq_true c3
        clear c3
        by_cases c4 : (Go.bits .and .u32 x0_1 1) = 1
        · rw [if_pos c4] at H
          have c4b0 : ((Go.bits .and .u32 x0_1 1) == 1) = true := beq_iff_eq.mpr c4
          have c4b1 : ((Go.bits .and .u32 x0_1 1) != 1) = false := bne_eq_false_iff_eq.mpr c4
          clear c4
          have H' := Aside0.mk H
          clear H
          go_wp2
          go_roundg k1
          case measure => have := HK1.out; omega
          case rel => exact ⟨(Go.bits .xor .u32 (x0_1 / 2) 3988292384), (wrap64 (x10_1 + 1)), (by first | rfl | (simp; done) | (simp [*]; done)), (by first | rfl | (simp; done) | (simp [*]; done)), H', ⟨by have := HK1.out; omega⟩, by repeat (first | exact Drawn0.refl _ | apply Drawn0.step)⟩
        · rw [if_neg c4] at H
          have c4b0 : ((Go.bits .and .u32 x0_1 1) == 1) = false := beq_eq_false_iff_ne.mpr c4
          have c4b1 : ((Go.bits .and .u32 x0_1 1) != 1) = true := bne_iff_ne.mpr c4
          have H' := Aside0.mk H
          clear H
          go_wp2
          go_roundg k1
          case measure => have := HK1.out; omega
          case rel => exact ⟨(x0_1 / 2), (wrap64 (x10_1 + 1)), (by first | rfl | (simp; done) | (simp [*]; done)), (by first | rfl | (simp; done) | (simp [*]; done)), H', ⟨by have := HK1.out; omega⟩, by repeat (first | exact Drawn0.refl _ | apply Drawn0.step)⟩
      · rw [if_neg c3] at H
        have c3b0 : decide (x10_1 < 8) = false := decide_eq_false c3
        clear c3
        obtain rfl := Option.some.inj H
        go_wp2
        all_goals
          go_ret
          exact ⟨by first | rfl | (simp; done) | (simp [*]; done), by repeat (first | exact Drawn0.refl _ | apply Drawn0.step)⟩

end Go.Proofs.Ytmbiebdcnadhkaa.QFrame

-- Written by myprint.py, a program of this session (in its repo under wip/tools), out of the loaded functions; Lean checks it.
namespace Go.Proofs.Ytmbiebdcnadhkaa.QFrame
open Go.RowKit Go.Proofs.YtmbiebdcnadhkaaW.PrintWords Go.Proofs.YtmbiebdcnadhkaaW.PrintLast Go.Proofs.YtmbiebdcnadhkaaW.PrintMore
attribute [local go_sem] max2_int min2_int max_two min_two max_three min_three max_four min_four   -- for this text's walks alone
set_option linter.unusedVariables false
set_option linter.unusedSimpArgs false

/-! ### crc_Many: function 147 -/
def crc_Many.l0 : Nat → Int → List Int → Int → Int → Option (Int)
  | 0, _, _, _, _ => none
  | k + 1, x0, x7, x8, x9 => if x9 < x8 then (if 0 ≤ x9 then (if x9 < (x7.length : Int) then ((crc_Next.f k x0 (rd x7 x9)).bind fun t108 => (crc_Many.l0 k t108 x7 x8 (wrap64 (x9 + 1)))) else (none)) else (none)) else (some x0)
def crc_Many.f (k : Nat) (a0 : Int) (l1 : List Int) : Option (Int) := crc_Many.l0 k a0 l1 (l1.length : Int) 0
set_option maxHeartbeats 8000000 in
set_option maxRecDepth 100000 in
theorem crc_Many.calls (k : Nat) (a0 : Int) (A1 : Option Addr) (c1 : Nat) (l1 : List Int) (r : Int) (w : World) (hr1 : Kd.C (Kd.int .u8) w A1 l1.length l1) (hc1 : l1.length ≤ c1) (h : crc_Many.f k a0 l1 = some r) :
    Calls Try.prog 147 #[.int .u32 a0, .slice A1 l1.length c1] w fun e w' => e = .returned (.int .u32 r) ∧ Drawn0 w w' := by
  have HR1 := Aside0.mk hr1
  have HC1 := Aside0.mk hc1
  clear hr1 hc1
  have H : (crc_Many.l0 k a0 l1 (l1.length : Int) 0) = some r := h
  clear h
  have H' := Aside0.mk H
  clear H
  go_enter Try.func147, Try.ntmps147
  go_wp2
  go_loopg [0, 9] k (fun kq v0 v9 w' => ∃ (x0_1 : Int) (x9_1 : Int), v0 = .int .u32 x0_1 ∧ v9 = .int .i64 x9_1 ∧ Aside0 (crc_Many.l0 kq x0_1 l1 (l1.length : Int) x9_1 = some r) ∧ Aside0 (kq ≤ k) ∧ Drawn0 w w')
  case atStart => exact ⟨(a0), (0), (by first | rfl | (simp; done) | (simp [*]; done)), (by first | rfl | (simp; done) | (simp [*]; done)), H', ⟨Nat.le_refl _⟩, by repeat (first | exact Drawn0.refl _ | apply Drawn0.step)⟩
  case round =>
    clear H'
    try clear c1
    try clear p2
    obtain ⟨x0_1, x9_1, rfl, rfl, HA, HK1, ⟨m1, rfl⟩⟩ := hrel
    cases gk with
    | zero => exact absurd HA.out (by simp [crc_Many.l0])
    | succ k1 =>
      have H := HA.out
      clear HA
      simp only [crc_Many.l0] at H
      by_cases c3 : x9_1 < (l1.length : Int)
      · rw [if_pos c3] at H
        have c3b0 : decide (x9_1 < (l1.length : Int)) = true := decide_eq_true c3
        clear c3
        by_cases c4 : 0 ≤ x9_1
        · rw [if_pos c4] at H
          have c4b0 : decide (0 ≤ x9_1) = true := decide_eq_true c4
          clear c4
          by_cases c5 : x9_1 < (l1.length : Int)
          · rw [if_pos c5] at H
            have c5b0 : decide (x9_1 < (l1.length : Int)) = true := decide_eq_true c5
            clear c5
            replace H := Option.bind_eq_some_iff.mp H
            obtain ⟨t108, A60, H⟩ := H
            replace H : (crc_Many.l0 k1 t108 l1 (l1.length : Int) (wrap64 (x9_1 + 1))) = some r := H
            have A6 := Aside0.mk A60
            clear A60
            have H' := Aside0.mk H
            clear H
            have p107 : 0 ≤ (x9_1 : Int) := of_decide_eq_true (by first | (with_reducible assumption) | assumption)
            have q107 : x9_1 < (l1.length : Int) := of_decide_eq_true (by first | (with_reducible assumption) | assumption)
            obtain ⟨ad107, e107, hx107_0⟩ := Kd.at_int HR1.out x9_1 p107 q107
            cases e107
            replace p107 := eq_true p107
            replace q107 := eq_true q107
            go_wp2_with (first | ((with_reducible refine gate_callee (f := 149) rfl ?_); refine goesL_ (some 15) rfl rfl Try.func149 (by kernel_rfl) rfl #[.int .u32 x0_1, .int .u8 (rd l1 x9_1)] rfl (by (try simp only [List.map_toArray, List.map_cons, List.map_nil]); first | done | rfl | (simp only [List.length_drop, List.length_take]; rfl)) ?_; (with_reducible refine (crc_Next.calls k1 x0_1 (rd l1 x9_1) t108 _ A6.out).mono ?_); rintro e w' ⟨rfl, ⟨nd, rfl⟩⟩; refine ⟨_, rfl, ?_⟩))
            go_roundg k1
            case measure => have := HK1.out; omega
            case rel => exact ⟨(t108), (wrap64 (x9_1 + 1)), (by first | rfl | (simp; done) | (simp [*]; done)), (by first | rfl | (simp; done) | (simp [*]; done)), H', ⟨by have := HK1.out; omega⟩, by repeat (first | exact Drawn0.refl _ | apply Drawn0.step)⟩
          · rw [if_neg c5] at H
            exact absurd H (by simp)
        · rw [if_neg c4] at H
          exact absurd H (by simp)
      · rw [if_neg c3] at H
        have c3b0 : decide (x9_1 < (l1.length : Int)) = false := decide_eq_false c3
        clear c3
        obtain rfl := Option.some.inj H
        go_wp2
        all_goals
          go_ret
          exact ⟨by first | rfl | (simp; done) | (simp [*]; done), by repeat (first | exact Drawn0.refl _ | apply Drawn0.step)⟩

end Go.Proofs.Ytmbiebdcnadhkaa.QFrame

-- Written by myprint.py, a program of this session (in its repo under wip/tools), out of the loaded functions; Lean checks it.
namespace Go.Proofs.Ytmbiebdcnadhkaa.QFrame
open Go.RowKit Go.Proofs.YtmbiebdcnadhkaaW.PrintWords Go.Proofs.YtmbiebdcnadhkaaW.PrintLast Go.Proofs.YtmbiebdcnadhkaaW.PrintMore
attribute [local go_sem] max2_int min2_int max_two min_two max_three min_three max_four min_four   -- for this text's walks alone
set_option linter.unusedVariables false
set_option linter.unusedSimpArgs false

/-! ### crc_Sum: function 138 -/
def crc_Sum.f (k : Nat) (l0 : List Int) : Option (Int) := (crc_Many.f k 4294967295 l0).bind fun t109 => (some (Go.bits .xor .u32 4294967295 t109))
set_option maxHeartbeats 8000000 in
set_option maxRecDepth 100000 in
theorem crc_Sum.calls (k : Nat) (A0 : Option Addr) (c0 : Nat) (l0 : List Int) (r : Int) (w : World) (hr0 : Kd.C (Kd.int .u8) w A0 l0.length l0) (hc0 : l0.length ≤ c0) (h : crc_Sum.f k l0 = some r) :
    Calls Try.prog 138 #[.slice A0 l0.length c0] w fun e w' => e = .returned (.int .u32 r) ∧ Drawn0 w w' := by
  have HR0 := Aside0.mk hr0
  have HC0 := Aside0.mk hc0
  clear hr0 hc0
  have H : ((crc_Many.f k 4294967295 l0).bind fun t109 => (some (Go.bits .xor .u32 4294967295 t109))) = some r := h
  clear h
  replace H := Option.bind_eq_some_iff.mp H
  obtain ⟨t109, A20, H⟩ := H
  replace H : (some (Go.bits .xor .u32 4294967295 t109)) = some r := H
  have A2 := Aside0.mk A20
  clear A20
  obtain rfl := Option.some.inj H
  go_enter Try.func138, Try.ntmps138
  go_wp2_with (first | ((with_reducible refine gate_callee (f := 147) rfl ?_); refine goesL_ (some 4) rfl rfl Try.func147 (by kernel_rfl) rfl #[.int .u32 4294967295, .slice A0 l0.length c0] rfl (by (try simp only [List.map_toArray, List.map_cons, List.map_nil]); first | done | rfl | (simp only [List.length_drop, List.length_take]; rfl)) ?_; (with_reducible refine (crc_Many.calls k 4294967295 _ _ l0 t109 _ ?side1 ?side2 A2.out).mono ?_); (case side1 => repeat (first | exact HR0.out | (with_reducible refine Kd.C_alloc ?_ _) | (with_reducible refine Kd.C_drewN ?_ _) | (with_reducible refine Kd.C_drew ?_))); (case side2 => exact HC0.out); rintro e w' ⟨rfl, ⟨nd, rfl⟩⟩; refine ⟨_, rfl, ?_⟩))
  all_goals
    go_ret
    exact ⟨by first | rfl | (simp; done) | (simp [*]; done), by repeat (first | exact Drawn0.refl _ | apply Drawn0.step)⟩

end Go.Proofs.Ytmbiebdcnadhkaa.QFrame

-- Written by myprint.py, a program of this session (in its repo under wip/tools), out of the loaded functions; Lean checks it.
namespace Go.Proofs.Ytmbiebdcnadhkaa.QFrame
open Go.RowKit Go.Proofs.YtmbiebdcnadhkaaW.PrintWords Go.Proofs.YtmbiebdcnadhkaaW.PrintLast Go.Proofs.YtmbiebdcnadhkaaW.PrintMore
attribute [local go_sem] max2_int min2_int max_two min_two max_three min_three max_four min_four   -- for this text's walks alone
set_option linter.unusedVariables false
set_option linter.unusedSimpArgs false

/-! ### spenceref01_Next: function 141 -/
def spenceref01_Next.l0 : Nat → Int → Int → Int → Option (Int)
  | 0, _, _, _ => none
  | k + 1, x0, x1, x5 => if x5 < 8 then (if 0 ≤ x5 then (if (Go.bits .xor .u32 (Go.bits .and .u32 x0 1) (Go.bits .and .u32 ((shr .u8 x1 x5) % 4294967296) 1)) = 1 then (spenceref01_Next.l0 k (Go.bits .xor .u32 ((Int.tdiv x0 2) % 4294967296) 3988292384) x1 (wrap64 (x5 + 1))) else (spenceref01_Next.l0 k ((Int.tdiv x0 2) % 4294967296) x1 (wrap64 (x5 + 1)))) else (none)) else (some x0)
def spenceref01_Next.f (k : Nat) (a0 : Int) (a1 : Int) : Option (Int) := spenceref01_Next.l0 k a0 a1 0
end Go.Proofs.Ytmbiebdcnadhkaa.QFrame

-- Written by myprint.py, a program of this session (in its repo under wip/tools), out of the loaded functions; Lean checks it.
namespace Go.Proofs.Ytmbiebdcnadhkaa.QFrame
open Go.RowKit Go.Proofs.YtmbiebdcnadhkaaW.PrintWords Go.Proofs.YtmbiebdcnadhkaaW.PrintLast Go.Proofs.YtmbiebdcnadhkaaW.PrintMore
attribute [local go_sem] max2_int min2_int max_two min_two max_three min_three max_four min_four   -- for this text's walks alone
set_option linter.unusedVariables false
set_option linter.unusedSimpArgs false

/-! ### spenceref01_Sum: function 125 -/
def spenceref01_Sum.l0 : Nat → Int → List Int → Int → Int → Option (Int)
  | 0, _, _, _, _ => none
  | k + 1, x3, x6, x7, x8 => if x8 < x7 then (if 0 ≤ x8 then (if x8 < (x6.length : Int) then ((spenceref01_Next.f k x3 (rd x6 x8)).bind fun t134 => (spenceref01_Sum.l0 k t134 x6 x7 (wrap64 (x8 + 1)))) else (none)) else (none)) else (some (Go.bits .xor .u32 x3 4294967295))
def spenceref01_Sum.f (k : Nat) (l0 : List Int) : Option (Int) := spenceref01_Sum.l0 k 4294967295 l0 (l0.length : Int) 0
end Go.Proofs.Ytmbiebdcnadhkaa.QFrame

/- The sum of bytes, as plain arithmetic: a round, a byte, many bytes; the document's order of rounds is the same; another byte gives another sum. -/
namespace Go.Proofs.Ytmbiebdcnadhkaa.CrcMath

def poly : Nat := 3988292384
/-- One round. -/
def step (c : Nat) : Nat := if c % 2 = 1 then (c / 2) ^^^ poly else c / 2
def steps : Nat → Nat → Nat
  | 0, c => c
  | n + 1, c => steps n (step c)
/-- A byte. -/
def next (c b : Nat) : Nat := steps 8 (c ^^^ b)
def many (c : Nat) (l : List Nat) : Nat := l.foldl next c
/-- The document's way: the byte's bits go in one by one. -/
def refs : Nat → Nat → Nat → Nat
  | 0, c, _ => c
  | n + 1, c, b => refs n (step (c ^^^ (b % 2))) (b / 2)

theorem poly_lt : poly < 2 ^ 32 := by decide
theorem step_lt {c : Nat} (h : c < 2 ^ 32) : step c < 2 ^ 32 := by
  unfold step
  split
  · exact Nat.xor_lt_two_pow (by omega) poly_lt
  · omega
theorem steps_lt (n : Nat) {c : Nat} (h : c < 2 ^ 32) : steps n c < 2 ^ 32 := by
  induction n generalizing c with
  | zero => exact h
  | succ n ih => exact ih (step_lt h)
theorem next_lt {c b : Nat} (h : c < 2 ^ 32) (hb : b < 256) : next c b < 2 ^ 32 :=
  steps_lt 8 (Nat.xor_lt_two_pow h (by omega))
theorem many_lt (l : List Nat) {c : Nat} (h : c < 2 ^ 32) (hl : ∀ x ∈ l, x < 256) : many c l < 2 ^ 32 := by
  induction l generalizing c with
  | nil => exact h
  | cons x l ih => exact ih (next_lt h (hl x (by simp))) (fun y hy => hl y (by simp [hy]))
theorem many_cons (c x : Nat) (l : List Nat) : many c (x :: l) = many (next c x) l := rfl
theorem xor_mod_two (a b : Nat) : (a ^^^ b) % 2 = (a % 2 + b % 2) % 2 := by
  have h := @Nat.xor_mod_two_eq_one a b
  have h1 := Nat.mod_two_eq_zero_or_one a
  have h2 := Nat.mod_two_eq_zero_or_one b
  have h3 := Nat.mod_two_eq_zero_or_one (a ^^^ b)
  have h4 : (a ^^^ b) % 2 = 1 → ¬ (a % 2 = 1 ↔ b % 2 = 1) := h.1
  have h5 : ¬ (a % 2 = 1 ↔ b % 2 = 1) → (a ^^^ b) % 2 = 1 := h.2
  clear h
  generalize (a ^^^ b) % 2 = x at *
  generalize a % 2 = y at *
  generalize b % 2 = z at *
  rcases h1 with rfl | rfl <;> rcases h2 with rfl | rfl <;> rcases h3 with rfl | rfl <;> simp at h4 h5 ⊢

theorem xor_swap (a b c d : Nat) : (a ^^^ b) ^^^ (c ^^^ d) = (a ^^^ c) ^^^ (b ^^^ d) := by
  rw [Nat.xor_assoc, Nat.xor_assoc, ← Nat.xor_assoc b, Nat.xor_comm b c, Nat.xor_assoc c]

/-- A round is linear. -/
theorem step_xor (a b : Nat) : step (a ^^^ b) = step a ^^^ step b := by
  unfold step
  rw [xor_mod_two, Nat.xor_div_two]
  rcases Nat.mod_two_eq_zero_or_one a with h1 | h1 <;> rcases Nat.mod_two_eq_zero_or_one b with h2 | h2 <;> rw [h1, h2] <;> simp
  · rw [Nat.xor_assoc]
  · rw [Nat.xor_assoc, Nat.xor_assoc, Nat.xor_comm poly]
  · rw [xor_swap, Nat.xor_self, Nat.xor_zero]
theorem step_even {y : Nat} (h : y % 2 = 0) : step y = y / 2 := by unfold step; rw [if_neg (by omega)]

theorem low_split (b : Nat) : (b % 2) ^^^ (2 * (b / 2)) = b := by
  apply Nat.eq_of_testBit_eq
  intro i
  rw [Nat.testBit_xor]
  cases i with
  | zero =>
    simp only [Nat.testBit_zero]
    rcases Nat.mod_two_eq_zero_or_one b with h | h <;> simp [h] <;> omega
  | succ i =>
    rw [Nat.testBit_succ, Nat.testBit_succ, Nat.testBit_succ, show b % 2 / 2 = 0 by omega, show 2 * (b / 2) / 2 = b / 2 by omega]
    simp

/-- The two ways agree: what of the byte is still to come lies in the register. -/
theorem refs_eq (n : Nat) : ∀ c b, refs n c b ^^^ (b / 2 ^ n) = steps n (c ^^^ b) := by
  induction n with
  | zero => intro c b; simp [refs, steps]
  | succ n ih =>
    intro c b
    have h := ih (step (c ^^^ (b % 2))) (b / 2)
    simp only [refs, steps]
    rw [show b / 2 ^ (n + 1) = b / 2 / 2 ^ n by rw [Nat.div_div_eq_div_mul, Nat.pow_succ, Nat.mul_comm], h]
    congr 1
    have e : c ^^^ b = (c ^^^ (b % 2)) ^^^ (2 * (b / 2)) := by
      rw [Nat.xor_assoc, low_split]
    have e2 : step (2 * (b / 2)) = b / 2 := by rw [step_even (Nat.mul_mod_right 2 _), Nat.mul_div_cancel_left _ (by decide)]
    rw [e, step_xor (c ^^^ (b % 2)), e2]
theorem refs_next (c b : Nat) (hb : b < 256) : refs 8 c b = next c b := by
  have h := refs_eq 8 c b
  rw [show b / 2 ^ 8 = 0 by omega, Nat.xor_zero] at h
  exact h

end Go.Proofs.Ytmbiebdcnadhkaa.CrcMath

/- What the functions of the sum's package compute, in plain words, out of the printed texts. -/
namespace Go.Proofs.Ytmbiebdcnadhkaa.CrcFacts
open Go.RowKit Go.Proofs.YtmbiebdcnadhkaaW.PrintWords Go.Proofs.YtmbiebdcnadhkaaW.PrintLast Go.Proofs.YtmbiebdcnadhkaaW.PrintMore Go.Proofs.Ytmbiebdcnadhkaa.QFrame Go.Proofs.Ytmbiebdcnadhkaa.CrcMath

/-- Bytes: each is from 0 to 255. -/
def Byt (l : List Int) : Prop := ∀ x ∈ l, 0 ≤ x ∧ x ≤ 255
def nb (l : List Int) : List Nat := l.map Int.toNat
theorem nb_lt {l : List Int} (h : Byt l) : ∀ x ∈ nb l, x < 256 := by
  intro x hx
  obtain ⟨y, hy, rfl⟩ := List.mem_map.1 hx
  have := h y hy
  omega
theorem bits_xor (a b : Nat) (ha : a < 2 ^ 32) (hb : b < 2 ^ 32) : Go.bits .xor .u32 (a : Int) (b : Int) = ((a ^^^ b : Nat) : Int) := by
  have ha' : a % 2 ^ 32 = a := Nat.mod_eq_of_lt ha
  have hb' : b % 2 ^ 32 = b := Nat.mod_eq_of_lt hb
  simp only [Go.bits, BitVec.ofInt_natCast, BitVec.toNat_xor, BitVec.toNat_ofNat, show IntKind.u32.bits = 32 from rfl, ha', hb']
  have h := Nat.xor_lt_two_pow ha hb
  rw [IntKind.wrap_u32]
  omega
theorem bits_and1 (a : Nat) (ha : a < 2 ^ 32) : Go.bits .and .u32 (a : Int) 1 = ((a % 2 : Nat) : Int) := by
  have ha' : a % 2 ^ 32 = a := Nat.mod_eq_of_lt ha
  have h1 : (1 : Int) = ((1 : Nat) : Int) := rfl
  rw [h1]
  simp only [Go.bits, BitVec.ofInt_natCast, BitVec.toNat_and, BitVec.toNat_ofNat, show IntKind.u32.bits = 32 from rfl, ha', show 1 % 2 ^ 32 = 1 from rfl, Nat.and_one_is_mod]
  rw [IntKind.wrap_u32]
  omega
theorem wr {a : Int} (h1 : -9223372036854775808 ≤ a) (h2 : a ≤ 9223372036854775807) : wrap64 a = a := by unfold wrap64; omega

theorem next_loop (n : Nat) : ∀ (k c i : Nat), c < 2 ^ 32 → i + n = 8 → n < k → crc_Next.l0 k (c : Int) (i : Int) = some ((steps n c : Nat) : Int) := by
  induction n with
  | zero =>
    intro k c i hc hi hk
    obtain ⟨k, rfl⟩ : ∃ m, k = m + 1 := ⟨k - 1, by omega⟩
    simp only [crc_Next.l0]; rw [if_neg (by omega)]; rfl
  | succ n ih =>
    intro k c i hc hi hk
    obtain ⟨k, rfl⟩ : ∃ m, k = m + 1 := ⟨k - 1, by omega⟩
    simp only [crc_Next.l0, steps]
    rw [if_pos (by omega), bits_and1 c hc, wr (a := (i : Int) + 1) (by omega) (by omega), show (c : Int) / 2 = ((c / 2 : Nat) : Int) by omega, show (i : Int) + 1 = ((i + 1 : Nat) : Int) by omega]
    unfold CrcMath.step
    by_cases h : c % 2 = 1
    · rw [if_pos (by omega), if_pos h, show (3988292384 : Int) = ((poly : Nat) : Int) from rfl, bits_xor _ _ (by omega) poly_lt]
      exact ih k _ _ (Nat.xor_lt_two_pow (by omega) poly_lt) (by omega) (by omega)
    · rw [if_neg (by omega), if_neg h]
      exact ih k _ _ (by omega) (by omega) (by omega)
theorem next_is (k c b : Nat) (hc : c < 2 ^ 32) (hb : b < 256) (hk : 9 ≤ k) : crc_Next.f k (c : Int) (b : Int) = some ((next c b : Nat) : Int) := by
  unfold crc_Next.f next
  rw [show ((b : Int)) % 4294967296 = ((b : Nat) : Int) by omega, bits_xor c b hc (by omega)]
  exact next_loop 8 k (c ^^^ b) 0 (Nat.xor_lt_two_pow hc (by omega)) rfl (by omega)
theorem rd_nat {l : List Int} (h : Byt l) (i : Nat) (hi : i < l.length) : rd l (i : Int) = ((l.getD i 0).toNat : Int) ∧ (l.getD i 0).toNat < 256 := by
  have hm := h _ (List.getElem_mem hi)
  unfold rd
  simp only [Int.toNat_natCast, List.getD_eq_getElem?_getD, List.getElem?_eq_getElem hi, Option.getD_some]
  omega
theorem nb_drop {l : List Int} (i : Nat) (hi : i < l.length) : nb (l.drop i) = (l.getD i 0).toNat :: nb (l.drop (i + 1)) := by
  show List.map Int.toNat (List.drop i l) = (l.getD i 0).toNat :: List.map Int.toNat (List.drop (i + 1) l)
  rw [List.drop_eq_getElem_cons hi, List.map_cons, List.getD_eq_getElem?_getD, List.getElem?_eq_getElem hi, Option.getD_some]
theorem many_loop (n : Nat) : ∀ (k c i : Nat) (l : List Int), Byt l → c < 2 ^ 32 → i + n = l.length → l.length ≤ 9223372036854775806 → n + 10 ≤ k → crc_Many.l0 k (c : Int) l (l.length : Int) (i : Int) = some ((many c (nb (l.drop i)) : Nat) : Int) := by
  induction n with
  | zero =>
    intro k c i l hl hc hi hm hk
    obtain ⟨k, rfl⟩ : ∃ m, k = m + 1 := ⟨k - 1, by omega⟩
    simp only [crc_Many.l0]; rw [if_neg (by omega), List.drop_of_length_le (by omega)]; rfl
  | succ n ih =>
    intro k c i l hl hc hi hm hk
    obtain ⟨k, rfl⟩ : ∃ m, k = m + 1 := ⟨k - 1, by omega⟩
    obtain ⟨h1, h2⟩ := rd_nat hl i (by omega)
    simp only [crc_Many.l0]
    rw [if_pos (by omega), if_pos (by omega), if_pos (by omega), h1, next_is k c _ hc h2 (by omega), Option.bind_some, wr (a := (i : Int) + 1) (by omega) (by omega), show (i : Int) + 1 = ((i + 1 : Nat) : Int) by omega, nb_drop i (by omega), many_cons]
    exact ih k _ _ l hl (next_lt hc h2) (by omega) hm (by omega)
theorem many_is (k c : Nat) (l : List Int) (hl : Byt l) (hc : c < 2 ^ 32) (hm : l.length ≤ 9223372036854775806) (hk : l.length + 10 ≤ k) : crc_Many.f k (c : Int) l = some ((many c (nb l) : Nat) : Int) := by
  have h := many_loop l.length k c 0 l hl hc (by omega) hm hk
  rw [List.drop_zero] at h
  exact h
/-- The sum of bytes. -/
def sum (l : List Nat) : Nat := 4294967295 ^^^ many 4294967295 l
theorem sum_lt {l : List Nat} (h : ∀ x ∈ l, x < 256) : sum l < 2 ^ 32 := Nat.xor_lt_two_pow (by decide) (many_lt l (by decide) h)
theorem sum_is (k : Nat) (l : List Int) (hl : Byt l) (hm : l.length ≤ 9223372036854775806) (hk : l.length + 10 ≤ k) : crc_Sum.f k l = some ((sum (nb l) : Nat) : Int) := by
  unfold crc_Sum.f
  rw [show (4294967295 : Int) = ((4294967295 : Nat) : Int) from rfl, many_is k 4294967295 l hl (by decide) hm hk, Option.bind_some, bits_xor _ _ (by decide) (many_lt _ (by decide) (nb_lt hl))]
  rfl

theorem ref_loop (n : Nat) : ∀ (k c b i : Nat), c < 2 ^ 32 → b < 256 → i + n = 8 → n < k → spenceref01_Next.l0 k (c : Int) (b : Int) (i : Int) = some ((refs n c (b / 2 ^ i) : Nat) : Int) := by
  induction n with
  | zero =>
    intro k c b i hc hb hi hk
    obtain ⟨k, rfl⟩ : ∃ m, k = m + 1 := ⟨k - 1, by omega⟩
    simp only [spenceref01_Next.l0]; rw [if_neg (by omega)]; rfl
  | succ n ih =>
    intro k c b i hc hb hi hk
    obtain ⟨k, rfl⟩ : ∃ m, k = m + 1 := ⟨k - 1, by omega⟩
    have hs : (shr .u8 (b : Int) (i : Int)) % 4294967296 = ((b / 2 ^ i : Nat) : Int) := by
      unfold shr
      rw [Int.toNat_natCast, show IntKind.u8.bits = 8 from rfl, Nat.min_eq_left (by omega), show ((b : Int) / 2 ^ i) = ((b / 2 ^ i : Nat) : Int) by norm_cast]
      have : b / 2 ^ i ≤ b := Nat.div_le_self _ _
      generalize b / 2 ^ i = q at *
      omega
    have hd : b / 2 ^ i ≤ b := Nat.div_le_self _ _
    simp only [spenceref01_Next.l0, refs]
    rw [if_pos (by omega), if_pos (by omega), hs, bits_and1 c hc, bits_and1 _ (by omega), bits_xor _ _ (by omega) (by omega), wr (a := (i : Int) + 1) (by omega) (by omega), show (i : Int) + 1 = ((i + 1 : Nat) : Int) by omega, show Int.tdiv (c : Int) 2 % 4294967296 = ((c / 2 : Nat) : Int) by rw [Int.tdiv_eq_ediv_of_nonneg (by omega)]; omega]
    have hp : b / 2 ^ i / 2 = b / 2 ^ (i + 1) := by rw [Nat.div_div_eq_div_mul, Nat.pow_succ]
    have hx : (c % 2) ^^^ (b / 2 ^ i % 2) = (c ^^^ (b / 2 ^ i % 2)) % 2 := by
      rw [xor_mod_two]
      rcases Nat.mod_two_eq_zero_or_one c with h | h <;> rcases Nat.mod_two_eq_zero_or_one (b / 2 ^ i) with h' | h' <;> rw [h, h'] <;> rfl
    have hh : (c ^^^ (b / 2 ^ i % 2)) / 2 = c / 2 := by rw [Nat.xor_div_two, show b / 2 ^ i % 2 / 2 = 0 by omega, Nat.xor_zero]
    rw [hx, hp]
    unfold CrcMath.step
    rw [hh]
    by_cases h : (c ^^^ (b / 2 ^ i % 2)) % 2 = 1
    · rw [if_pos (by omega), if_pos h, show (3988292384 : Int) = ((poly : Nat) : Int) from rfl, bits_xor _ _ (by omega) poly_lt]
      exact ih k _ b _ (Nat.xor_lt_two_pow (by omega) poly_lt) hb (by omega) (by omega)
    · rw [if_neg (by omega), if_neg h]
      exact ih k _ b _ (by omega) hb (by omega) (by omega)
theorem ref_is (k c b : Nat) (hc : c < 2 ^ 32) (hb : b < 256) (hk : 9 ≤ k) : spenceref01_Next.f k (c : Int) (b : Int) = some ((next c b : Nat) : Int) := by
  unfold spenceref01_Next.f
  have h := ref_loop 8 k c b 0 hc hb rfl (by omega)
  rw [Nat.pow_zero, Nat.div_one, refs_next c b hb] at h
  exact h
theorem refsum_loop (n : Nat) : ∀ (k c i : Nat) (l : List Int), Byt l → c < 2 ^ 32 → i + n = l.length → l.length ≤ 9223372036854775806 → n + 10 ≤ k → spenceref01_Sum.l0 k (c : Int) l (l.length : Int) (i : Int) = some ((4294967295 ^^^ many c (nb (l.drop i)) : Nat) : Int) := by
  induction n with
  | zero =>
    intro k c i l hl hc hi hm hk
    obtain ⟨k, rfl⟩ : ∃ m, k = m + 1 := ⟨k - 1, by omega⟩
    simp only [spenceref01_Sum.l0]; rw [if_neg (by omega), List.drop_of_length_le (by omega), show (4294967295 : Int) = ((4294967295 : Nat) : Int) from rfl, bits_xor _ _ hc (by decide), Nat.xor_comm]; rfl
  | succ n ih =>
    intro k c i l hl hc hi hm hk
    obtain ⟨k, rfl⟩ : ∃ m, k = m + 1 := ⟨k - 1, by omega⟩
    obtain ⟨h1, h2⟩ := rd_nat hl i (by omega)
    simp only [spenceref01_Sum.l0]
    rw [if_pos (by omega), if_pos (by omega), if_pos (by omega), h1, ref_is k c _ hc h2 (by omega), Option.bind_some, wr (a := (i : Int) + 1) (by omega) (by omega), show (i : Int) + 1 = ((i + 1 : Nat) : Int) by omega, nb_drop i (by omega), many_cons]
    exact ih k _ _ l hl (next_lt hc h2) (by omega) hm (by omega)
theorem refsum_is (k : Nat) (l : List Int) (hl : Byt l) (hm : l.length ≤ 9223372036854775806) (hk : l.length + 10 ≤ k) : spenceref01_Sum.f k l = some ((sum (nb l) : Nat) : Int) := by
  have h := refsum_loop l.length k 4294967295 0 l hl (by decide) (by omega) hm hk
  rw [List.drop_zero] at h
  exact h
end Go.Proofs.Ytmbiebdcnadhkaa.CrcFacts

-- Written by myprint.py, a program of this session (in its repo under wip/tools), out of the loaded functions; Lean checks it.
namespace Go.Proofs.Ytmbiebdcnadhkaa.QFrame
open Go.RowKit Go.Proofs.YtmbiebdcnadhkaaW.PrintWords Go.Proofs.YtmbiebdcnadhkaaW.PrintLast Go.Proofs.YtmbiebdcnadhkaaW.PrintMore
attribute [local go_sem] max2_int min2_int max_two min_two max_three min_three max_four min_four   -- for this text's walks alone
set_option linter.unusedVariables false
set_option linter.unusedSimpArgs false

/-! ### slices_Clone_byte_byte: function 117 -/
def slices_Clone_byte_byte.f (l0 : List Int) : Option (List Int) := if l0.length * 1 ≤ 140737488355328 then some l0 else none
theorem slices_Clone_byte_byte.calls (A0 : Option Addr) (c0 : Nat) (l0 : List Int) (r : List Int) (w : World) (hr0 : Kd.C (Kd.int .u8) w A0 l0.length l0) (hc0 : l0.length ≤ c0) (h : slices_Clone_byte_byte.f l0 = some r) :
    Calls Try.prog 117 #[.slice A0 l0.length c0] w fun e w' => ∃ v0_ : Value, e = .returned (v0_) ∧ Kd.R (Kd.int .u8) 5 w' w.heap.size (fun _ => True) v0_ r ∧ Below w.heap.size w w' := by
  unfold slices_Clone_byte_byte.f at h
  split at h
  · rename_i hl
    obtain rfl := Option.some.inj h
    exact Hand.clone_any A0 c0 l0 w hr0 hl
  · cases h


end Go.Proofs.Ytmbiebdcnadhkaa.QFrame

-- Written by myprint.py, a program of this session (in its repo under wip/tools), out of the loaded functions; Lean checks it.
namespace Go.Proofs.Ytmbiebdcnadhkaa.QFrame
open Go.RowKit Go.Proofs.YtmbiebdcnadhkaaW.PrintWords Go.Proofs.YtmbiebdcnadhkaaW.PrintLast Go.Proofs.YtmbiebdcnadhkaaW.PrintMore
attribute [local go_sem] max2_int min2_int max_two min_two max_three min_three max_four min_four   -- for this text's walks alone
set_option linter.unusedVariables false
set_option linter.unusedSimpArgs false

/-! ### crc_tail: function 119 -/
def crc_tail.l0 : Nat → Int → List Int → Int → Option (List Int)
  | 0, _, _, _ => none
  | k + 1, x3, x4, x8 => if x8 < 4 then (if 0 ≤ (wrap64 (8 * x8)) then (if x4.length < 140737488355328 then (crc_tail.l0 k x3 (x4 ++ [(shr .u32 x3 (wrap64 (8 * x8))) % 256]) (wrap64 (x8 + 1))) else (none)) else (none)) else (some x4)
def crc_tail.f (k : Nat) (l0 : List Int) : Option (List Int) := (crc_Sum.f k l0).bind fun t110 => (crc_tail.l0 k t110 ([] : List Int) 0)
set_option maxHeartbeats 8000000 in
set_option maxRecDepth 100000 in
theorem crc_tail.calls (k : Nat) (A0 : Option Addr) (c0 : Nat) (l0 : List Int) (r : List Int) (w : World) (hr0 : Kd.C (Kd.int .u8) w A0 l0.length l0) (hc0 : l0.length ≤ c0) (h : crc_tail.f k l0 = some r) :
    Calls Try.prog 119 #[.slice A0 l0.length c0] w fun e w' => ∃ v0_ : Value, e = .returned (v0_) ∧ Kd.R (Kd.int .u8) 5 w' w.heap.size (fun _ => True) v0_ r ∧ Below w.heap.size w w' := by
  have HR0 := Aside0.mk hr0
  have HC0 := Aside0.mk hc0
  clear hr0 hc0
  have HB := Aside0.mk (Below.refl w.heap.size w)
  have H : ((crc_Sum.f k l0).bind fun t110 => (crc_tail.l0 k t110 ([] : List Int) 0)) = some r := h
  clear h
  replace H := Option.bind_eq_some_iff.mp H
  obtain ⟨t110, A20, H⟩ := H
  replace H : (crc_tail.l0 k t110 ([] : List Int) 0) = some r := H
  have A2 := Aside0.mk A20
  clear A20
  have H' := Aside0.mk H
  clear H
  go_enter Try.func119, Try.ntmps119
  go_wp2_with (first | ((with_reducible refine gate_callee (f := 138) rfl ?_); refine goesL_ (some 7) rfl rfl Try.func138 (by kernel_rfl) rfl #[.slice A0 l0.length c0] rfl (by (try simp only [List.map_toArray, List.map_cons, List.map_nil]); first | done | rfl | (simp only [List.length_drop, List.length_take]; rfl)) ?_; (with_reducible refine (crc_Sum.calls k _ _ l0 t110 _ ?side1 ?side2 A2.out).mono ?_); (case side1 => repeat (first | exact HR0.out | (with_reducible refine Kd.C_alloc ?_ _) | (with_reducible refine Kd.C_drewN ?_ _) | (with_reducible refine Kd.C_drew ?_))); (case side2 => exact HC0.out); rintro e w' ⟨rfl, ⟨nd, rfl⟩⟩; refine ⟨_, rfl, ?_⟩))
  go_loopg [4, 8] k (fun kq v4 v8 w' => ∃ (x4_1 : List Int) (x8_1 : Int), v8 = .int .i64 x8_1 ∧ Aside0 (crc_tail.l0 kq t110 x4_1 x8_1 = some r) ∧ Aside0 (kq ≤ k) ∧ Aside0 (Kd.R (Kd.int .u8) 5 w' w.heap.size (fun _ => True) v4 x4_1) ∧ Aside0 (Below w.heap.size w w'))
  case atStart => exact ⟨(([] : List Int)), (0), (by first | rfl | (simp; done) | (simp [*]; done)), H', ⟨Nat.le_refl _⟩, ⟨by first | exact Kd.R_nil _ _ _ _ _ | exact Kd.N_nil _ _ _ _ _ | exact Kd.V_nil _ _ _ _ _ | exact Kd.Q_nil _ _ _ _ _ | exact Kd.S_nil _ _ _ _ _⟩, ⟨by repeat (first | (with_reducible first | exact HB.out | apply below_alloc | apply pw_below_drewN | apply below_drew1) | exact HB.out)⟩⟩
  case round =>
    clear H'
    try clear c1
    try clear p2
    obtain ⟨x4_1, x8_1, rfl, HA, HK1, HO_4, HB⟩ := hrel
    cases gk with
    | zero => exact absurd HA.out (by simp [crc_tail.l0])
    | succ k1 =>
      have H := HA.out
      clear HA
      simp only [crc_tail.l0] at H
      by_cases c3 : x8_1 < 4
      · rw [if_pos c3] at H
        have c3b0 : decide (x8_1 < 4) = true := decide_eq_true c3
        clear c3
        obtain ⟨ji4, hji4⟩ : ∃ j_ : Int, (wrap64 (8 * x8_1)) = j_ := ⟨_, rfl⟩
        replace H : (if 0 ≤ (ji4) then (if x4_1.length < 140737488355328 then (crc_tail.l0 k1 t110 (x4_1 ++ [(shr .u32 t110 (ji4)) % 256]) (wrap64 (x8_1 + 1))) else (none)) else (none)) = some r := by first | (rw [hji4] at H; exact H) | (simp only [hji4] at H ⊢; exact H)
        have hji4w : (IntKind.i64.wrap (8 * x8_1)) = ji4 := (i64_w _).trans hji4
        by_cases c5 : 0 ≤ (ji4)
        · rw [if_pos c5] at H
          have c5b0 := eq_true c5
          have c5b1 : decide (0 ≤ (ji4)) = true := decide_eq_true c5
          clear c5
          obtain ⟨ji6, hji6⟩ : ∃ j_ : Int, (shr .u32 t110 (ji4)) = j_ := ⟨_, rfl⟩
          replace H : (if x4_1.length < 140737488355328 then (crc_tail.l0 k1 t110 (x4_1 ++ [(ji6) % 256]) (wrap64 (x8_1 + 1))) else (none)) = some r := by first | (rw [hji6] at H; exact H) | (simp only [hji6] at H ⊢; exact H)
          have hji6_ : (t110 / 2 ^ min (ji4).toNat 32) = ji6 := hji6
          have hji6z : (ji4) ≤ 32 → (t110 / 2 ^ (ji4).toNat) = ji6 := shr_small hji6
          by_cases c7 : x4_1.length < 140737488355328
          · rw [if_pos c7] at H
            have LMc7 := Aside0.mk c7
            clear c7
            obtain ⟨y111, hy111⟩ : ∃ y_ : List Int, y_ = (x4_1 ++ [(ji6) % 256]) := ⟨_, rfl⟩
            replace H : (crc_tail.l0 k1 t110 y111 (wrap64 (x8_1 + 1))) = some r := by first | (rw [hy111]; with_reducible exact H) | (have H2_ := (Option.bind_some _ _).symm.trans H; rw [hy111]; with_reducible exact H2_) | (have H2_ := (Option.bind_some _ _).symm.trans H; with_reducible exact H2_) | with_reducible exact H | (rw [hy111]; exact H) | exact H
            have Ny111 := Aside0.mk hy111
            clear hy111
            have H' := Aside0.mk H
            clear H
            go_wp2_with (first | ((with_reducible refine gate_builtin (b := .append) (xs := #[.tmp 11, .tmp 17]) rfl ?_); at_builtin; refine Kd.R_append (Kd.int .u8) (w0 := w) w.heap.size rfl (.tmp 11) (.tmp 17) 36 5 (.int .u8 0) 1 rfl Try.underlying36 info5 rfl (by decide) (by omega) u4 x4_1 ((ji6) % 256) [.int .u8 ((ji6) % 256)] (fun _ => True) (fun _ => False) rfl rfl ?aP (fun _ hk => hk.elim) ?aF ?aO ?aB ?aS ?aL ?_; (case aP => exact rfl); (case aB => exact (by repeat (first | (with_reducible first | exact HB.out | apply below_alloc | apply pw_below_drewN | apply below_drew1) | exact HB.out))); (case aF => exact (fun _ _ => trivial)); (case aO => exact (by (with_reducible repeat (first | apply Kd.R_alloc | apply Kd.R_drewN | apply Kd.R_drew)); exact HO_4.out)); (case aS => exact (below_size (by repeat (first | (with_reducible first | exact HB.out | apply below_alloc | apply pw_below_drewN | apply below_drew1) | exact HB.out)))); (case aL => have := LMc7.out; omega); intro v112 w8 ho hb hg hat; rw [← Ny111.out] at ho; have n0_ := Aside0.mk (hb); have n1_ := Aside0.mk (ho); clear HB; clear HO_4; have HB := n0_; have HO113 := n1_; clear n0_ n1_; clear ho hb hg hat))
            go_roundg k1
            case measure => have := HK1.out; omega
            case rel => exact ⟨(y111), (wrap64 (x8_1 + 1)), (by first | rfl | (simp; done) | (simp [*]; done)), H', ⟨by have := HK1.out; omega⟩, ⟨by (with_reducible repeat (first | apply Kd.R_alloc | apply Kd.R_drewN | apply Kd.R_drew)); exact HO113.out⟩, ⟨by repeat (first | (with_reducible first | exact HB.out | apply below_alloc | apply pw_below_drewN | apply below_drew1) | exact HB.out)⟩⟩
          · rw [if_neg c7] at H
            exact absurd H (by simp)
        · rw [if_neg c5] at H
          exact absurd H (by simp)
      · rw [if_neg c3] at H
        have c3b0 : decide (x8_1 < 4) = false := decide_eq_false c3
        clear c3
        obtain rfl := Option.some.inj H
        go_wp2
        all_goals
          go_ret
          exact ⟨_, by first | rfl | (simp [errW_none, errW_some] <;> rfl) | (simp [*, errW_none, errW_some] <;> rfl), by (with_reducible repeat (first | apply Kd.R_alloc | apply Kd.R_drewN | apply Kd.R_drew)); exact HO_4.out, by repeat (first | (with_reducible first | exact HB.out | apply below_alloc | apply pw_below_drewN | apply below_drew1) | exact HB.out)⟩

end Go.Proofs.Ytmbiebdcnadhkaa.QFrame

-- Written by myprint.py, a program of this session (in its repo under wip/tools), out of the loaded functions; Lean checks it.
namespace Go.Proofs.Ytmbiebdcnadhkaa.QFrame
open Go.RowKit Go.Proofs.YtmbiebdcnadhkaaW.PrintWords Go.Proofs.YtmbiebdcnadhkaaW.PrintLast Go.Proofs.YtmbiebdcnadhkaaW.PrintMore
attribute [local go_sem] max2_int min2_int max_two min_two max_three min_three max_four min_four   -- for this text's walks alone
set_option linter.unusedVariables false
set_option linter.unusedSimpArgs false

/-! ### slices_Equal_byte_byte: function 126 -/
def slices_Equal_byte_byte.l0 : Nat → List Int → List Int → Int → Int → Option (Bool)
  | 0, _, _, _, _ => none
  | k + 1, x0, x1, x12, x13 => if x13 < x12 then (if 0 ≤ x13 then (if x13 < (x0.length : Int) then (if x13 < (x1.length : Int) then (if (rd x0 x13) = (rd x1 x13) then (slices_Equal_byte_byte.l0 k x0 x1 x12 (wrap64 (x13 + 1))) else (some false)) else (none)) else (none)) else (none)) else (some true)
def slices_Equal_byte_byte.f (k : Nat) (l0 : List Int) (l1 : List Int) : Option (Bool) := if (l0.length : Int) = (l1.length : Int) then (slices_Equal_byte_byte.l0 k l0 l1 (l0.length : Int) 0) else (some false)
set_option maxHeartbeats 8000000 in
set_option maxRecDepth 100000 in
theorem slices_Equal_byte_byte.calls (k : Nat) (A0 : Option Addr) (c0 : Nat) (l0 : List Int) (A1 : Option Addr) (c1 : Nat) (l1 : List Int) (r : Bool) (w : World) (hr0 : Kd.C (Kd.int .u8) w A0 l0.length l0) (hc0 : l0.length ≤ c0) (hr1 : Kd.C (Kd.int .u8) w A1 l1.length l1) (hc1 : l1.length ≤ c1) (h : slices_Equal_byte_byte.f k l0 l1 = some r) :
    Calls Try.prog 126 #[.slice A0 l0.length c0, .slice A1 l1.length c1] w fun e w' => e = .returned (.bool r) ∧ Drawn0 w w' := by
  have HR0 := Aside0.mk hr0
  have HC0 := Aside0.mk hc0
  clear hr0 hc0
  have HR1 := Aside0.mk hr1
  have HC1 := Aside0.mk hc1
  clear hr1 hc1
  have H : (if (l0.length : Int) = (l1.length : Int) then (slices_Equal_byte_byte.l0 k l0 l1 (l0.length : Int) 0) else (some false)) = some r := h
  clear h
  by_cases c3 : (l0.length : Int) = (l1.length : Int)
  · rw [if_pos c3] at H
    have c3b0 : ((l0.length : Int) == (l1.length : Int)) = true := beq_iff_eq.mpr c3
    have c3b1 : ((l0.length : Int) != (l1.length : Int)) = false := bne_eq_false_iff_eq.mpr c3
    have c3b2 : (l0.length == l1.length) = true := by first | simpa using c3 | (simp at c3 ⊢; omega)
    clear c3
    have H' := Aside0.mk H
    clear H
    go_enter Try.func126, Try.ntmps126
    go_wp2
    repeat (go_quiet (fail); try go_wp2)
    go_loopg [13] k (fun kq v13 w' => ∃ (x13_1 : Int), v13 = .int .i64 x13_1 ∧ Aside0 (slices_Equal_byte_byte.l0 kq l0 l1 (l0.length : Int) x13_1 = some r) ∧ Aside0 (kq ≤ k) ∧ Drawn0 w w')
    case atStart => exact ⟨(0), (by first | rfl | (simp; done) | (simp [*]; done)), H', ⟨Nat.le_refl _⟩, by repeat (first | exact Drawn0.refl _ | apply Drawn0.step)⟩
    case round =>
      clear H'
      try clear c1
      try clear p2
      try clear c3
      try clear c3b0
      try clear c3b1
      try clear c3b2
      obtain ⟨x13_1, rfl, HA, HK1, ⟨m1, rfl⟩⟩ := hrel
      cases gk with
      | zero => exact absurd HA.out (by simp [slices_Equal_byte_byte.l0])
      | succ k1 =>
        have H := HA.out
        clear HA
        simp only [slices_Equal_byte_byte.l0] at H
        by_cases c4 : x13_1 < (l0.length : Int)
        · rw [if_pos c4] at H
          have c4b0 : decide (x13_1 < (l0.length : Int)) = true := decide_eq_true c4
          clear c4
          by_cases c5 : 0 ≤ x13_1
          · rw [if_pos c5] at H
            have c5b0 : decide (0 ≤ x13_1) = true := decide_eq_true c5
            clear c5
            by_cases c6 : x13_1 < (l0.length : Int)
            · rw [if_pos c6] at H
              have c6b0 : decide (x13_1 < (l0.length : Int)) = true := decide_eq_true c6
              clear c6
              by_cases c7 : x13_1 < (l1.length : Int)
              · rw [if_pos c7] at H
                have c7b0 : decide (x13_1 < (l1.length : Int)) = true := decide_eq_true c7
                clear c7
                by_cases c8 : (rd l0 x13_1) = (rd l1 x13_1)
                · rw [if_pos c8] at H
                  have c8b0 : ((rd l0 x13_1) == (rd l1 x13_1)) = true := beq_iff_eq.mpr c8
                  have c8b1 : ((rd l0 x13_1) != (rd l1 x13_1)) = false := bne_eq_false_iff_eq.mpr c8
                  clear c8
                  have H' := Aside0.mk H
                  clear H
                  have p171 : 0 ≤ (x13_1 : Int) := of_decide_eq_true (by first | (with_reducible assumption) | assumption)
                  have q171 : x13_1 < (l0.length : Int) := of_decide_eq_true (by first | (with_reducible assumption) | assumption)
                  obtain ⟨ad171, e171, hx171_0⟩ := Kd.at_int HR0.out x13_1 p171 q171
                  cases e171
                  replace p171 := eq_true p171
                  replace q171 := eq_true q171
                  have p172 : 0 ≤ (x13_1 : Int) := of_decide_eq_true (by first | (with_reducible assumption) | assumption)
                  have q172 : x13_1 < (l1.length : Int) := of_decide_eq_true (by first | (with_reducible assumption) | assumption)
                  obtain ⟨ad172, e172, hx172_0⟩ := Kd.at_int HR1.out x13_1 p172 q172
                  cases e172
                  replace p172 := eq_true p172
                  replace q172 := eq_true q172
                  go_wp2
                  repeat (go_quiet (fail); try go_wp2)
                  go_roundg k1
                  case measure => have := HK1.out; omega
                  case rel => exact ⟨(wrap64 (x13_1 + 1)), (by first | rfl | (simp; done) | (simp [*]; done)), H', ⟨by have := HK1.out; omega⟩, by repeat (first | exact Drawn0.refl _ | apply Drawn0.step)⟩
                · rw [if_neg c8] at H
                  have c8b0 : ((rd l0 x13_1) == (rd l1 x13_1)) = false := beq_eq_false_iff_ne.mpr c8
                  have c8b1 : ((rd l0 x13_1) != (rd l1 x13_1)) = true := bne_iff_ne.mpr c8
                  obtain rfl := Option.some.inj H
                  have p171 : 0 ≤ (x13_1 : Int) := of_decide_eq_true (by first | (with_reducible assumption) | assumption)
                  have q171 : x13_1 < (l0.length : Int) := of_decide_eq_true (by first | (with_reducible assumption) | assumption)
                  obtain ⟨ad171, e171, hx171_0⟩ := Kd.at_int HR0.out x13_1 p171 q171
                  cases e171
                  replace p171 := eq_true p171
                  replace q171 := eq_true q171
                  have p172 : 0 ≤ (x13_1 : Int) := of_decide_eq_true (by first | (with_reducible assumption) | assumption)
                  have q172 : x13_1 < (l1.length : Int) := of_decide_eq_true (by first | (with_reducible assumption) | assumption)
                  obtain ⟨ad172, e172, hx172_0⟩ := Kd.at_int HR1.out x13_1 p172 q172
                  cases e172
                  replace p172 := eq_true p172
                  replace q172 := eq_true q172
                  go_wp2
                  repeat (go_quiet (fail); try go_wp2)
                  all_goals
                    go_ret
                    exact ⟨by first | rfl | (simp; done) | (simp [*]; done), by repeat (first | exact Drawn0.refl _ | apply Drawn0.step)⟩
              · rw [if_neg c7] at H
                exact absurd H (by simp)
            · rw [if_neg c6] at H
              exact absurd H (by simp)
          · rw [if_neg c5] at H
            exact absurd H (by simp)
        · rw [if_neg c4] at H
          have c4b0 : decide (x13_1 < (l0.length : Int)) = false := decide_eq_false c4
          clear c4
          obtain rfl := Option.some.inj H
          go_wp2
          repeat (go_quiet (fail); try go_wp2)
          all_goals
            go_ret
            exact ⟨by first | rfl | (simp; done) | (simp [*]; done), by repeat (first | exact Drawn0.refl _ | apply Drawn0.step)⟩
  · rw [if_neg c3] at H
    have c3b0 : ((l0.length : Int) == (l1.length : Int)) = false := beq_eq_false_iff_ne.mpr c3
    have c3b1 : ((l0.length : Int) != (l1.length : Int)) = true := bne_iff_ne.mpr c3
    have c3b2 : (l0.length == l1.length) = false := by first | simpa using c3 | (simp at c3 ⊢; omega)
    obtain rfl := Option.some.inj H
    go_enter Try.func126, Try.ntmps126
    go_wp2
    repeat (go_quiet (fail); try go_wp2)
    all_goals
      go_ret
      exact ⟨by first | rfl | (simp; done) | (simp [*]; done), by repeat (first | exact Drawn0.refl _ | apply Drawn0.step)⟩

end Go.Proofs.Ytmbiebdcnadhkaa.QFrame

-- Written by myprint.py, a program of this session (in its repo under wip/tools), out of the loaded functions; Lean checks it.
namespace Go.Proofs.Ytmbiebdcnadhkaa.QFrame
open Go.RowKit Go.Proofs.YtmbiebdcnadhkaaW.PrintWords Go.Proofs.YtmbiebdcnadhkaaW.PrintLast Go.Proofs.YtmbiebdcnadhkaaW.PrintMore
attribute [local go_sem] max2_int min2_int max_two min_two max_three min_three max_four min_four   -- for this text's walks alone
set_option linter.unusedVariables false
set_option linter.unusedSimpArgs false

/-! ### crc_Open: function 108 -/
def crc_Open.f (k : Nat) (l0 : List Int) : Option (List Int × Int) := if (wrap64 ((l0.length : Int) - 4)) < 0 then (some (([] : List Int), 3)) else (if 0 ≤ (wrap64 ((l0.length : Int) - 4)) then (if (wrap64 ((l0.length : Int) - 4)) ≤ (l0.length : Int) then ((crc_tail.f k (l0.take ((wrap64 ((l0.length : Int) - 4)) : Int).toNat)).bind fun t174 => ((slices_Equal_byte_byte.f k t174 (l0.drop ((wrap64 ((l0.length : Int) - 4)) : Int).toNat)).bind fun t178 => (if t178 = true then ((slices_Clone_byte_byte.f (l0.take ((wrap64 ((l0.length : Int) - 4)) : Int).toNat)).bind fun t180 => (some (t180, 0))) else (some (([] : List Int), 4))))) else (none)) else (none))
def crc_Open.T4 : Bool × List (List Nat × List Nat) := (true, [([], []), ([], []), ([0, 1], [0, 1]), ([2], [2]), ([], []), ([], []), ([4, 5], [4, 5]), ([3, 6, 3], [3, 6]), ([7], [7])])
def crc_Open.B4 : List Nat := [0, 0, 3, 7, 0, 0, 48, 127, 255]
theorem crc_Open.tab4 : rtab .any (opsOf Try.f108 4) = crc_Open.T4 := by kernel_rfl
theorem crc_Open.bits4 : waitsOk crc_Open.T4.2 crc_Open.B4 = true := by kernel_rfl
set_option maxHeartbeats 8000000 in
set_option maxRecDepth 100000 in
theorem crc_Open.calls (k : Nat) (A0 : Option Addr) (c0 : Nat) (l0 : List Int) (r1 : List Int) (r2 : Int) (w : World) (hr0 : Kd.C (Kd.int .u8) w A0 l0.length l0) (hc0 : l0.length ≤ c0) (h : crc_Open.f k l0 = some (r1, r2)) :
    Calls Try.prog 108 #[.slice A0 l0.length c0] w fun e w' => ∃ v0_ : Value, e = .returned (.tuple #[v0_, .int .i64 r2]) ∧ Kd.R (Kd.int .u8) 5 w' w.heap.size (fun _ => True) v0_ r1 ∧ Below w.heap.size w w' := by
  have HR0 := Aside0.mk hr0
  have HC0 := Aside0.mk hc0
  clear hr0 hc0
  have HB := Aside0.mk (Below.refl w.heap.size w)
  have H : (if (wrap64 ((l0.length : Int) - 4)) < 0 then (some (([] : List Int), 3)) else (if 0 ≤ (wrap64 ((l0.length : Int) - 4)) then (if (wrap64 ((l0.length : Int) - 4)) ≤ (l0.length : Int) then ((crc_tail.f k (l0.take ((wrap64 ((l0.length : Int) - 4)) : Int).toNat)).bind fun t174 => ((slices_Equal_byte_byte.f k t174 (l0.drop ((wrap64 ((l0.length : Int) - 4)) : Int).toNat)).bind fun t178 => (if t178 = true then ((slices_Clone_byte_byte.f (l0.take ((wrap64 ((l0.length : Int) - 4)) : Int).toNat)).bind fun t180 => (some (t180, 0))) else (some (([] : List Int), 4))))) else (none)) else (none))) = some (r1, r2) := h
  clear h
  by_cases c2 : (wrap64 ((l0.length : Int) - 4)) < 0
  · rw [if_pos c2] at H
    have c2b0 : decide ((wrap64 ((l0.length : Int) - 4)) < 0) = true := decide_eq_true c2
    clear c2
    simp only [Option.some.injEq, Prod.mk.injEq] at H
    obtain ⟨rfl, rfl⟩ := H
    go_enter Try.func108, Try.ntmps108
    go_wp2
    go_ret2
    exact ⟨_, by first | rfl | (simp [errW_none, errW_some] <;> rfl) | (simp [*, errW_none, errW_some] <;> rfl), by first | exact Kd.R_nil _ _ _ _ _ | exact Kd.N_nil _ _ _ _ _ | exact Kd.V_nil _ _ _ _ _ | exact Kd.Q_nil _ _ _ _ _ | exact Kd.S_nil _ _ _ _ _, by repeat (first | (with_reducible first | exact HB.out | apply below_alloc | apply pw_below_drewN | apply below_drew1) | exact HB.out)⟩
  · rw [if_neg c2] at H
    have c2b0 : decide ((wrap64 ((l0.length : Int) - 4)) < 0) = false := decide_eq_false c2
    clear c2
    obtain ⟨ji3, hji3⟩ : ∃ j_ : Int, (wrap64 ((l0.length : Int) - 4)) = j_ := ⟨_, rfl⟩
    replace H : (if 0 ≤ (ji3) then (if (ji3) ≤ (l0.length : Int) then ((crc_tail.f k (l0.take ((ji3) : Int).toNat)).bind fun t174 => ((slices_Equal_byte_byte.f k t174 (l0.drop ((ji3) : Int).toNat)).bind fun t178 => (if t178 = true then ((slices_Clone_byte_byte.f (l0.take ((ji3) : Int).toNat)).bind fun t180 => (some (t180, 0))) else (some (([] : List Int), 4))))) else (none)) else (none)) = some (r1, r2) := by first | (rw [hji3] at H; exact H) | (simp only [hji3] at H ⊢; exact H)
    (try rw [hji3] at c2b0)
    have hji3w : (IntKind.i64.wrap ((l0.length : Int) - 4)) = ji3 := (i64_w _).trans hji3
    by_cases c4 : 0 ≤ (ji3)
    · rw [if_pos c4] at H
      have c4b0 := eq_true c4
      have c4b1 : decide (0 ≤ (ji3)) = true := decide_eq_true c4
      clear c4
      by_cases c5 : (ji3) ≤ (l0.length : Int)
      · rw [if_pos c5] at H
        have c5b0 := eq_true c5
        have c5b1 : decide ((ji3) ≤ (l0.length : Int)) = true := decide_eq_true c5
        clear c5
        replace H := Option.bind_eq_some_iff.mp H
        obtain ⟨t174, A60, H⟩ := H
        replace H : ((slices_Equal_byte_byte.f k t174 (l0.drop ((ji3) : Int).toNat)).bind fun t178 => (if t178 = true then ((slices_Clone_byte_byte.f (l0.take ((ji3) : Int).toNat)).bind fun t180 => (some (t180, 0))) else (some (([] : List Int), 4)))) = some (r1, r2) := H
        have A6 := Aside0.mk A60
        clear A60
        have c7b0 := eq_true (of_decide_eq_true (by first | (with_reducible assumption) | assumption) : 0 ≤ (ji3))
        have c8b0 := eq_true (of_decide_eq_true (by first | (with_reducible assumption) | assumption) : (ji3) ≤ (l0.length : Int))
        replace H := Option.bind_eq_some_iff.mp H
        obtain ⟨t178, A90, H⟩ := H
        replace H : (if t178 = true then ((slices_Clone_byte_byte.f (l0.take ((ji3) : Int).toNat)).bind fun t180 => (some (t180, 0))) else (some (([] : List Int), 4))) = some (r1, r2) := H
        have A9 := Aside0.mk A90
        clear A90
        by_cases c10 : t178 = true
        · subst c10
          have H1 : ((slices_Clone_byte_byte.f (l0.take ((ji3) : Int).toNat)).bind fun t180 => (some (t180, 0))) = some (r1, r2) := by rw [if_pos rfl] at H; exact H
          clear H
          have H := H1
          clear H1
          have c11b0 := eq_true (of_decide_eq_true (by first | (with_reducible assumption) | assumption) : 0 ≤ (ji3))
          have c12b0 := eq_true (of_decide_eq_true (by first | (with_reducible assumption) | assumption) : (ji3) ≤ (l0.length : Int))
          replace H := Option.bind_eq_some_iff.mp H
          obtain ⟨t180, A130, H⟩ := H
          replace H : (some (t180, 0)) = some (r1, r2) := H
          have A13 := Aside0.mk A130
          clear A130
          simp only [Option.some.injEq, Prod.mk.injEq] at H
          obtain ⟨rfl, rfl⟩ := H
          go_enter Try.func108, Try.ntmps108
          try go_wp2
          have n0_ := Aside0.mk (below_drew1 HB.out)
          clear HB
          have HB := n0_
          clear n0_
          obtain ⟨i015, hi015, _, hsz15, _⟩ := info_parts info5
          obtain ⟨hcut15, hA15, hC15⟩ := print_take_of (P := Try.prog) (Value.int .u8) 0 36 5 .i64 Try.underlying36 hi015 hsz15 A0 c0 l0 (ji3) (of_decide_eq_true (by first | (with_reducible assumption) | assumption)) (of_decide_eq_true (by first | (with_reducible assumption) | assumption)) HC0.out
          have HR173 := Aside0.mk (Kd.C_of_reads (h1 := fun _ => rfl) (hA15 _ (Kd.reads_of_C HR0.out)))
          have HC173 := Aside0.mk hC15
          clear hA15 hC15 hi015 hsz15
          obtain ⟨i016, hi016, _, hsz16, _⟩ := info_parts info5
          obtain ⟨A16, hcut16, hA16, hC16⟩ := print_drop_of (P := Try.prog) (Value.int .u8) 0 36 5 .i64 Try.underlying36 hi016 hsz16 A0 c0 l0 (ji3) (of_decide_eq_true (by first | (with_reducible assumption) | assumption)) (of_decide_eq_true (by first | (with_reducible assumption) | assumption)) HC0.out
          have HR177 := Aside0.mk (Kd.C_of_reads (h1 := fun _ => rfl) (hA16 _ (Kd.reads_of_C HR0.out)))
          have HC177 := Aside0.mk hC16
          clear hA16 hC16 hi016 hsz16
          refine start_ (n := 9) (S := fun w' => True) (ds := []) #[false, false, false, false, false, false, false, false, false] (by kernel_rfl) rfl rfl trivial (fun hHeld => ?_); refine with_tabW crc_Open.tab4 crc_Open.bits4 (fun HT_ HW_ => ?_)
          generalize w.drew = w14 at HB HR173 HR177 hHeld ⊢
          refine pure_ (i := 0) (N := some 10) (v := ?_) (a' := ?_) #[true, false, false, false, false, false, false, false, false] rfl rfl (any_of HT_.out (by kernel_rfl)) (fun _ _ _ h => h) (Or.inl ⟨by rfl, ?_⟩) ?_ ?_
          rotate_left
          · intro w'
            go_simp
            with_reducible rfl
          rotate_left
          · simp only [Act.put, List.setIfInBounds_toArray, List.set_cons_zero, List.set_cons_succ, i64_w, i32_w]
            rfl
          refine pure_ (i := 1) (N := some 11) (v := ?_) (a' := ?_) #[true, true, false, false, false, false, false, false, false] rfl rfl (any_of HT_.out (by kernel_rfl)) (fun _ _ _ h => h) (Or.inl ⟨by rfl, ?_⟩) ?_ ?_
          rotate_left
          · intro w'
            go_simp
            with_reducible rfl
          rotate_left
          · simp only [Act.put, List.setIfInBounds_toArray, List.set_cons_zero, List.set_cons_succ, i64_w, i32_w]
            rfl
          refine pure_ (i := 2) (N := some 12) (v := ?_) (a' := ?_) #[true, true, true, false, false, false, false, false, false] rfl rfl (any_of HT_.out (by kernel_rfl)) (fun _ _ _ h => h) (Or.inl ⟨by rfl, ?_⟩) ?_ ?_
          rotate_left
          · intro w'
            go_simp
            with_reducible rfl
          rotate_left
          · simp only [Act.put, List.setIfInBounds_toArray, List.set_cons_zero, List.set_cons_succ, i64_w, i32_w]
            rfl
          refine pure_ (i := 4) (N := some 14) (v := ?_) (a' := ?_) #[true, true, true, false, true, false, false, false, false] rfl rfl (any_of HT_.out (by kernel_rfl)) (fun _ _ _ h => h) (Or.inl ⟨by rfl, ?_⟩) ?_ ?_
          rotate_left
          · intro w'
            go_simp
            with_reducible rfl
          rotate_left
          · simp only [Act.put, List.setIfInBounds_toArray, List.set_cons_zero, List.set_cons_succ, i64_w, i32_w]
            rfl
          refine pure_ (i := 5) (N := some 15) (v := ?_) (a' := ?_) #[true, true, true, false, true, true, false, false, false] rfl rfl (any_of HT_.out (by kernel_rfl)) (fun _ _ _ h => h) (Or.inl ⟨by rfl, ?_⟩) ?_ ?_
          rotate_left
          · intro w'
            go_simp
            with_reducible rfl
          rotate_left
          · simp only [Act.put, List.setIfInBounds_toArray, List.set_cons_zero, List.set_cons_succ, i64_w, i32_w]
            rfl
          refine pure_ (i := 6) (N := some 16) (v := ?_) (a' := ?_) #[true, true, true, false, true, true, true, false, false] rfl rfl (any_of HT_.out (by kernel_rfl)) (fun _ _ _ h => h) (Or.inl ⟨by rfl, ?_⟩) ?_ ?_
          rotate_left
          · intro w'
            go_simp
            with_reducible rfl
          rotate_left
          · simp only [Act.put, List.setIfInBounds_toArray, List.set_cons_zero, List.set_cons_succ, i64_w, i32_w]
            rfl
          refine one_ (i := 3) (N := some 13) #[true, true, true, true, true, true, true, false, false] rfl rfl (one_of HT_.out (by kernel_rfl)) (by decide) (fun K hK => ?_)
          refine goes_ Try.func119 (by kernel_rfl) rfl #[.slice A0 (l0.take ((ji3) : Int).toNat).length c0] (by rfl) rfl rfl (by (try simp only [List.map_toArray, List.map_cons, List.map_nil]); first | done | (rw [show (l0.take ((ji3) : Int).toNat).length = (ji3).toNat from (by rw [List.length_take]; have h_ : ((ji3) : Int) ≤ (l0.length : Int) := of_decide_eq_true (by first | (with_reducible assumption) | assumption); omega)] <;> rfl) | (simp only [hji3]; rfl) | rfl | (simp only [List.length_drop, List.length_take]; rfl)) ?_
          with_reducible refine (crc_tail.calls k _ _ (l0.take ((ji3) : Int).toNat) t174 _ ?side1 ?side2 A6.out).mono ?_
          (case side1 => repeat (first | exact (Kd.C_below HR173.out HB.out) | (with_reducible refine Kd.C_alloc ?_ _) | (with_reducible refine Kd.C_drewN ?_ _) | (with_reducible refine Kd.C_drew ?_)))
          (case side2 => exact HC173.out)
          rintro e w17 ⟨v175, rfl, ho0, hb⟩
          refine ⟨_, rfl, ?_⟩
          have n0_ := Aside0.mk (Kd.R_lower ho0 (below_size (by repeat (first | (with_reducible first | exact HB.out | apply below_alloc | apply pw_below_drewN | apply below_drew1) | exact HB.out))))
          have n1_ := Aside0.mk (below_step (by repeat (first | (with_reducible first | exact HB.out | apply below_alloc | apply pw_below_drewN | apply below_drew1) | exact HB.out)) hb)
          clear HB
          have HO176 := n0_
          have HB := n1_
          clear n0_ n1_
          (try clear hb)
          (try clear hb2)
          (try clear hk)
          (try clear hi)
          (try clear ho0)
          obtain ⟨Ao18, co18, eo18⟩ := Kd.R_slice HO176.out
          (first | subst eo18 | (injection eo18 with f1_ f2_ f3_; have f4_ := f1_.symm; have f5_ := f3_.symm; clear f1_ f2_ f3_; subst f4_; subst f5_))
          refine hK.out _ _ trivial (fun hHeld => ?_)
          clear hK K
          refine norm_ (a' := ?_) ?_ ?_
          rotate_left
          · show Act.put _ (some 13) _ = _
            simp only [Act.put, List.setIfInBounds_toArray, List.set_cons_zero, List.set_cons_succ, i64_w, i32_w]
            rfl
          refine one_ (i := 7) (N := some 17) #[true, true, true, true, true, true, true, true, false] rfl rfl (one_of HT_.out (by kernel_rfl)) (by decide) (fun K hK => ?_)
          refine goes_ Try.func126 (by kernel_rfl) rfl #[.slice Ao18 t174.length co18, .slice A16 (l0.drop ((ji3) : Int).toNat).length (c0 - (ji3).toNat)] (by rfl) rfl rfl (by (try simp only [List.map_toArray, List.map_cons, List.map_nil]); first | done | (rw [show (l0.drop ((ji3) : Int).toNat).length = (l0.length - (ji3).toNat) from List.length_drop] <;> rfl) | (simp only [hji3]; rfl) | rfl | (simp only [List.length_drop, List.length_take]; rfl)) ?_
          with_reducible refine (slices_Equal_byte_byte.calls k _ _ t174 _ _ (l0.drop ((ji3) : Int).toNat) true _ ?side1 ?side2 ?side3 ?side4 A9.out).mono ?_
          (case side1 => repeat (first | exact (Kd.R_reads' HO176.out).2.2 | (with_reducible refine Kd.C_alloc ?_ _) | (with_reducible refine Kd.C_drewN ?_ _) | (with_reducible refine Kd.C_drew ?_)))
          (case side2 => exact (Kd.R_reads' HO176.out).2.1)
          (case side3 => repeat (first | exact (Kd.C_below HR177.out HB.out) | (with_reducible refine Kd.C_alloc ?_ _) | (with_reducible refine Kd.C_drewN ?_ _) | (with_reducible refine Kd.C_drew ?_)))
          (case side4 => exact HC177.out)
          rintro e w' ⟨rfl, ⟨nd, rfl⟩⟩
          refine ⟨_, rfl, ?_⟩
          refine hK.out _ _ trivial (fun hHeld => ?_)
          clear hK K
          refine norm_ (a' := ?_) ?_ ?_
          rotate_left
          · show Act.put _ (some 17) _ = _
            simp only [Act.put, List.setIfInBounds_toArray, List.set_cons_zero, List.set_cons_succ, i64_w, i32_w]
            rfl
          refine pure_ (i := 8) (N := some 18) (v := ?_) (a' := ?_) #[true, true, true, true, true, true, true, true, true] rfl rfl (any_of HT_.out (by kernel_rfl)) (fun _ _ _ h => h) (Or.inl ⟨by rfl, ?_⟩) ?_ ?_
          rotate_left
          · intro w'
            go_simp
            with_reducible rfl
          rotate_left
          · simp only [Act.put, List.setIfInBounds_toArray, List.set_cons_zero, List.set_cons_succ, i64_w, i32_w]
            rfl
          refine done_ (done_of HT_.out (by kernel_rfl)) ?_
          obtain ⟨i019, hi019, _, hsz19, _⟩ := info_parts info5
          obtain ⟨hcut19, hA19, hC19⟩ := print_take_of (P := Try.prog) (Value.int .u8) 0 36 5 .i64 Try.underlying36 hi019 hsz19 A0 c0 l0 (ji3) (of_decide_eq_true (by first | (with_reducible assumption) | assumption)) (of_decide_eq_true (by first | (with_reducible assumption) | assumption)) HC0.out
          have HR179 := Aside0.mk (Kd.C_of_reads (h1 := fun _ => rfl) (hA19 _ (Kd.reads_of_C HR0.out)))
          have HC179 := Aside0.mk hC19
          clear hA19 hC19 hi019 hsz19
          try go_wp2_with (first | ((with_reducible refine gate_callee (f := 117) rfl ?_); refine goesL_ (some 22) rfl rfl Try.func117 (by kernel_rfl) rfl #[.slice A0 (l0.take ((ji3) : Int).toNat).length c0] rfl (by (try simp only [List.map_toArray, List.map_cons, List.map_nil]); first | done | (rw [show (l0.take ((ji3) : Int).toNat).length = (ji3).toNat from (by rw [List.length_take]; have h_ : ((ji3) : Int) ≤ (l0.length : Int) := of_decide_eq_true (by first | (with_reducible assumption) | assumption); omega)] <;> rfl) | (simp only [hji3]; rfl) | rfl | (simp only [List.length_drop, List.length_take]; rfl)) ?_; (with_reducible refine (slices_Clone_byte_byte.calls _ _ (l0.take ((ji3) : Int).toNat) t180 _ ?side1 ?side2 A13.out).mono ?_); (case side1 => repeat (first | exact (Kd.C_below HR179.out (by repeat (first | (with_reducible first | exact HB.out | apply below_alloc | apply pw_below_drewN | apply below_drew1) | exact HB.out))) | (with_reducible refine Kd.C_alloc ?_ _) | (with_reducible refine Kd.C_drewN ?_ _) | (with_reducible refine Kd.C_drew ?_))); (case side2 => exact HC179.out); rintro e w20 ⟨v181, rfl, ho0, hb⟩; refine ⟨_, rfl, ?_⟩; have n0_ := Aside0.mk (Kd.R_elder' (by (with_reducible repeat (first | apply Kd.R_alloc | apply Kd.R_drewN | apply Kd.R_drew)); exact HO176.out) (Kd.R_base ho0) hb); have n1_ := Aside0.mk (Kd.R_lower (Kd.R_new' ho0 (Kd.R_lt (by (with_reducible repeat (first | apply Kd.R_alloc | apply Kd.R_drewN | apply Kd.R_drew)); exact HO176.out))) (below_size (by repeat (first | (with_reducible first | exact HB.out | apply below_alloc | apply pw_below_drewN | apply below_drew1) | exact HB.out)))); have n2_ := Aside0.mk (below_step (by repeat (first | (with_reducible first | exact HB.out | apply below_alloc | apply pw_below_drewN | apply below_drew1) | exact HB.out)) hb); clear HO176; clear HB; have HO176 := n0_; have HO182 := n1_; have HB := n2_; clear n0_ n1_ n2_; (try clear hb); (try clear hb2); (try clear hk); (try clear hi); (try clear ho0)))
          go_ret2
          exact ⟨_, by first | rfl | (simp [errW_none, errW_some] <;> rfl) | (simp only [← hji3]; first | rfl | (simp [errW_none, errW_some] <;> rfl)) | (simp [*, errW_none, errW_some] <;> rfl), by (with_reducible repeat (first | apply Kd.R_alloc | apply Kd.R_drewN | apply Kd.R_drew)); exact Kd.R_mono HO182.out (fun _ hk => trivial), by repeat (first | (with_reducible first | exact HB.out | apply below_alloc | apply pw_below_drewN | apply below_drew1) | exact HB.out)⟩
        · replace c10 := Bool.eq_false_iff.mpr c10
          subst c10
          have H1 : (some (([] : List Int), 4)) = some (r1, r2) := by rw [if_neg (show ¬ (false = true) by decide)] at H; exact H
          clear H
          have H := H1
          clear H1
          simp only [Option.some.injEq, Prod.mk.injEq] at H
          obtain ⟨rfl, rfl⟩ := H
          go_enter Try.func108, Try.ntmps108
          try go_wp2
          have n0_ := Aside0.mk (below_drew1 HB.out)
          clear HB
          have HB := n0_
          clear n0_
          obtain ⟨i022, hi022, _, hsz22, _⟩ := info_parts info5
          obtain ⟨hcut22, hA22, hC22⟩ := print_take_of (P := Try.prog) (Value.int .u8) 0 36 5 .i64 Try.underlying36 hi022 hsz22 A0 c0 l0 (ji3) (of_decide_eq_true (by first | (with_reducible assumption) | assumption)) (of_decide_eq_true (by first | (with_reducible assumption) | assumption)) HC0.out
          have HR173 := Aside0.mk (Kd.C_of_reads (h1 := fun _ => rfl) (hA22 _ (Kd.reads_of_C HR0.out)))
          have HC173 := Aside0.mk hC22
          clear hA22 hC22 hi022 hsz22
          obtain ⟨i023, hi023, _, hsz23, _⟩ := info_parts info5
          obtain ⟨A23, hcut23, hA23, hC23⟩ := print_drop_of (P := Try.prog) (Value.int .u8) 0 36 5 .i64 Try.underlying36 hi023 hsz23 A0 c0 l0 (ji3) (of_decide_eq_true (by first | (with_reducible assumption) | assumption)) (of_decide_eq_true (by first | (with_reducible assumption) | assumption)) HC0.out
          have HR177 := Aside0.mk (Kd.C_of_reads (h1 := fun _ => rfl) (hA23 _ (Kd.reads_of_C HR0.out)))
          have HC177 := Aside0.mk hC23
          clear hA23 hC23 hi023 hsz23
          refine start_ (n := 9) (S := fun w' => True) (ds := []) #[false, false, false, false, false, false, false, false, false] (by kernel_rfl) rfl rfl trivial (fun hHeld => ?_); refine with_tabW crc_Open.tab4 crc_Open.bits4 (fun HT_ HW_ => ?_)
          generalize w.drew = w21 at HB HR173 HR177 hHeld ⊢
          refine pure_ (i := 0) (N := some 10) (v := ?_) (a' := ?_) #[true, false, false, false, false, false, false, false, false] rfl rfl (any_of HT_.out (by kernel_rfl)) (fun _ _ _ h => h) (Or.inl ⟨by rfl, ?_⟩) ?_ ?_
          rotate_left
          · intro w'
            go_simp
            with_reducible rfl
          rotate_left
          · simp only [Act.put, List.setIfInBounds_toArray, List.set_cons_zero, List.set_cons_succ, i64_w, i32_w]
            rfl
          refine pure_ (i := 1) (N := some 11) (v := ?_) (a' := ?_) #[true, true, false, false, false, false, false, false, false] rfl rfl (any_of HT_.out (by kernel_rfl)) (fun _ _ _ h => h) (Or.inl ⟨by rfl, ?_⟩) ?_ ?_
          rotate_left
          · intro w'
            go_simp
            with_reducible rfl
          rotate_left
          · simp only [Act.put, List.setIfInBounds_toArray, List.set_cons_zero, List.set_cons_succ, i64_w, i32_w]
            rfl
          refine pure_ (i := 2) (N := some 12) (v := ?_) (a' := ?_) #[true, true, true, false, false, false, false, false, false] rfl rfl (any_of HT_.out (by kernel_rfl)) (fun _ _ _ h => h) (Or.inl ⟨by rfl, ?_⟩) ?_ ?_
          rotate_left
          · intro w'
            go_simp
            with_reducible rfl
          rotate_left
          · simp only [Act.put, List.setIfInBounds_toArray, List.set_cons_zero, List.set_cons_succ, i64_w, i32_w]
            rfl
          refine pure_ (i := 4) (N := some 14) (v := ?_) (a' := ?_) #[true, true, true, false, true, false, false, false, false] rfl rfl (any_of HT_.out (by kernel_rfl)) (fun _ _ _ h => h) (Or.inl ⟨by rfl, ?_⟩) ?_ ?_
          rotate_left
          · intro w'
            go_simp
            with_reducible rfl
          rotate_left
          · simp only [Act.put, List.setIfInBounds_toArray, List.set_cons_zero, List.set_cons_succ, i64_w, i32_w]
            rfl
          refine pure_ (i := 5) (N := some 15) (v := ?_) (a' := ?_) #[true, true, true, false, true, true, false, false, false] rfl rfl (any_of HT_.out (by kernel_rfl)) (fun _ _ _ h => h) (Or.inl ⟨by rfl, ?_⟩) ?_ ?_
          rotate_left
          · intro w'
            go_simp
            with_reducible rfl
          rotate_left
          · simp only [Act.put, List.setIfInBounds_toArray, List.set_cons_zero, List.set_cons_succ, i64_w, i32_w]
            rfl
          refine pure_ (i := 6) (N := some 16) (v := ?_) (a' := ?_) #[true, true, true, false, true, true, true, false, false] rfl rfl (any_of HT_.out (by kernel_rfl)) (fun _ _ _ h => h) (Or.inl ⟨by rfl, ?_⟩) ?_ ?_
          rotate_left
          · intro w'
            go_simp
            with_reducible rfl
          rotate_left
          · simp only [Act.put, List.setIfInBounds_toArray, List.set_cons_zero, List.set_cons_succ, i64_w, i32_w]
            rfl
          refine one_ (i := 3) (N := some 13) #[true, true, true, true, true, true, true, false, false] rfl rfl (one_of HT_.out (by kernel_rfl)) (by decide) (fun K hK => ?_)
          refine goes_ Try.func119 (by kernel_rfl) rfl #[.slice A0 (l0.take ((ji3) : Int).toNat).length c0] (by rfl) rfl rfl (by (try simp only [List.map_toArray, List.map_cons, List.map_nil]); first | done | (rw [show (l0.take ((ji3) : Int).toNat).length = (ji3).toNat from (by rw [List.length_take]; have h_ : ((ji3) : Int) ≤ (l0.length : Int) := of_decide_eq_true (by first | (with_reducible assumption) | assumption); omega)] <;> rfl) | (simp only [hji3]; rfl) | rfl | (simp only [List.length_drop, List.length_take]; rfl)) ?_
          with_reducible refine (crc_tail.calls k _ _ (l0.take ((ji3) : Int).toNat) t174 _ ?side1 ?side2 A6.out).mono ?_
          (case side1 => repeat (first | exact (Kd.C_below HR173.out HB.out) | (with_reducible refine Kd.C_alloc ?_ _) | (with_reducible refine Kd.C_drewN ?_ _) | (with_reducible refine Kd.C_drew ?_)))
          (case side2 => exact HC173.out)
          rintro e w24 ⟨v175, rfl, ho0, hb⟩
          refine ⟨_, rfl, ?_⟩
          have n0_ := Aside0.mk (Kd.R_lower ho0 (below_size (by repeat (first | (with_reducible first | exact HB.out | apply below_alloc | apply pw_below_drewN | apply below_drew1) | exact HB.out))))
          have n1_ := Aside0.mk (below_step (by repeat (first | (with_reducible first | exact HB.out | apply below_alloc | apply pw_below_drewN | apply below_drew1) | exact HB.out)) hb)
          clear HB
          have HO176 := n0_
          have HB := n1_
          clear n0_ n1_
          (try clear hb)
          (try clear hb2)
          (try clear hk)
          (try clear hi)
          (try clear ho0)
          obtain ⟨Ao25, co25, eo25⟩ := Kd.R_slice HO176.out
          (first | subst eo25 | (injection eo25 with f1_ f2_ f3_; have f4_ := f1_.symm; have f5_ := f3_.symm; clear f1_ f2_ f3_; subst f4_; subst f5_))
          refine hK.out _ _ trivial (fun hHeld => ?_)
          clear hK K
          refine norm_ (a' := ?_) ?_ ?_
          rotate_left
          · show Act.put _ (some 13) _ = _
            simp only [Act.put, List.setIfInBounds_toArray, List.set_cons_zero, List.set_cons_succ, i64_w, i32_w]
            rfl
          refine one_ (i := 7) (N := some 17) #[true, true, true, true, true, true, true, true, false] rfl rfl (one_of HT_.out (by kernel_rfl)) (by decide) (fun K hK => ?_)
          refine goes_ Try.func126 (by kernel_rfl) rfl #[.slice Ao25 t174.length co25, .slice A23 (l0.drop ((ji3) : Int).toNat).length (c0 - (ji3).toNat)] (by rfl) rfl rfl (by (try simp only [List.map_toArray, List.map_cons, List.map_nil]); first | done | (rw [show (l0.drop ((ji3) : Int).toNat).length = (l0.length - (ji3).toNat) from List.length_drop] <;> rfl) | (simp only [hji3]; rfl) | rfl | (simp only [List.length_drop, List.length_take]; rfl)) ?_
          with_reducible refine (slices_Equal_byte_byte.calls k _ _ t174 _ _ (l0.drop ((ji3) : Int).toNat) false _ ?side1 ?side2 ?side3 ?side4 A9.out).mono ?_
          (case side1 => repeat (first | exact (Kd.R_reads' HO176.out).2.2 | (with_reducible refine Kd.C_alloc ?_ _) | (with_reducible refine Kd.C_drewN ?_ _) | (with_reducible refine Kd.C_drew ?_)))
          (case side2 => exact (Kd.R_reads' HO176.out).2.1)
          (case side3 => repeat (first | exact (Kd.C_below HR177.out HB.out) | (with_reducible refine Kd.C_alloc ?_ _) | (with_reducible refine Kd.C_drewN ?_ _) | (with_reducible refine Kd.C_drew ?_)))
          (case side4 => exact HC177.out)
          rintro e w' ⟨rfl, ⟨nd, rfl⟩⟩
          refine ⟨_, rfl, ?_⟩
          refine hK.out _ _ trivial (fun hHeld => ?_)
          clear hK K
          refine norm_ (a' := ?_) ?_ ?_
          rotate_left
          · show Act.put _ (some 17) _ = _
            simp only [Act.put, List.setIfInBounds_toArray, List.set_cons_zero, List.set_cons_succ, i64_w, i32_w]
            rfl
          refine pure_ (i := 8) (N := some 18) (v := ?_) (a' := ?_) #[true, true, true, true, true, true, true, true, true] rfl rfl (any_of HT_.out (by kernel_rfl)) (fun _ _ _ h => h) (Or.inl ⟨by rfl, ?_⟩) ?_ ?_
          rotate_left
          · intro w'
            go_simp
            with_reducible rfl
          rotate_left
          · simp only [Act.put, List.setIfInBounds_toArray, List.set_cons_zero, List.set_cons_succ, i64_w, i32_w]
            rfl
          refine done_ (done_of HT_.out (by kernel_rfl)) ?_
          try go_wp2
          go_ret2
          exact ⟨_, by first | rfl | (simp [errW_none, errW_some] <;> rfl) | (simp only [← hji3]; first | rfl | (simp [errW_none, errW_some] <;> rfl)) | (simp [*, errW_none, errW_some] <;> rfl), by first | exact Kd.R_nil _ _ _ _ _ | exact Kd.N_nil _ _ _ _ _ | exact Kd.V_nil _ _ _ _ _ | exact Kd.Q_nil _ _ _ _ _ | exact Kd.S_nil _ _ _ _ _, by repeat (first | (with_reducible first | exact HB.out | apply below_alloc | apply pw_below_drewN | apply below_drew1) | exact HB.out)⟩
      · rw [if_neg c5] at H
        exact absurd H (by simp)
    · rw [if_neg c4] at H
      exact absurd H (by simp)

end Go.Proofs.Ytmbiebdcnadhkaa.QFrame

-- Written by myprint.py, a program of this session (in its repo under wip/tools), out of the loaded functions; Lean checks it.
namespace Go.Proofs.Ytmbiebdcnadhkaa.QFrame
open Go.RowKit Go.Proofs.YtmbiebdcnadhkaaW.PrintWords Go.Proofs.YtmbiebdcnadhkaaW.PrintLast Go.Proofs.YtmbiebdcnadhkaaW.PrintMore
attribute [local go_sem] max2_int min2_int max_two min_two max_three min_three max_four min_four   -- for this text's walks alone
set_option linter.unusedVariables false
set_option linter.unusedSimpArgs false

/-! ### crc_Seal: function 98 -/
def crc_Seal.f (k : Nat) (l0 : List Int) : Option (List Int) := (crc_tail.f k l0).bind fun t => (if 0 < l0.length + t.length ∧ l0.length + t.length ≤ 1000000 then some (l0 ++ t) else none)
set_option maxHeartbeats 400000 in
theorem crc_Seal.calls (k : Nat) (A0 : Option Addr) (c0 : Nat) (l0 : List Int) (r : List Int) (w : World) (hr0 : Kd.C (Kd.int .u8) w A0 l0.length l0) (hc0 : l0.length ≤ c0) (h : crc_Seal.f k l0 = some r) :
    Calls Try.prog 98 #[.slice A0 l0.length c0] w fun e w' => ∃ v0_ : Value, e = .returned (v0_) ∧ Kd.R (Kd.int .u8) 5 w' w.heap.size (fun _ => True) v0_ r ∧ Below w.heap.size w w' := by
  obtain ⟨t, A1, H⟩ := Option.bind_eq_some_iff.mp h
  clear h
  by_cases hp : 0 < l0.length + t.length ∧ l0.length + t.length ≤ 1000000
  · rw [if_pos hp] at H
    obtain rfl := Option.some.inj H
    clear H
    have HR0 := Aside0.mk hr0
    have HT := Aside0.mk A1
    have HP := Aside0.mk hp
    have HC := Aside0.mk hc0
    clear hr0 A1 hp hc0
    go_enter Try.func98, Try.ntmps98
    go_wp2_with (first | (go_at_call 119; refine (crc_tail.calls k A0 c0 l0 t _ HR0.out HC.out HT.out).mono ?_; rintro e w1 ⟨v1, rfl, ho, hb⟩; obtain ⟨B1, c1, e1⟩ := Kd.R_slice ho; subst e1; have HO1 := Aside0.mk ho; have HB1 := Aside0.mk hb; clear ho hb) | (go_at_call 118; refine (Hand.concat_any _ A0 B1 c0 c1 l0 t _ ?c1 ?c2 (Kd.C_alloc (Kd.C_below HR0.out HB1.out) _) (Kd.C_alloc (Kd.R_reads' HO1.out).2.2 _) HP.out.1 HP.out.2).mono ?_; (case c1 => simp); (case c2 => simp); rintro e w2 ⟨v2, rfl, ho, hb⟩; have HO2 := Aside0.mk ho; have HB2 := Aside0.mk hb; clear ho hb))
    all_goals
      go_ret
      exact ⟨_, rfl, Kd.R_lower HO2.out (below_size (below_alloc HB1.out _)), below_step (below_alloc HB1.out _) HB2.out⟩
  · rw [if_neg hp] at H
    cases H


end Go.Proofs.Ytmbiebdcnadhkaa.QFrame

-- Written by myprint.py, a program of this session (in its repo under wip/tools), out of the loaded functions; Lean checks it.
namespace Go.Proofs.Ytmbiebdcnadhkaa.QFrame
open Go.RowKit Go.Proofs.YtmbiebdcnadhkaaW.PrintWords Go.Proofs.YtmbiebdcnadhkaaW.PrintLast Go.Proofs.YtmbiebdcnadhkaaW.PrintMore
attribute [local go_sem] max2_int min2_int max_two min_two max_three min_three max_four min_four   -- for this text's walks alone
set_option linter.unusedVariables false
set_option linter.unusedSimpArgs false

/-! ### spenceref01_Seal: function 106 -/
def spenceref01_Seal.f (k : Nat) (l0 : List Int) : Option (List Int) := if ([] : List Int).length + l0.length < 140737488355328 then ((some (([] : List Int) ++ l0 : List Int)).bind fun y135 => ((spenceref01_Sum.f k l0).bind fun t138 => ((some (([(t138) % 256, (t138 / 256) % 256, (t138 / 65536) % 256, (t138 / 16777216) % 256] : List Int) : List Int)).bind fun y139 => (if y135.length + y139.length < 140737488355328 then (some (y135 ++ y139)) else (none))))) else (none)
end Go.Proofs.Ytmbiebdcnadhkaa.QFrame

-- Written by myprint.py, a program of this session (in its repo under wip/tools), out of the loaded functions; Lean checks it.
namespace Go.Proofs.Ytmbiebdcnadhkaa.QFrame
open Go.RowKit Go.Proofs.YtmbiebdcnadhkaaW.PrintWords Go.Proofs.YtmbiebdcnadhkaaW.PrintLast Go.Proofs.YtmbiebdcnadhkaaW.PrintMore
attribute [local go_sem] max2_int min2_int max_two min_two max_three min_three max_four min_four   -- for this text's walks alone
set_option linter.unusedVariables false
set_option linter.unusedSimpArgs false

/-! ### spenceref01_Bytes: function 77 -/
def spenceref01_Bytes.l0 : Nat → List Int → List Int → Int → Int → Option (Bool)
  | 0, _, _, _, _ => none
  | k + 1, x0, x1, x12, x13 => if x13 < x12 then (if 0 ≤ x13 then (if x13 < (x0.length : Int) then (if x13 < (x1.length : Int) then (if (rd x0 x13) = (rd x1 x13) then (spenceref01_Bytes.l0 k x0 x1 x12 (wrap64 (x13 + 1))) else (some false)) else (none)) else (none)) else (none)) else (some true)
def spenceref01_Bytes.f (k : Nat) (l0 : List Int) (l1 : List Int) : Option (Bool) := if (l0.length : Int) = (l1.length : Int) then (spenceref01_Bytes.l0 k l0 l1 (l0.length : Int) 0) else (some false)
end Go.Proofs.Ytmbiebdcnadhkaa.QFrame

/- What sealing and opening of bytes computes, in plain words. -/
namespace Go.Proofs.Ytmbiebdcnadhkaa.CrcFacts
open Go.RowKit Go.Proofs.YtmbiebdcnadhkaaW.PrintWords Go.Proofs.YtmbiebdcnadhkaaW.PrintLast Go.Proofs.YtmbiebdcnadhkaaW.PrintMore Go.Proofs.Ytmbiebdcnadhkaa.QFrame Go.Proofs.Ytmbiebdcnadhkaa.CrcMath

/-- A sum's four bytes, the lowest first. -/
def le4 (n : Nat) : List Int := [(n : Int) % 256, (n : Int) / 256 % 256, (n : Int) / 65536 % 256, (n : Int) / 16777216 % 256]
theorem le4_len (n : Nat) : (le4 n).length = 4 := rfl
theorem le4_byt (n : Nat) : Byt (le4 n) := by
  intro x hx
  simp only [le4, List.mem_cons, List.not_mem_nil, or_false] at hx
  omega
theorem tail_is (k : Nat) (l : List Int) (hl : Byt l) (hm : l.length ≤ 9223372036854775806) (hk : l.length + 10 ≤ k) : crc_tail.f k l = some (le4 (sum (nb l))) := by
  unfold crc_tail.f
  rw [sum_is k l hl hm hk, Option.bind_some]
  obtain ⟨k, rfl⟩ : ∃ m, k = m + 5 := ⟨k - 5, by omega⟩
  have hs := sum_lt (nb_lt hl)
  generalize sum (nb l) = n at *
  have e0 : shr .u32 (n : Int) 0 = (n : Int) := by simp [shr]
  have e1 : shr .u32 (n : Int) 8 = (n : Int) / 256 := by simp [shr, IntKind.bits]
  have e2 : shr .u32 (n : Int) 16 = (n : Int) / 65536 := by simp [shr, IntKind.bits]
  have e3 : shr .u32 (n : Int) 24 = (n : Int) / 16777216 := by simp [shr, IntKind.bits]
  have w0 : wrap64 (8 * 0) = 0 := by decide +kernel
  have w1 : wrap64 (8 * 1) = 8 := by decide +kernel
  have w2 : wrap64 (8 * 2) = 16 := by decide +kernel
  have w3 : wrap64 (8 * 3) = 24 := by decide +kernel
  have a0 : wrap64 (0 + 1) = 1 := by decide +kernel
  have a1 : wrap64 (1 + 1) = 2 := by decide +kernel
  have a2 : wrap64 (2 + 1) = 3 := by decide +kernel
  have a3 : wrap64 (3 + 1) = 4 := by decide +kernel
  simp only [crc_tail.l0, w0, w1, w2, w3, a0, a1, a2, a3, e0, e1, e2, e3]
  rfl
theorem seal_is (k : Nat) (l : List Int) (hl : Byt l) (hm : l.length ≤ 900000) (hk : l.length + 10 ≤ k) : crc_Seal.f k l = some (l ++ le4 (sum (nb l))) := by
  unfold crc_Seal.f
  rw [tail_is k l hl (by omega) hk, Option.bind_some, if_pos (by rw [le4_len]; omega)]
theorem eq_loop (n : Nat) : ∀ (k i : Nat) (a b : List Int), a.length = b.length → i + n = a.length → a.length ≤ 9223372036854775806 → n < k → slices_Equal_byte_byte.l0 k a b (a.length : Int) (i : Int) = some (decide (a.drop i = b.drop i)) := by
  induction n with
  | zero =>
    intro k i a b hab hi hm hk
    obtain ⟨k, rfl⟩ : ∃ m, k = m + 1 := ⟨k - 1, by omega⟩
    simp only [slices_Equal_byte_byte.l0]
    rw [if_neg (by omega), List.drop_of_length_le (by omega), List.drop_of_length_le (by omega)]
    simp
  | succ n ih =>
    intro k i a b hab hi hm hk
    obtain ⟨k, rfl⟩ : ∃ m, k = m + 1 := ⟨k - 1, by omega⟩
    have ea : a.drop i = rd a i :: a.drop (i + 1) := by
      rw [List.drop_eq_getElem_cons (by omega)]
      simp [rd, List.getD_eq_getElem?_getD, List.getElem?_eq_getElem (show i < a.length by omega)]
    have eb : b.drop i = rd b i :: b.drop (i + 1) := by
      rw [List.drop_eq_getElem_cons (by omega)]
      simp [rd, List.getD_eq_getElem?_getD, List.getElem?_eq_getElem (show i < b.length by omega)]
    simp only [slices_Equal_byte_byte.l0]
    rw [if_pos (by omega), if_pos (by omega), if_pos (by omega), if_pos (by omega), ea, eb]
    by_cases h : rd a i = rd b i
    · rw [if_pos h, wr (a := (i : Int) + 1) (by omega) (by omega), show (i : Int) + 1 = ((i + 1 : Nat) : Int) by omega, ih k (i + 1) a b hab (by omega) hm (by omega)]
      simp [h]
    · rw [if_neg h]
      simp [h]
theorem equal_is (k : Nat) (a b : List Int) (hm : a.length ≤ 9223372036854775806) (hk : a.length < k) : slices_Equal_byte_byte.f k a b = some (decide (a = b)) := by
  unfold slices_Equal_byte_byte.f
  by_cases h : a.length = b.length
  · rw [if_pos (by omega)]
    have := eq_loop a.length k 0 a b h (by omega) hm hk
    simpa using this
  · rw [if_neg (by omega), decide_eq_false (fun e => h (by rw [e]))]
theorem bytes_loop (n : Nat) : ∀ (k i : Nat) (a b : List Int), a.length = b.length → i + n = a.length → a.length ≤ 9223372036854775806 → n < k → spenceref01_Bytes.l0 k a b (a.length : Int) (i : Int) = some (decide (a.drop i = b.drop i)) := by
  induction n with
  | zero =>
    intro k i a b hab hi hm hk
    obtain ⟨k, rfl⟩ : ∃ m, k = m + 1 := ⟨k - 1, by omega⟩
    simp only [spenceref01_Bytes.l0]
    rw [if_neg (by omega), List.drop_of_length_le (by omega), List.drop_of_length_le (by omega)]
    simp
  | succ n ih =>
    intro k i a b hab hi hm hk
    obtain ⟨k, rfl⟩ : ∃ m, k = m + 1 := ⟨k - 1, by omega⟩
    have ea : a.drop i = rd a i :: a.drop (i + 1) := by
      rw [List.drop_eq_getElem_cons (by omega)]
      simp [rd, List.getD_eq_getElem?_getD, List.getElem?_eq_getElem (show i < a.length by omega)]
    have eb : b.drop i = rd b i :: b.drop (i + 1) := by
      rw [List.drop_eq_getElem_cons (by omega)]
      simp [rd, List.getD_eq_getElem?_getD, List.getElem?_eq_getElem (show i < b.length by omega)]
    simp only [spenceref01_Bytes.l0]
    rw [if_pos (by omega), if_pos (by omega), if_pos (by omega), if_pos (by omega), ea, eb]
    by_cases h : rd a i = rd b i
    · rw [if_pos h, wr (a := (i : Int) + 1) (by omega) (by omega), show (i : Int) + 1 = ((i + 1 : Nat) : Int) by omega, ih k (i + 1) a b hab (by omega) hm (by omega)]
      simp [h]
    · rw [if_neg h]
      simp [h]
theorem bytes_is (k : Nat) (a b : List Int) (hm : a.length ≤ 9223372036854775806) (hk : a.length < k) : spenceref01_Bytes.f k a b = some (decide (a = b)) := by
  unfold spenceref01_Bytes.f
  by_cases h : a.length = b.length
  · rw [if_pos (by omega)]
    have := bytes_loop a.length k 0 a b h (by omega) hm hk
    simpa using this
  · rw [if_neg (by omega), decide_eq_false (fun e => h (by rw [e]))]
theorem refseal_is (k : Nat) (l : List Int) (hl : Byt l) (hm : l.length ≤ 900000) (hk : l.length + 10 ≤ k) : spenceref01_Seal.f k l = some (l ++ le4 (sum (nb l))) := by
  unfold spenceref01_Seal.f
  rw [if_pos (by simp; omega), Option.bind_some, refsum_is k l hl (by omega) hk, Option.bind_some, Option.bind_some, if_pos (by simp; omega), List.nil_append]
  rfl
/-- What Open tells. -/
def opened (s : List Int) : List Int × Int :=
  if s.length < 4 then ([], 3) else if le4 (sum (nb (s.take (s.length - 4)))) = s.drop (s.length - 4) then (s.take (s.length - 4), 0) else ([], 4)
theorem open_is (k : Nat) (s : List Int) (hl : Byt s) (hm : s.length ≤ 900000) (hk : s.length + 10 ≤ k) : crc_Open.f k s = some (opened s) := by
  unfold crc_Open.f opened
  rw [wr (by omega) (by omega)]
  by_cases h : s.length < 4
  · rw [if_pos (by omega), if_pos h]
  · have e : ((s.length : Int) - 4).toNat = s.length - 4 := by omega
    have hb : Byt (s.take (s.length - 4)) := fun x hx => hl x (List.mem_of_mem_take hx)
    have hL : (s.take (s.length - 4)).length = s.length - 4 := by rw [List.length_take]; omega
    rw [if_neg (by omega), if_pos (by omega), if_pos (by omega), if_neg h, e, tail_is k _ hb (by omega) (by omega), Option.bind_some, equal_is k _ _ (by rw [le4_len]; omega) (by rw [le4_len]; omega), Option.bind_some]
    by_cases h2 : le4 (sum (nb (s.take (s.length - 4)))) = s.drop (s.length - 4)
    · rw [if_pos (decide_eq_true h2), if_pos h2]
      unfold slices_Clone_byte_byte.f
      rw [if_pos (by omega)]
      rfl
    · rw [if_neg (by simpa using h2), if_neg h2]
end Go.Proofs.Ytmbiebdcnadhkaa.CrcFacts

/- Numbers as bytes, the highest first: plain arithmetic. -/
namespace Go.Proofs.Ytmbiebdcnadhkaa.NumMath
open Go.RowKit
/-- Bytes: each is from 0 to 255. -/
def Byt (l : List Int) : Prop := ∀ x ∈ l, 0 ≤ x ∧ x ≤ 255
theorem Byt.take {l : List Int} (h : Byt l) (k : Nat) : Byt (l.take k) := fun x hx => h x (List.mem_of_mem_take hx)
theorem Byt.drop {l : List Int} (h : Byt l) (k : Nat) : Byt (l.drop k) := fun x hx => h x (List.mem_of_mem_drop hx)
theorem Byt.app {l m : List Int} (h : Byt l) (h' : Byt m) : Byt (l ++ m) := by
  intro x hx
  rcases List.mem_append.1 hx with h1 | h1
  · exact h x h1
  · exact h' x h1
/-- So many bytes of a number. -/
def bb (n : Nat) : Nat → List Int
  | 0 => []
  | m + 1 => ((n / 256 ^ m % 256 : Nat) : Int) :: bb n m
theorem bb_len (n m : Nat) : (bb n m).length = m := by
  induction m with
  | zero => rfl
  | succ m ih => simp [bb, ih]
theorem bb_byt (n m : Nat) : Byt (bb n m) := by
  induction m with
  | zero => intro x hx; cases hx
  | succ m ih =>
    intro x hx
    rcases List.mem_cons.1 hx with h | h
    · subst h; omega
    · exact ih x h
/-- Bytes as a number. -/
def beFrom (a : Nat) (l : List Int) : Nat := l.foldl (fun a x => a * 256 + x.toNat) a
def be (l : List Int) : Nat := beFrom 0 l
theorem be_bb_from (n m : Nat) : ∀ a, beFrom a (bb n m) = a * 256 ^ m + n % 256 ^ m := by
  induction m with
  | zero => intro a; simp [beFrom, bb, Nat.mod_one]
  | succ m ih =>
    intro a
    show beFrom (a * 256 + ((n / 256 ^ m % 256 : Nat) : Int).toNat) (bb n m) = _
    have hm : n % (256 ^ m * 256) = n % 256 ^ m + 256 ^ m * (n / 256 ^ m % 256) := Nat.mod_mul
    rw [ih, Int.toNat_natCast, Nat.add_mul, Nat.pow_succ, hm, Nat.mul_assoc, Nat.mul_comm 256 (256 ^ m), Nat.mul_comm (256 ^ m) (n / 256 ^ m % 256)]
    omega
theorem be_bb (n m : Nat) (h : n < 256 ^ m) : be (bb n m) = n := by
  unfold be
  rw [be_bb_from, Nat.mod_eq_of_lt h, Nat.zero_mul, Nat.zero_add]
theorem be_lt_from (l : List Int) (hl : Byt l) : ∀ a, beFrom a l < (a + 1) * 256 ^ l.length := by
  induction l with
  | nil => intro a; simp [beFrom]
  | cons x l ih =>
    intro a
    have hx := hl x (by simp)
    have h := ih (fun y hy => hl y (by simp [hy])) (a * 256 + x.toNat)
    show beFrom (a * 256 + x.toNat) l < _
    refine Nat.lt_of_lt_of_le h ?_
    rw [List.length_cons, Nat.pow_succ, Nat.mul_comm (256 ^ l.length) 256, ← Nat.mul_assoc]
    exact Nat.mul_le_mul_right _ (by omega)
theorem be_lt (l : List Int) (hl : Byt l) : be l < 256 ^ l.length := by
  have := be_lt_from l hl 0
  simpa [be] using this
theorem u64_wrap (n : Int) (h0 : 0 ≤ n) (h1 : n < 18446744073709551616) : IntKind.u64.wrap n = n := by
  simp [IntKind.wrap, IntKind.bits, IntKind.signed]
  omega
theorem wraps_u64 (n : Int) (h₀ : 0 ≤ n) (h₁ : n < 2 ^ 64) : IntKind.u64.wrap n = n := u64_wrap n h₀ (by omega)
theorem or_add (n x : Nat) (hn : n < 2 ^ 56) (hx : x < 256) : Go.bits .or .u64 (IntKind.u64.wrap ((n : Int) * 256)) (IntKind.u64.wrap (x : Int)) = ((n * 256 + x : Nat) : Int) := by
  rw [u64_wrap _ (by omega) (by omega), u64_wrap _ (by omega) (by omega), show ((n : Int) * 256) = ((n * 256 : Nat) : Int) by omega]
  rw [(bits_nat .u64 64 (by decide) wraps_u64 (n * 256) x (by omega) (by omega)).2]
  congr 1
  have := Nat.two_pow_add_eq_or_of_lt (i := 8) (b := x) (by omega) n
  rw [Nat.mul_comm n 256]
  exact this.symm
theorem wr {a : Int} (h1 : -9223372036854775808 ≤ a) (h2 : a ≤ 9223372036854775807) : wrap64 a = a := by unfold wrap64; omega
end Go.Proofs.Ytmbiebdcnadhkaa.NumMath

-- Written by myprint.py, a program of this session (in its repo under wip/tools), out of the loaded functions; Lean checks it.
namespace Go.Proofs.Ytmbiebdcnadhkaa.QFrame
open Go.RowKit Go.Proofs.YtmbiebdcnadhkaaW.PrintWords Go.Proofs.YtmbiebdcnadhkaaW.PrintLast Go.Proofs.YtmbiebdcnadhkaaW.PrintMore
attribute [local go_sem] max2_int min2_int max_two min_two max_three min_three max_four min_four   -- for this text's walks alone
set_option linter.unusedVariables false
set_option linter.unusedSimpArgs false

/-! ### nums_Put: function 97 -/
def nums_Put.l0 : Nat → Int → List Int → Int → Option (List Int)
  | 0, _, _, _ => none
  | k + 1, x1, x7, x8 => if x8 ≥ 0 then (if 0 ≤ (wrap64 (8 * x8)) then (if x7.length < 140737488355328 then (nums_Put.l0 k x1 (x7 ++ [(shr .u64 x1 (wrap64 (8 * x8))) % 256]) (wrap64 (x8 - 1))) else (none)) else (none)) else (some x7)
def nums_Put.f (k : Nat) (l0 : List Int) (a1 : Int) (a2 : Int) : Option (List Int) := (slices_Clone_byte_byte.f l0).bind fun t101 => (nums_Put.l0 k a1 t101 ((mn (mx a2 0) 8) - 1))
set_option maxHeartbeats 8000000 in
set_option maxRecDepth 100000 in
theorem nums_Put.calls (k : Nat) (A0 : Option Addr) (c0 : Nat) (l0 : List Int) (a1 : Int) (a2 : Int) (r : List Int) (w : World) (hr0 : Kd.C (Kd.int .u8) w A0 l0.length l0) (hc0 : l0.length ≤ c0) (h : nums_Put.f k l0 a1 a2 = some r) :
    Calls Try.prog 97 #[.slice A0 l0.length c0, .int .u64 a1, .int .i64 a2] w fun e w' => ∃ v0_ : Value, e = .returned (v0_) ∧ Kd.R (Kd.int .u8) 5 w' w.heap.size (fun _ => True) v0_ r ∧ Below w.heap.size w w' := by
  have HR0 := Aside0.mk hr0
  have HC0 := Aside0.mk hc0
  clear hr0 hc0
  have HB := Aside0.mk (Below.refl w.heap.size w)
  have H : ((slices_Clone_byte_byte.f l0).bind fun t101 => (nums_Put.l0 k a1 t101 ((mn (mx a2 0) 8) - 1))) = some r := h
  clear h
  replace H := Option.bind_eq_some_iff.mp H
  obtain ⟨t101, A40, H⟩ := H
  replace H : (nums_Put.l0 k a1 t101 ((mn (mx a2 0) 8) - 1)) = some r := H
  have A4 := Aside0.mk A40
  clear A40
  obtain ⟨ji5, hji5⟩ : ∃ j_ : Int, (mx a2 0) = j_ := ⟨_, rfl⟩
  replace H : (nums_Put.l0 k a1 t101 ((mn (ji5) 8) - 1)) = some r := by first | (rw [hji5] at H; exact H) | (simp only [hji5] at H ⊢; exact H)
  (try rw [hji5] at A4)
  (try (have hji5l : 0 ≤ ji5 := by (rw [← hji5]; unfold mx; (repeat' split) <;> omega)))
  (try (have hji5m : 0 ≤ ji5 := by omega))
  have hji5_ : (if a2 < 0 then 0 else a2) = ji5 := hji5
  obtain ⟨ji6, hji6⟩ : ∃ j_ : Int, (mn (ji5) 8) = j_ := ⟨_, rfl⟩
  replace H : (nums_Put.l0 k a1 t101 ((ji6) - 1)) = some r := by first | (rw [hji6] at H; exact H) | (simp only [hji6] at H ⊢; exact H)
  (try rw [hji6] at A4)
  have hji6_ : (if 8 < (ji5) then 8 else (ji5)) = ji6 := hji6
  have H' := Aside0.mk H
  clear H
  go_enter Try.func97, Try.ntmps97
  go_wp2_with (first | ((with_reducible refine gate_callee (f := 117) rfl ?_); refine goesL_ (some 10) rfl rfl Try.func117 (by kernel_rfl) rfl #[.slice A0 l0.length c0] rfl (by (try simp only [List.map_toArray, List.map_cons, List.map_nil]); first | done | rfl | (simp only [List.length_drop, List.length_take]; rfl)) ?_; (with_reducible refine (slices_Clone_byte_byte.calls _ _ l0 t101 _ ?side1 ?side2 A4.out).mono ?_); (case side1 => repeat (first | exact HR0.out | (with_reducible refine Kd.C_alloc ?_ _) | (with_reducible refine Kd.C_drewN ?_ _) | (with_reducible refine Kd.C_drew ?_))); (case side2 => exact HC0.out); rintro e w7 ⟨v102, rfl, ho0, hb⟩; refine ⟨_, rfl, ?_⟩; have n0_ := Aside0.mk (Kd.R_lower ho0 (below_size (by repeat (first | (with_reducible first | exact HB.out | apply below_alloc | apply pw_below_drewN | apply below_drew1) | exact HB.out)))); have n1_ := Aside0.mk (below_step (by repeat (first | (with_reducible first | exact HB.out | apply below_alloc | apply pw_below_drewN | apply below_drew1) | exact HB.out)) hb); clear HB; have HO103 := n0_; have HB := n1_; clear n0_ n1_; (try clear hb); (try clear hb2); (try clear hk); (try clear hi); (try clear ho0)))
  go_loopg [7, 8] k (fun kq v7 v8 w' => ∃ (x7_1 : List Int) (x8_1 : Int), v8 = .int .i64 x8_1 ∧ Aside0 (nums_Put.l0 kq a1 x7_1 x8_1 = some r) ∧ Aside0 (kq ≤ k) ∧ Aside0 (Kd.R (Kd.int .u8) 5 w' w.heap.size (fun _ => True) v7 x7_1) ∧ Aside0 (Below w.heap.size w w'))
  case atStart => exact ⟨(t101), ((ji6) - 1), (by first | rfl | (simp; done) | (simp only [← hji6] <;> (first | rfl | simp)) | (simp [*]; done)), H', ⟨Nat.le_refl _⟩, ⟨by (with_reducible repeat (first | apply Kd.R_alloc | apply Kd.R_drewN | apply Kd.R_drew)); exact HO103.out⟩, ⟨by repeat (first | (with_reducible first | exact HB.out | apply below_alloc | apply pw_below_drewN | apply below_drew1) | exact HB.out)⟩⟩
  case round =>
    clear H'
    try clear c1
    try clear p2
    obtain ⟨x7_1, x8_1, rfl, HA, HK1, HO_7, HB⟩ := hrel
    cases gk with
    | zero => exact absurd HA.out (by simp [nums_Put.l0])
    | succ k1 =>
      have H := HA.out
      clear HA
      simp only [nums_Put.l0] at H
      by_cases c8 : x8_1 ≥ 0
      · rw [if_pos c8] at H
        have c8b0 : decide (0 ≤ x8_1) = true := decide_eq_true c8
        clear c8
        obtain ⟨ji9, hji9⟩ : ∃ j_ : Int, (wrap64 (8 * x8_1)) = j_ := ⟨_, rfl⟩
        replace H : (if 0 ≤ (ji9) then (if x7_1.length < 140737488355328 then (nums_Put.l0 k1 a1 (x7_1 ++ [(shr .u64 a1 (ji9)) % 256]) (wrap64 (x8_1 - 1))) else (none)) else (none)) = some r := by first | (rw [hji9] at H; exact H) | (simp only [hji9] at H ⊢; exact H)
        have hji9w : (IntKind.i64.wrap (8 * x8_1)) = ji9 := (i64_w _).trans hji9
        by_cases c10 : 0 ≤ (ji9)
        · rw [if_pos c10] at H
          have c10b0 := eq_true c10
          have c10b1 : decide (0 ≤ (ji9)) = true := decide_eq_true c10
          clear c10
          obtain ⟨ji11, hji11⟩ : ∃ j_ : Int, (shr .u64 a1 (ji9)) = j_ := ⟨_, rfl⟩
          replace H : (if x7_1.length < 140737488355328 then (nums_Put.l0 k1 a1 (x7_1 ++ [(ji11) % 256]) (wrap64 (x8_1 - 1))) else (none)) = some r := by first | (rw [hji11] at H; exact H) | (simp only [hji11] at H ⊢; exact H)
          have hji11_ : (a1 / 2 ^ min (ji9).toNat 64) = ji11 := hji11
          have hji11z : (ji9) ≤ 64 → (a1 / 2 ^ (ji9).toNat) = ji11 := shr_small hji11
          by_cases c12 : x7_1.length < 140737488355328
          · rw [if_pos c12] at H
            have LMc12 := Aside0.mk c12
            clear c12
            obtain ⟨y104, hy104⟩ : ∃ y_ : List Int, y_ = (x7_1 ++ [(ji11) % 256]) := ⟨_, rfl⟩
            replace H : (nums_Put.l0 k1 a1 y104 (wrap64 (x8_1 - 1))) = some r := by first | (rw [hy104]; with_reducible exact H) | (have H2_ := (Option.bind_some _ _).symm.trans H; rw [hy104]; with_reducible exact H2_) | (have H2_ := (Option.bind_some _ _).symm.trans H; with_reducible exact H2_) | with_reducible exact H | (rw [hy104]; exact H) | exact H
            have Ny104 := Aside0.mk hy104
            clear hy104
            have H' := Aside0.mk H
            clear H
            go_wp2_with (first | ((with_reducible refine gate_builtin (b := .append) (xs := #[.tmp 19, .tmp 25]) rfl ?_); at_builtin; refine Kd.R_append (Kd.int .u8) (w0 := w) w.heap.size rfl (.tmp 19) (.tmp 25) 36 5 (.int .u8 0) 1 rfl Try.underlying36 info5 rfl (by decide) (by omega) u7 x7_1 ((ji11) % 256) [.int .u8 ((ji11) % 256)] (fun _ => True) (fun _ => False) rfl rfl ?aP (fun _ hk => hk.elim) ?aF ?aO ?aB ?aS ?aL ?_; (case aP => exact rfl); (case aB => exact (by repeat (first | (with_reducible first | exact HB.out | apply below_alloc | apply pw_below_drewN | apply below_drew1) | exact HB.out))); (case aF => exact (fun _ _ => trivial)); (case aO => exact (by (with_reducible repeat (first | apply Kd.R_alloc | apply Kd.R_drewN | apply Kd.R_drew)); exact HO_7.out)); (case aS => exact (below_size (by repeat (first | (with_reducible first | exact HB.out | apply below_alloc | apply pw_below_drewN | apply below_drew1) | exact HB.out)))); (case aL => have := LMc12.out; omega); intro v105 w13 ho hb hg hat; rw [← Ny104.out] at ho; have n0_ := Aside0.mk (hb); have n1_ := Aside0.mk (ho); clear HB; clear HO_7; have HB := n0_; have HO106 := n1_; clear n0_ n1_; clear ho hb hg hat))
            go_roundg k1
            case measure => have := HK1.out; omega
            case rel => exact ⟨(y104), (wrap64 (x8_1 - 1)), (by first | rfl | (simp; done) | (simp [*]; done)), H', ⟨by have := HK1.out; omega⟩, ⟨by (with_reducible repeat (first | apply Kd.R_alloc | apply Kd.R_drewN | apply Kd.R_drew)); exact HO106.out⟩, ⟨by repeat (first | (with_reducible first | exact HB.out | apply below_alloc | apply pw_below_drewN | apply below_drew1) | exact HB.out)⟩⟩
          · rw [if_neg c12] at H
            exact absurd H (by simp)
        · rw [if_neg c10] at H
          exact absurd H (by simp)
      · rw [if_neg c8] at H
        have c8b0 : decide (0 ≤ x8_1) = false := decide_eq_false c8
        clear c8
        obtain rfl := Option.some.inj H
        go_wp2
        all_goals
          go_ret
          exact ⟨_, by first | rfl | (simp [errW_none, errW_some] <;> rfl) | (simp only [← hji5, ← hji6]; first | rfl | (simp [errW_none, errW_some] <;> rfl)) | (simp [*, errW_none, errW_some] <;> rfl), by (with_reducible repeat (first | apply Kd.R_alloc | apply Kd.R_drewN | apply Kd.R_drew)); exact HO_7.out, by repeat (first | (with_reducible first | exact HB.out | apply below_alloc | apply pw_below_drewN | apply below_drew1) | exact HB.out)⟩

end Go.Proofs.Ytmbiebdcnadhkaa.QFrame

-- Written by myprint.py, a program of this session (in its repo under wip/tools), out of the loaded functions; Lean checks it.
namespace Go.Proofs.Ytmbiebdcnadhkaa.QFrame
open Go.RowKit Go.Proofs.YtmbiebdcnadhkaaW.PrintWords Go.Proofs.YtmbiebdcnadhkaaW.PrintLast Go.Proofs.YtmbiebdcnadhkaaW.PrintMore
attribute [local go_sem] max2_int min2_int max_two min_two max_three min_three max_four min_four   -- for this text's walks alone
set_option linter.unusedVariables false
set_option linter.unusedSimpArgs false

/-! ### nums_Fits: function 59 -/
def nums_Fits.f (a0 : Int) (a1 : Int) (a2 : Int) : Option (Bool) := if a0 ≥ a1 then (some (decide (a0 ≤ a2))) else (some false)
set_option maxHeartbeats 8000000 in
set_option maxRecDepth 100000 in
theorem nums_Fits.calls (a0 : Int) (a1 : Int) (a2 : Int) (r : Bool) (w : World) (h : nums_Fits.f a0 a1 a2 = some r) :
    Calls Try.prog 59 #[.int .i64 a0, .int .i64 a1, .int .i64 a2] w fun e w' => e = .returned (.bool r) ∧ Drawn0 w w' := by
  have H : (if a0 ≥ a1 then (some (decide (a0 ≤ a2))) else (some false)) = some r := h
  clear h
  by_cases c4 : a0 ≥ a1
  · rw [if_pos c4] at H
    have c4b0 : decide (a1 ≤ a0) = true := decide_eq_true c4
    clear c4
    obtain rfl := Option.some.inj H
    go_enter Try.func59, Try.ntmps59
    go_wp2
    all_goals
      go_ret
      exact ⟨by first | rfl | (simp; done) | (simp [*]; done), by repeat (first | exact Drawn0.refl _ | apply Drawn0.step)⟩
  · rw [if_neg c4] at H
    have c4b0 : decide (a1 ≤ a0) = false := decide_eq_false c4
    clear c4
    obtain rfl := Option.some.inj H
    go_enter Try.func59, Try.ntmps59
    go_wp2
    all_goals
      go_ret
      exact ⟨by first | rfl | (simp; done) | (simp [*]; done), by repeat (first | exact Drawn0.refl _ | apply Drawn0.step)⟩

end Go.Proofs.Ytmbiebdcnadhkaa.QFrame

-- Written by myprint.py, a program of this session (in its repo under wip/tools), out of the loaded functions; Lean checks it.
namespace Go.Proofs.Ytmbiebdcnadhkaa.QFrame
open Go.RowKit Go.Proofs.YtmbiebdcnadhkaaW.PrintWords Go.Proofs.YtmbiebdcnadhkaaW.PrintLast Go.Proofs.YtmbiebdcnadhkaaW.PrintMore
attribute [local go_sem] max2_int min2_int max_two min_two max_three min_three max_four min_four   -- for this text's walks alone
set_option linter.unusedVariables false
set_option linter.unusedSimpArgs false

/-! ### nums_Get: function 109 -/
/-- Bytes as a number, the highest first, as the code reckons it. -/
def beOr (l : List Int) (n : Int) : Int := l.foldl (fun n x => Go.bits .or .u64 (IntKind.u64.wrap (n * 256)) (IntKind.u64.wrap x)) n
def nums_Get.f (l0 : List Int) (a1 : Int) (a2 : Int) : Option (Int × Bool) := if 0 ≤ a2 ∧ a2 ≤ 8 ∧ 0 ≤ a1 ∧ a1 ≤ (l0.length : Int) ∧ a2 ≤ (l0.length : Int) - a1 then some (beOr ((l0.drop a1.toNat).take a2.toNat) 0, true) else some (0, false)
theorem beOr_step (l : List Int) (i : Nat) (h : i < l.length) : beOr (l.take (i + 1)) 0 = Go.bits .or .u64 (IntKind.u64.wrap (beOr (l.take i) 0 * 256)) (IntKind.u64.wrap (rd l (i : Int))) := by
  rw [List.take_succ_eq_append_getElem h]
  unfold rd beOr
  rw [List.foldl_append, Int.toNat_natCast, List.getD_eq_getElem?_getD, List.getElem?_eq_getElem h]
  rfl
set_option maxHeartbeats 1000000 in
set_option maxRecDepth 100000 in
theorem nums_Get.yes (A0 : Option Addr) (c0 : Nat) (l0 : List Int) (a n : Nat) (w : World) (hr0 : Kd.C (Kd.int .u8) w A0 l0.length l0) (hc0 : l0.length ≤ c0) (hn : n ≤ 8) (ha : a + n ≤ l0.length) :
    Calls Try.prog 109 #[.slice A0 l0.length c0, .int .i64 (a : Int), .int .i64 (n : Int)] w fun e w' => e = .returned (.tuple #[.int .u64 (beOr ((l0.drop a).take n) 0), .bool true]) ∧ Drawn0 w w' := by
  have hl := hr0.2.1
  have HT0 : Kd.C (Kd.int .u8) w (if c0 = a then A0 else Option.map (fun x => x.add a) A0) n ((l0.drop a).take n) := Hand.C_take (Hand.C_drop1 hr0 a (by omega) hc0) n (by omega)
  by_cases hca : c0 = a
  · subst hca
    have HT : Kd.C (Kd.int .u8) w A0 n ((l0.drop c0).take n) := by simpa using HT0
    obtain rfl : n = 0 := by omega
    obtain rfl : c0 = l0.length := by omega
    have HR := Aside0.mk HT
    have HL := Aside0.mk HT.1
    have HF := Aside0.mk (show nums_Fits.f 0 0 8 = some true by decide)
    clear hr0 HT HT0
    have b6 : (l0.length : Int) ≤ 9223372036854775807 := by omega
    go_enter Try.func109, Try.ntmps109
    go_wp2_with (first | (go_at_call 59; refine (nums_Fits.calls _ _ _ true _ HF.out).mono ?_; rintro e w' ⟨rfl, ⟨m, rfl⟩⟩))
    go_loop [8, 39] (fun v8 v39 => v39 = .int .i64 0 ∧ v8 = .int .u64 0) (fun _ _ => 0)
    case atStart => exact ⟨rfl, rfl⟩
    case round =>
      obtain ⟨rfl, rfl⟩ := hrel
      go_wp2
      go_ret2
      exact ⟨rfl, ⟨m, rfl⟩⟩
  · have HT : Kd.C (Kd.int .u8) w (Option.map (fun x => x.add a) A0) n ((l0.drop a).take n) := by simpa [hca] using HT0
    have HR := Aside0.mk HT
    have HC := Aside0.mk hc0
    have HL := Aside0.mk HT.1
    have hfit : nums_Fits.f (n : Int) 0 8 = some true := by unfold nums_Fits.f; rw [if_pos (by omega), decide_eq_true (by omega)]
    have HF := Aside0.mk hfit
    clear hr0 HT hfit HT0
    have b1 : decide ((a : Int) < 0) = false := decide_eq_false (by omega)
    have b2 : decide ((l0.length : Int) < (a : Int)) = false := decide_eq_false (by omega)
    have b3 : decide ((l0.length : Int) - (a : Int) < (n : Int)) = false := decide_eq_false (by omega)
    have b4 : decide (l0.length < a) = false := decide_eq_false (by omega)
    have b5 : (0 : Int) ≤ (l0.length : Int) - (a : Int) := by omega
    have b6 : (l0.length : Int) ≤ 9223372036854775807 := by omega
    have b7 : (a : Int) ≤ 9223372036854775807 := by omega
    have b8 : (n : Int) ≤ 8 := by omega
    have b9 : (a : Int) + (n : Int) ≤ 9223372036854775807 := by omega
    have c1 : (a : Int) ≤ (a : Int) + (n : Int) := by omega
    have c2 : (a : Int) + (n : Int) ≤ (c0 : Int) := by omega
    have c3 : ((a : Int) + (n : Int)).toNat - a = n := by omega
    clear hc0
    generalize hLL : (l0.drop a).take n = L at *
    clear hLL
    go_enter Try.func109, Try.ntmps109
    go_wp2_with (first | (go_at_call 59; refine (nums_Fits.calls _ _ _ true _ HF.out).mono ?_; rintro e w' ⟨rfl, ⟨m, rfl⟩⟩))
    clear b1 b2 b3 b4 b5 b9 c1 c2 c3
    go_loop [8, 39] (fun v8 v39 => ∃ k : Nat, k ≤ n ∧ v39 = .int .i64 (k : Int) ∧ v8 = .int .u64 (beOr (L.take k) 0)) (fun _ v39 => n - (intOf v39).toNat)
    case atStart => exact ⟨0, Nat.zero_le _, rfl, rfl⟩
    case round =>
      obtain ⟨k, hk, rfl, rfl⟩ := hrel
      by_cases hlt : k < n
      · have hS := Aside0.mk (beOr_step L k (by have := HL.out; omega))
        obtain ⟨ad, hA, hcell⟩ := Hand.C_cell (Kd.C_drewN HR.out m) k hlt

        generalize beOr (L.take k) 0 = x at *
        generalize rd L (k : Int) = z at *
        cases A0 with
        | none => cases hA
        | some ad0 => ?_
        obtain rfl : ad = ad0.add a := by cases hA; rfl
        clear hA
        go_wp2
        go_round
        case rel => exact ⟨k + 1, by omega, by go_num, by rw [hS.out]⟩
        case measure => simp [intOf]; omega
      · obtain rfl : k = n := by omega
        have hT := Aside0.mk (List.take_of_length_le (Nat.le_of_eq HL.out))
        go_wp2
        go_ret2
        refine ⟨?_, ⟨m, rfl⟩⟩
        rw [hT.out]
        rfl
set_option maxHeartbeats 1000000 in
set_option maxRecDepth 100000 in
theorem nums_Get.no (A0 : Option Addr) (c0 : Nat) (l0 : List Int) (a n : Int) (w : World) (hl : l0.length ≤ 9223372036854775807) (h : ¬ (0 ≤ n ∧ n ≤ 8 ∧ 0 ≤ a ∧ a ≤ (l0.length : Int) ∧ n ≤ (l0.length : Int) - a)) :
    Calls Try.prog 109 #[.slice A0 l0.length c0, .int .i64 a, .int .i64 n] w fun e w' => e = .returned (.tuple #[.int .u64 0, .bool false]) ∧ Drawn0 w w' := by
  have b6 : (l0.length : Int) ≤ 9223372036854775807 := by omega
  by_cases h1 : 0 ≤ n ∧ n ≤ 8
  · have HF : Aside0 (nums_Fits.f n 0 8 = some true) := ⟨by unfold nums_Fits.f; rw [if_pos h1.1, decide_eq_true h1.2]⟩
    obtain ⟨h11, h12⟩ := h1
    by_cases h2 : a < 0
    · clear h
      go_enter Try.func109, Try.ntmps109
      go_wp2_with (first | (go_at_call 59; refine (nums_Fits.calls _ _ _ true _ HF.out).mono ?_; rintro e w' ⟨rfl, ⟨m, rfl⟩⟩))
      go_ret2
      exact ⟨rfl, ⟨m, rfl⟩⟩
    · by_cases h3 : a ≤ (l0.length : Int)
      · have h4 : (l0.length : Int) - a < n := by omega
        have h5 : (0 : Int) ≤ (l0.length : Int) - a := by omega
        clear h
        go_enter Try.func109, Try.ntmps109
        go_wp2_with (first | (go_at_call 59; refine (nums_Fits.calls _ _ _ true _ HF.out).mono ?_; rintro e w' ⟨rfl, ⟨m, rfl⟩⟩))
        go_ret2
        exact ⟨rfl, ⟨m, rfl⟩⟩
      · have h3' : (l0.length : Int) < a := by omega
        clear h h3
        go_enter Try.func109, Try.ntmps109
        go_wp2_with (first | (go_at_call 59; refine (nums_Fits.calls _ _ _ true _ HF.out).mono ?_; rintro e w' ⟨rfl, ⟨m, rfl⟩⟩))
        go_ret2
        exact ⟨rfl, ⟨m, rfl⟩⟩
  · have HF : Aside0 (nums_Fits.f n 0 8 = some false) := ⟨by
      unfold nums_Fits.f
      by_cases c : n ≥ 0
      · rw [if_pos c, decide_eq_false (by omega)]
      · rw [if_neg c]⟩
    clear h h1
    go_enter Try.func109, Try.ntmps109
    go_wp2_with (first | (go_at_call 59; refine (nums_Fits.calls _ _ _ false _ HF.out).mono ?_; rintro e w' ⟨rfl, ⟨m, rfl⟩⟩))
    go_ret2
    exact ⟨rfl, ⟨m, rfl⟩⟩
theorem nums_Get.calls (A0 : Option Addr) (c0 : Nat) (l0 : List Int) (a1 : Int) (a2 : Int) (r1 : Int) (r2 : Bool) (w : World) (hr0 : Kd.C (Kd.int .u8) w A0 l0.length l0) (hc0 : l0.length ≤ c0) (h : nums_Get.f l0 a1 a2 = some (r1, r2)) :
    Calls Try.prog 109 #[.slice A0 l0.length c0, .int .i64 a1, .int .i64 a2] w fun e w' => e = .returned (.tuple #[.int .u64 r1, .bool r2]) ∧ Drawn0 w w' := by
  unfold nums_Get.f at h
  by_cases c : 0 ≤ a2 ∧ a2 ≤ 8 ∧ 0 ≤ a1 ∧ a1 ≤ (l0.length : Int) ∧ a2 ≤ (l0.length : Int) - a1
  · rw [if_pos c] at h
    simp only [Option.some.injEq, Prod.mk.injEq] at h
    obtain ⟨rfl, rfl⟩ := h
    obtain ⟨n, rfl⟩ := Int.eq_ofNat_of_zero_le c.1
    obtain ⟨a, rfl⟩ := Int.eq_ofNat_of_zero_le c.2.2.1
    exact nums_Get.yes A0 c0 l0 a n w hr0 hc0 (by omega) (by omega)
  · rw [if_neg c] at h
    simp only [Option.some.injEq, Prod.mk.injEq] at h
    obtain ⟨rfl, rfl⟩ := h
    exact nums_Get.no A0 c0 l0 a1 a2 w hr0.2.1 c


end Go.Proofs.Ytmbiebdcnadhkaa.QFrame

/- Numbers laid as bytes, and read of them, as the printed functions do. -/
namespace Go.Proofs.Ytmbiebdcnadhkaa.NumFacts
open Go.RowKit Go.Proofs.YtmbiebdcnadhkaaW.PrintWords Go.Proofs.YtmbiebdcnadhkaaW.PrintLast Go.Proofs.YtmbiebdcnadhkaaW.PrintMore Go.Proofs.Ytmbiebdcnadhkaa.QFrame Go.Proofs.Ytmbiebdcnadhkaa.NumMath

theorem shr8 (n i : Nat) (hi : i ≤ 7) : shr .u64 (n : Int) (8 * (i : Int)) = ((n / 256 ^ i : Nat) : Int) := by
  unfold shr
  have e : (8 * (i : Int)).toNat = 8 * i := by omega
  rw [e, show IntKind.u64.bits = 64 from rfl, Nat.min_eq_left (by omega), show (256 : Nat) = 2 ^ 8 from rfl, ← Nat.pow_mul]
  norm_cast
theorem put_loop (j : Nat) : ∀ (k n : Nat) (l : List Int), j ≤ 8 → l.length + j ≤ 1000010 → j < k → nums_Put.l0 k (n : Int) l ((j : Int) - 1) = some (l ++ bb n j) := by
  induction j with
  | zero =>
    intro k n l hj hl hk
    obtain ⟨k, rfl⟩ : ∃ m, k = m + 1 := ⟨k - 1, by omega⟩
    simp only [nums_Put.l0]
    rw [if_neg (by omega)]
    simp [bb]
  | succ j ih =>
    intro k n l hj hl hk
    obtain ⟨k, rfl⟩ : ∃ m, k = m + 1 := ⟨k - 1, by omega⟩
    simp only [nums_Put.l0]
    rw [if_pos (by omega), show ((j + 1 : Nat) : Int) - 1 = (j : Int) by omega, wr (a := 8 * (j : Int)) (by omega) (by omega), if_pos (by omega), if_pos (by omega), wr (a := (j : Int) - 1) (by omega) (by omega), shr8 n j (by omega), ih k n _ (by omega) (by simp; omega) (by omega), List.append_assoc]
    simp [bb]
theorem put_is (k n m : Nat) (l : List Int) (hm : m ≤ 8) (hl : l.length ≤ 1000000) (hk : 9 ≤ k) : nums_Put.f k l (n : Int) (m : Int) = some (l ++ bb n m) := by
  unfold nums_Put.f slices_Clone_byte_byte.f
  rw [if_pos (by omega), Option.bind_some]
  have e : mn (mx (m : Int) 0) 8 = (m : Int) := by unfold mn mx; split <;> split <;> omega
  rw [e]
  exact put_loop m k n l hm (by omega) (by omega)
theorem beOr_from (l : List Int) (hl : Byt l) : ∀ a : Nat, a < 256 ^ (8 - l.length) → l.length ≤ 8 → beOr l (a : Int) = ((beFrom a l : Nat) : Int) := by
  induction l with
  | nil => intro a _ _; rfl
  | cons x l ih =>
    intro a ha h8
    have hx := hl x (by simp)
    have hl' : Byt l := fun y hy => hl y (by simp [hy])
    simp only [List.length_cons] at ha h8
    have ha2 : a < 2 ^ 56 := Nat.lt_of_lt_of_le ha (by
      rw [show (2 : Nat) ^ 56 = 256 ^ 7 by decide]
      exact Nat.pow_le_pow_right (by decide) (by omega))
    obtain ⟨x, rfl⟩ := Int.eq_ofNat_of_zero_le hx.1
    show beOr l (Go.bits .or .u64 (IntKind.u64.wrap ((a : Int) * 256)) (IntKind.u64.wrap (x : Int))) = _
    rw [or_add a x ha2 (by omega)]
    have hstep : a * 256 + x < 256 ^ (8 - l.length) := by
      rw [show 8 - l.length = (8 - (l.length + 1)) + 1 by omega, Nat.pow_succ]
      omega
    exact ih hl' _ hstep (by omega)
theorem beOr_is (l : List Int) (hl : Byt l) (h8 : l.length ≤ 8) : beOr l 0 = ((be l : Nat) : Int) :=
  beOr_from l hl 0 (Nat.pow_pos (by decide)) h8
end Go.Proofs.Ytmbiebdcnadhkaa.NumFacts

-- Written by myprint.py, a program of this session (in its repo under wip/tools), out of the loaded functions; Lean checks it.
namespace Go.Proofs.Ytmbiebdcnadhkaa.QFrame
open Go.RowKit Go.Proofs.YtmbiebdcnadhkaaW.PrintWords Go.Proofs.YtmbiebdcnadhkaaW.PrintLast Go.Proofs.YtmbiebdcnadhkaaW.PrintMore
attribute [local go_sem] max2_int min2_int max_two min_two max_three min_three max_four min_four   -- for this text's walks alone
set_option linter.unusedVariables false
set_option linter.unusedSimpArgs false

/-! ### frame_Size: function 111 -/
def frame_Size.f (a0 : Int) : Option (Int) := (nums_Fits.f a0 0 4096).bind fun t166 => (if t166 = true then (some (wrap64 (a0 + 16))) else (some 0))
set_option maxHeartbeats 8000000 in
set_option maxRecDepth 100000 in
theorem frame_Size.calls (a0 : Int) (r : Int) (w : World) (h : frame_Size.f a0 = some r) :
    Calls Try.prog 111 #[.int .i64 a0] w fun e w' => e = .returned (.int .i64 r) ∧ Drawn0 w w' := by
  have H : ((nums_Fits.f a0 0 4096).bind fun t166 => (if t166 = true then (some (wrap64 (a0 + 16))) else (some 0))) = some r := h
  clear h
  replace H := Option.bind_eq_some_iff.mp H
  obtain ⟨t166, A20, H⟩ := H
  replace H : (if t166 = true then (some (wrap64 (a0 + 16))) else (some 0)) = some r := H
  have A2 := Aside0.mk A20
  clear A20
  by_cases c3 : t166 = true
  · subst c3
    have H1 : (some (wrap64 (a0 + 16))) = some r := by rw [if_pos rfl] at H; exact H
    clear H
    have H := H1
    clear H1
    obtain rfl := Option.some.inj H
    go_enter Try.func111, Try.ntmps111
    go_wp2_with (first | ((with_reducible refine gate_callee (f := 59) rfl ?_); refine goesL_ (some 4) rfl rfl Try.func59 (by kernel_rfl) rfl #[.int .i64 a0, .int .i64 0, .int .i64 4096] rfl (by (try simp only [List.map_toArray, List.map_cons, List.map_nil]); first | done | rfl | (simp only [List.length_drop, List.length_take]; rfl)) ?_; (with_reducible refine (nums_Fits.calls a0 0 4096 true _ A2.out).mono ?_); rintro e w' ⟨rfl, ⟨nd, rfl⟩⟩; refine ⟨_, rfl, ?_⟩))
    all_goals
      go_ret
      exact ⟨by first | rfl | (simp; done) | (simp [*]; done), by repeat (first | exact Drawn0.refl _ | apply Drawn0.step)⟩
  · replace c3 := Bool.eq_false_iff.mpr c3
    subst c3
    have H1 : (some 0) = some r := by rw [if_neg (show ¬ (false = true) by decide)] at H; exact H
    clear H
    have H := H1
    clear H1
    obtain rfl := Option.some.inj H
    go_enter Try.func111, Try.ntmps111
    go_wp2_with (first | ((with_reducible refine gate_callee (f := 59) rfl ?_); refine goesL_ (some 4) rfl rfl Try.func59 (by kernel_rfl) rfl #[.int .i64 a0, .int .i64 0, .int .i64 4096] rfl (by (try simp only [List.map_toArray, List.map_cons, List.map_nil]); first | done | rfl | (simp only [List.length_drop, List.length_take]; rfl)) ?_; (with_reducible refine (nums_Fits.calls a0 0 4096 false _ A2.out).mono ?_); rintro e w' ⟨rfl, ⟨nd, rfl⟩⟩; refine ⟨_, rfl, ?_⟩))
    all_goals
      go_ret
      exact ⟨by first | rfl | (simp; done) | (simp [*]; done), by repeat (first | exact Drawn0.refl _ | apply Drawn0.step)⟩

end Go.Proofs.Ytmbiebdcnadhkaa.QFrame

