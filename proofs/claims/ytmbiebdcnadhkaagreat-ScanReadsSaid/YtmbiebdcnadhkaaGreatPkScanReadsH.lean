/- The parts of this proof, one after the other (wip/tools/packall.py, shake.py). -/
import Derived.Test.YtmbiebdcnadhkaaGreatPkScanReadsG
import Derived.Test.YtmbiebdcnadhkaaGreatPkScanReadsC
import Derived.Deep.Slices
import Derived.Test.YtmbiebdcnadhkaaGreatPkScanReadsF
set_option linter.unusedVariables false
set_option linter.unusedSimpArgs false
namespace Go.Proofs.YtmbiebdcnadhkaaGreat.Fl
open Go.ChangeShapes Go.WideShapes Go.ChangeAt Go.RowKit Go.Joins Go.Deep Go.Proofs.YtmbiebdcnadhkaaGreatW.PrintWords Go.Proofs.YtmbiebdcnadhkaaGreat.Opens
section
variable {H : Type} {enc : TypeId × Value → H} {P : Program} {w : World} {base : Nat} {spare : Nat → Bool} {held : Bool}
theorem byt_of {l : List Int} (h : ∀ x ∈ l, (Lit.int .u8 x).wf = true) : Byt l := fun x hx => by
 have h1 := h x hx
 unfold Lit.wf at h1
 rw [Bool.and_eq_true, decide_eq_true_eq, decide_eq_true_eq] at h1
 have e1 : IntKind.min .u8 = 0 := by decide
 have e2 : IntKind.max .u8 = 255 := by decide
 rw [e1, e2] at h1
 exact h1
end
end Go.Proofs.YtmbiebdcnadhkaaGreat.Fl
namespace Go.Proofs.YtmbiebdcnadhkaaGreat.Fl
open Go.ChangeShapes Go.WideShapes Go.ChangeAt Go.RowKit Go.Joins Go.Deep Go.Proofs.YtmbiebdcnadhkaaGreatW.PrintWords Go.Proofs.YtmbiebdcnadhkaaGreat.Opens
section
variable {H : Type} {enc : TypeId × Value → H} {P : Program} {w : World} {base : Nat} {spare : Nat → Bool} {held : Bool}
theorem kind_of {k : Int} (h : (Lit.int .u8 k).wf = true) : KindOk k := by
 unfold Lit.wf at h
 rw [Bool.and_eq_true, decide_eq_true_eq, decide_eq_true_eq] at h
 have e1 : IntKind.min .u8 = 0 := by decide
 have e2 : IntKind.max .u8 = 255 := by decide
 rw [e1, e2] at h
 exact ⟨h.1, h.2⟩
end
end Go.Proofs.YtmbiebdcnadhkaaGreat.Fl
namespace Go.Proofs.YtmbiebdcnadhkaaGreat.Fl
open Go.ChangeShapes Go.WideShapes Go.ChangeAt Go.RowKit Go.Joins Go.Deep Go.Proofs.YtmbiebdcnadhkaaGreatW.PrintWords Go.Proofs.YtmbiebdcnadhkaaGreat.Opens
section
variable {H : Type} {enc : TypeId × Value → H} {P : Program} {w : World} {base : Nat} {spare : Nat → Bool} {held : Bool}
theorem sdeed_cells {e te : TypeId} {f0 f1 f2 f3 : Field} {n : Nat} {cs : List Value} {y : DataW H × List MemPlace} (he : P.underlying e = some (.struct #[f0, f1, f2, f3]))
  (o0 : f0.offset = 0) (o1 : f1.offset = 1) (o2 : f2.offset = 2) (o3 : f3.offset = 3)
  (k0 : P.cellsOf f0.type = 1) (k1 : P.cellsOf f1.type = 1) (k2 : P.cellsOf f2.type = 1) (k3 : P.cellsOf f3.type = 1)
  (u0 : P.underlying f0.type = some (.int .i64)) (u1 : P.underlying f1.type = some (.int .u8)) (u2 : P.underlying f2.type = some (.slice te)) (u3 : P.underlying f3.type = some (.int .i64)) (ue : P.underlying te = some (.int .u8)) (ke : P.cellsOf te = 1)
  (hl : cs.length = 4) (h : DataW.trod enc P w base spare held n e cs = some y) :
  ∃ (r : SDeed) (A : Option Addr) (c : Nat), cs = [.int .i64 r.kd, .int .u8 r.wh, .slice A r.l.length c, .int .i64 r.sg] ∧ kB.C w A r.l.length r.l ∧ r.l.length ≤ c ∧ SDeedOk r := by
 obtain ⟨xs, m, _, _, _, hlen, hg⟩ := DataW.trod_struct he h
 match cs, hl, xs, hlen with
 | [c0, c1, c2, c3], _, [y0, y1, y2, y3], _ =>
  have s0 : DataW.trod enc P w base spare held m f0.type [c0] = some y0 := by simpa [o0, k0] using hg 0 f0 rfl
  have s1 : DataW.trod enc P w base spare held m f1.type [c1] = some y1 := by simpa [o1, k1] using hg 1 f1 rfl
  have s2 : DataW.trod enc P w base spare held m f2.type [c2] = some y2 := by simpa [o2, k2] using hg 2 f2 rfl
  have s3 : DataW.trod enc P w base spare held m f3.type [c3] = some y3 := by simpa [o3, k3] using hg 3 f3 rfl
  obtain ⟨a0, z0, _, _⟩ := DataW.trod_int u0 s0
  obtain ⟨a1, z1, _, w1⟩ := DataW.trod_int u1 s1
  obtain ⟨A, c, l, z2, hr, hc, _, hw⟩ := cell_ints u2 ue ke s2
  obtain ⟨a3, z3, _, _⟩ := DataW.trod_int u3 s3
  refine ⟨⟨a0, a1, l, a3⟩, A, c, ?_, hr, hc, ⟨kind_of w1, byt_of hw⟩⟩
  rw [List.head_eq_of_cons_eq z0, List.head_eq_of_cons_eq z1, List.head_eq_of_cons_eq z2, List.head_eq_of_cons_eq z3]
theorem row_sdeeds {t e te : TypeId} {f0 f1 f2 f3 : Field} {A : Option Addr} {len c : Nat} {d : DataW H} {p : List MemPlace} (ht : P.underlying t = some (.slice e)) (he : P.underlying e = some (.struct #[f0, f1, f2, f3])) (hC : P.cellsOf e = 4)
  (o0 : f0.offset = 0) (o1 : f1.offset = 1) (o2 : f2.offset = 2) (o3 : f3.offset = 3)
  (k0 : P.cellsOf f0.type = 1) (k1 : P.cellsOf f1.type = 1) (k2 : P.cellsOf f2.type = 1) (k3 : P.cellsOf f3.type = 1)
  (u0 : P.underlying f0.type = some (.int .i64)) (u1 : P.underlying f1.type = some (.int .u8)) (u2 : P.underlying f2.type = some (.slice te)) (u3 : P.underlying f3.type = some (.int .i64)) (ue : P.underlying te = some (.int .u8)) (ke : P.cellsOf te = 1)
  (h : DataW.Trod enc P w base spare held t (.slice A len c) d p) : ∃ rs : List SDeed, len = rs.length ∧ LRow w A rs ∧ rs.length ≤ 9223372036854775807 ∧ ∀ r ∈ rs, SDeedOk r := by
 obtain ⟨fuel, hf⟩ := h
 rcases open_slice ht hf with ⟨hcs, _⟩ | ⟨a, len', cap, m, n, D, Pl, hcs, hb, hl, hm, hmm, _, hel⟩
 ·simp [Value.cells] at hcs
  obtain ⟨rfl, rfl, rfl⟩ := hcs
  exact ⟨[], rfl, fun i d hi => by simp at hi, by simp, by simp⟩
 ·simp [Value.cells] at hcs
  obtain ⟨rfl, rfl, rfl⟩ := hcs
  have hlm : len ≤ m := by rw [hmm]; split <;> omega
  have each : ∀ i, ∃ x : SDeed, i < len → SDeedOk x ∧ ∃ A1 c1, kB.C w A1 x.l.length x.l ∧ x.l.length ≤ c1 ∧ w.cells? base (a.add (i * 4)) 4 = some [.int .i64 x.kd, .int .u8 x.wh, .slice A1 x.l.length c1, .int .i64 x.sg] := by
   intro i
   by_cases hi : i < len
   ·obtain ⟨cs', h1, h2⟩ := hel i (by omega)
    rw [hC] at h1
    obtain ⟨x, A1, c1, rfl, h3, h4, h5⟩ := sdeed_cells he o0 o1 o2 o3 k0 k1 k2 k3 u0 u1 u2 u3 ue ke (World.cells?_some h1).2.1 h2
    exact ⟨x, fun _ => ⟨h5, A1, c1, h3, h4, h1⟩⟩
   ·exact ⟨⟨0, 0, [], 0⟩, fun h => absurd h hi⟩
  refine ⟨(List.range len).map (fun i => Classical.choose (each i)), by simp, fun i d hi => ?_, by simp; unfold maxLen at hm; omega, fun d hd => ?_⟩
  ·have hil : i < len := by
    have := (List.getElem?_eq_some_iff.1 hi).1
    simpa using this
   have hx : d = Classical.choose (each i) := by simpa [hil] using hi.symm
   obtain ⟨_, A1, c1, h1, h2, h3⟩ := Classical.choose_spec (each i) hil
   rw [← hx] at h1 h2 h3
   have h3 := (World.cells?_some h3).2.2
   have g0 := h3 0 (by omega)
   refine ⟨a, A1, c1, rfl, ?_, h3 1 (by omega), h3 2 (by omega), h3 3 (by omega), h1, h2⟩
   simpa [Addr.add] using g0
  ·rw [List.mem_map] at hd
   obtain ⟨i, hi, rfl⟩ := hd
   exact (Classical.choose_spec (each i) (by simpa using hi)).1
end
end Go.Proofs.YtmbiebdcnadhkaaGreat.Fl
namespace Go.Proofs.YtmbiebdcnadhkaaGreat.Fl
structure LInv (D : PD) (g : LG) : Prop where
 sh : ShapeOk D.s
 len : g.st.length = 16
 hi : g.op < D.s.1
 zero : g.op < 0 → g.op = -1 ∧ g.pg = 0
 one : 0 ≤ g.op → g.st[g.op.toNat]? = some 1 ∧ 1 ≤ g.pg ∧ g.pg ≤ D.s.2.1
 free : ∀ i : Nat, (i : Int) < D.s.1 → g.st[i]? = some 0 → ∀ b, usedB D (i : Int) b = false
 opn : 0 ≤ g.op → ∀ b, g.pg ≤ b → usedB D g.op b = false
 nx : 1 ≤ g.nx
theorem fits_iff {s : Int × Int × Int} {pg : Int} {n : Nat} (hn : n ≤ 4096) (h0 : 0 ≤ pg) (h1 : pg ≤ s.2.1) : fitsS s pg n = true ↔ pg + (kpg s n : Int) ≤ s.2.1 := by
 unfold fitsS
 rw [decide_eq_true_iff]
 constructor
 ·rintro ⟨_, _, _, h⟩; omega
 ·intro h; exact ⟨hn, h0, h1, by omega⟩
theorem app_ok {D : PD} {a b : Int} {n : Nat} (hs : ShapeOk D.s) (ha : 0 ≤ a) (ha1 : a < D.s.1) (hb : 0 ≤ b) (hn : n ≤ 4096) (hf : b + (kpg D.s n : Int) ≤ D.s.2.1) (hu : ∀ c, b ≤ c → usedB D a c = false) : appE D a b n = ((kpg D.s n : Int), 0) :=
 appE_one ((appE_zero a b n).2 ⟨(hasB_iff _ _ _).2 ⟨ha, ha1, hb, by have := (kpg_bd hs hn).1; omega⟩, hn, hf, anyUsedD_false (fun i _ => hu _ (by omega))⟩)
section
variable {D : PD} {g : LG} {l : List Int}
theorem LInv.fit (h : LInv D g) (ho : 0 ≤ g.op) (hn : l.length ≤ 4096) (hf : fitsS D.s g.pg l.length = true) : appE D g.op g.pg l.length = ((kpg D.s l.length : Int), 0) ∧ g.pg + (kpg D.s l.length : Int) ≤ D.s.2.1 := by
 obtain ⟨h1, h2, h3⟩ := h.one ho
 have h4 := (fits_iff hn (by omega) h3).1 hf
 exact ⟨app_ok h.sh ho h.hi (by omega) hn h4 (h.opn ho), h4⟩
theorem LInv.app (h : LInv D g) (ho : 0 ≤ g.op) (hn : l.length ≤ 4096) (hf : fitsS D.s g.pg l.length = true) (kd sq : Int) : LInv (appD D g.op g.pg l.length (Fl.rec kd sq l)) { g with pg := g.pg + (kpg D.s l.length : Int) } := by
 obtain ⟨h1, h2⟩ := h.fit ho hn hf
 obtain ⟨h3, h4, h5⟩ := h.one ho
 have h6 := app_used h.sh (kd := kd) (sq := sq) (l := l) (by rw [h1])
 have hst := appD_s D g.op g.pg l.length (Fl.rec kd sq l)
 refine ⟨by rw [hst]; exact h.sh, h.len, by rw [hst]; exact h.hi, fun h' => absurd h' (by show ¬ g.op < 0; omega), fun _ => ⟨h3, by show 1 ≤ g.pg + _; omega, by rw [hst]; exact h2⟩, fun i hi h0 b => ?_, fun _ b hb => ?_, h.nx⟩
 ·rw [hst] at hi
  rw [h6, h.free i hi h0, Bool.or_false]
  refine decide_eq_false (fun hh => ?_)
  have : g.op.toNat = i := by omega
  rw [this, h0] at h3
  simp at h3
 ·show usedB _ g.op b = false
  have hb2 : g.pg + (kpg D.s l.length : Int) ≤ b := hb
  rw [h6, h.opn ho b (by omega), Bool.or_false]
  exact decide_eq_false (fun hh => by omega)
theorem seal_get (g : LG) (i : Nat) : (sealG g).st[i]? = some 0 → g.st[i]? = some 0 := by
 unfold sealG
 split
 ·exact id
 ·intro h
  rw [List.getElem?_set] at h
  split at h
  ·split at h <;> simp at h
  ·exact h
theorem LInv.sealed (h : LInv D g) : LInv D (sealG g) := by
 refine ⟨h.sh, ?_, ?_, ?_, ?_, fun i hi h0 b => h.free i hi (seal_get g i h0) b, ?_, by rw [sealG_nx]; exact h.nx⟩
 ·unfold sealG; split
  ·exact h.len
  ·simp [h.len]
 ·have := h.sh.a0
  unfold sealG; split
  ·exact h.hi
  ·show (-1 : Int) < D.s.1; omega
 ·intro h'
  by_cases h0 : g.op < 0
  ·have e : sealG g = g := if_pos h0
   rw [e]; exact h.zero h0
  ·have e : sealG g = { st := g.st.set g.op.toNat 2, op := -1, pg := 0, nx := g.nx } := if_neg h0
   rw [e]; exact ⟨rfl, rfl⟩
 ·intro h'
  exfalso
  revert h'
  unfold sealG; split
  ·omega
  ·show 0 ≤ (-1 : Int) → False; omega
 ·intro h'
  exfalso
  revert h'
  unfold sealG; split
  ·omega
  ·show 0 ≤ (-1 : Int) → False; omega
theorem LInv.start (h : LInv D g) {m : Nat} (hm : (m : Int) < D.s.1) (h0 : (sealG g).st[m]? = some 0) : appE D (m : Int) 0 0 = (1, 0) := by
 have := app_ok (n := 0) h.sh (a := (m : Int)) (b := 0) (by omega) hm (Int.le_refl _) (by omega) (by rw [kpg_zero h.sh]; have := h.sh.b0; omega) (fun c _ => h.sealed.free m hm h0 c)
 rw [this, kpg_zero h.sh]
 rfl
theorem LInv.turn (h : LInv D g) {m : Nat} (hm : (m : Int) < D.s.1) (h0 : (sealG g).st[m]? = some 0) : LInv (appD D (m : Int) 0 0 (Fl.rec 1 g.nx [])) ⟨(sealG g).st.set m 1, (m : Int), 1, g.nx + 1⟩ := by
 have h1 := h.start hm h0
 have h2 := app_used h.sh (a := (m : Int)) (b := 0) (kd := 1) (sq := g.nx) (l := []) (by rw [List.length_nil, h1])
 simp only [List.length_nil, kpg_zero h.sh] at h2
 have hst := appD_s D (m : Int) 0 0 (Fl.rec 1 g.nx [])
 have hl := h.sealed.len
 have hn := h.nx
 have hml : m < (sealG g).st.length := (List.getElem?_eq_some_iff.1 h0).1
 refine ⟨by rw [hst]; exact h.sh, by simp [hl], by rw [hst]; exact hm, fun h' => absurd h' (by show ¬ (m : Int) < 0; omega), fun _ => ⟨?_, Int.le_refl _, by rw [hst]; exact h.sh.b0⟩, fun i hi hi0 b => ?_, fun _ b hb => ?_, by show 1 ≤ g.nx + 1; omega⟩
 ·show ((sealG g).st.set m 1)[(m : Int).toNat]? = some 1
  rw [Int.toNat_natCast, List.getElem?_set, if_pos rfl, if_pos hml]
 ·rw [hst] at hi
  have hi0 : ((sealG g).st.set m 1)[i]? = some 0 := hi0
  rw [List.getElem?_set] at hi0
  split at hi0
  ·simp at hi0
  ·rename_i hne
   rw [h2, h.sealed.free i hi hi0, Bool.or_false]
   exact decide_eq_false (fun hh => hne (by omega))
 ·show usedB _ (m : Int) b = false
  have hb2 : (1 : Int) ≤ b := hb
  rw [h2, h.sealed.free m hm h0, Bool.or_false]
  exact decide_eq_false (fun hh => by omega)
theorem LInv.get_seal (h : LInv D g) {i : Nat} (hi : g.st[i]? = some 0) : (sealG g).st[i]? = some 0 := by
 unfold sealG
 split
 ·exact hi
 ·rename_i ho
  show (g.st.set g.op.toNat 2)[i]? = some 0
  rw [List.getElem?_set]
  split
  ·rename_i he
   have := (h.one (by omega)).1
   rw [he, hi] at this
   simp at this
  ·exact hi
theorem first_zero : ∀ (l : List Int), 0 < cnt 0 l → ∃ m : Nat, l[m]? = some 0 ∧ ∀ i, i < m → l[i]? ≠ some 0
 | [], h => by simp [cnt] at h
 | y :: l, h => by
  by_cases hy : y = 0
  ·exact ⟨0, by rw [hy]; rfl, fun i hi => by omega⟩
  ·have h2 : 0 < cnt 0 l := by
    unfold cnt at h ⊢
    rw [List.filter_cons, if_neg (by simpa using hy)] at h
    exact h
   obtain ⟨m, h3, h4⟩ := first_zero l h2
   refine ⟨m + 1, by simpa using h3, fun i hi => ?_⟩
   cases i with
   | zero => simpa using hy
   | succ i => simpa using h4 i (by omega)
theorem firstAt_is {l : List Int} {m : Nat} (h0 : l[m]? = some 0) (h1 : ∀ i, i < m → l[i]? ≠ some 0) (r : Int) (h : FirstAt l 0 r) : r = (m : Int) := by
 have hml := (List.getElem?_eq_some_iff.1 h0).1
 rcases h with ⟨_, h⟩ | ⟨n, rfl, hn, h2, h3⟩
 ·exact absurd h0 (h m hml)
 ·have : n = m := by
   rcases Nat.lt_trichotomy n m with h4 | h4 | h4
   ·exact absurd h2 (h1 n h4)
   ·exact h4
   ·exact absurd h0 (h3 m h4)
  rw [this]
theorem LInv.first (h : LInv D g) (hc : 0 < cnt 0 (g.st.take D.s.1.toNat)) : ∃ m : Nat, (m : Int) < D.s.1 ∧ g.st[m]? = some 0 ∧ (sealG g).st[m]? = some 0 ∧ (∀ i, i < m → (sealG g).st[i]? ≠ some 0) ∧ ∀ r, FirstAt (sealG g).st 0 r → r = (m : Int) := by
 obtain ⟨m, h0, h1⟩ := first_zero _ hc
 have hm := (List.getElem?_eq_some_iff.1 h0).1
 rw [List.length_take] at hm
 have h2 : g.st[m]? = some 0 := by rw [List.getElem?_take_of_lt (by omega)] at h0; exact h0
 have h3 : ∀ i, i < m → (sealG g).st[i]? ≠ some 0 := fun i hi hh => h1 i hi (by rw [List.getElem?_take_of_lt (by omega)]; exact seal_get g i hh)
 exact ⟨m, by have := h.sh.a0; omega, h2, h.get_seal h2, h3, firstAt_is (h.get_seal h2) h3⟩
end
end Go.Proofs.YtmbiebdcnadhkaaGreat.Fl
namespace Go.Proofs.YtmbiebdcnadhkaaGreat.Fl
structure GSim (s : Int × Int × Int) (g gr : LG) : Prop where
 st : gr.st = g.st.take s.1.toNat
 op : gr.op = g.op
 pg : gr.pg = g.pg
 nx : gr.nx = g.nx
section
variable {D : PD} {g gr : LG}
theorem GSim.len (h : GSim D.s g gr) (hi : LInv D g) : (gr.st.length : Int) = D.s.1 := by
 have := hi.sh.a0
 have := hi.sh.a1
 have := hi.len
 rw [h.st, List.length_take]
 omega
theorem GSim.get (h : GSim D.s g gr) (hi : LInv D g) {i : Nat} (hlt : (i : Int) < D.s.1) : gr.st[i]? = g.st[i]? := by
 rw [h.st, List.getElem?_take_of_lt (by omega)]
theorem GSim.set (h : GSim D.s g gr) (i : Nat) (y : Int) : gr.st.set i y = (g.st.set i y).take D.s.1.toNat := by
 rw [h.st, List.take_set]
theorem GSim.sealed (h : GSim D.s g gr) (hi : LInv D g) : GSim D.s (sealG g) (rsealG gr) := by
 by_cases h0 : g.op < 0
 ·have e1 : sealG g = g := if_pos h0
  obtain ⟨z1, z2⟩ := hi.zero h0
  rw [e1]
  exact ⟨by unfold rsealG; rw [h.op, if_pos h0]; exact h.st, z1.symm, z2.symm, h.nx⟩
 ·have e1 : sealG g = { st := g.st.set g.op.toNat 2, op := -1, pg := 0, nx := g.nx } := if_neg h0
  rw [e1]
  exact ⟨by unfold rsealG; rw [h.op, if_neg h0]; exact h.set _ _, rfl, rfl, h.nx⟩
theorem GSim.eraseE (h : GSim D.s g gr) (hi : LInv D g) (a : Int) : rEraseE gr a = lEraseE D.s g a := by
 have hl := h.len hi
 unfold rEraseE lEraseE
 cases hf : fitsB a 0 (D.s.1 - 1) with
 | false =>
  rw [if_pos rfl, if_pos]
  unfold fitsB at hf
  rw [decide_eq_false_iff_not] at hf
  omega
 | true =>
  unfold fitsB at hf
  rw [decide_eq_true_iff] at hf
  rw [if_neg (show ¬ (a < 0 ∨ (gr.st.length : Int) ≤ a) by omega), if_neg (show ¬ (true = false) by decide), List.getD_eq_getElem?_getD, List.getD_eq_getElem?_getD, h.get hi (by omega)]
theorem GSim.erase (h : GSim D.s g gr) (hi : LInv D g) (a : Int) : GSim D.s (lEraseG D.s g a) (rEraseG gr a) := by
 unfold lEraseG rEraseG
 rw [h.eraseE hi]
 split
 ·exact ⟨h.set _ _, h.op, h.pg, h.nx⟩
 ·exact h
theorem LInv.sync (h : LInv D g) : LInv { D with dirty := [] } g := ⟨h.sh, h.len, h.hi, h.zero, h.one, h.free, h.opn, h.nx⟩
theorem LInv.new {s : Int × Int × Int} (hs : ShapeOk s) : LInv ⟨s, [], []⟩ (newG 1) := by
 refine ⟨hs, by simp [newG], ?_, fun _ => ⟨rfl, rfl⟩, fun h' => ?_, fun i hi h0 b => by simp [usedB, look], fun h' b hb => by simp [usedB, look], by decide⟩
 ·have := hs.a0
  show (-1 : Int) < s.1
  omega
 ·exfalso
  revert h'
  show 0 ≤ (-1 : Int) → False
  omega
theorem used_erased (hnd : Nodup D.mp) {n : Int} (hh : hasB D.s n 0 = true) (a b : Int) : usedB (erasedD D n) a b = (decide (a ≠ n) && usedB D a b) := by
 unfold erasedD
 rw [if_pos hh]
 unfold eraseD usedB
 simp only
 rw [look_delTo _ _ _ hnd]
 cases hb : hasB D.s a b with
 | false => simp
 | true =>
  have h1 := (hasB_iff _ _ _).1 hb
  by_cases ha : a = n
  ·rw [if_pos ⟨ha, h1.2.2.1, by simp only; omega⟩]
   simp [ha]
  ·rw [if_neg (fun h => ha h.1)]
   simp [ha]
theorem LInv.erase (h : LInv D g) (hnd : Nodup D.mp) (a : Int) : LInv (lEraseD D g a) (lEraseG D.s g a) := by
 unfold lEraseD lEraseG
 split
 ·rename_i he
  have hf : fitsB a 0 (D.s.1 - 1) = true := by
   cases hf : fitsB a 0 (D.s.1 - 1) with
   | true => rfl
   | false => unfold lEraseE at he; rw [if_pos hf] at he; exact absurd he (by decide)
  have hx : g.st.getD a.toNat 0 ≠ 1 := fun hx => by
   unfold lEraseE at he
   rw [if_neg (by rw [hf]; decide), if_pos hx] at he
   exact absurd he (by decide)
  unfold fitsB at hf
  rw [decide_eq_true_iff] at hf
  have hh : hasB D.s a 0 = true := (hasB_iff _ _ _).2 ⟨by omega, by omega, Int.le_refl _, by have := h.sh.b0; omega⟩
  have hs : (erasedD D a).s = D.s := by unfold erasedD; rw [if_pos hh]; rfl
  have hu := used_erased hnd hh
  refine ⟨by rw [hs]; exact h.sh, by simp [h.len], by rw [hs]; exact h.hi, h.zero, fun ho => ?_, fun i hi h0 b => ?_, fun ho b hb => ?_, h.nx⟩
  ·obtain ⟨h1, h2, h3⟩ := h.one ho
   refine ⟨?_, h2, by rw [hs]; exact h3⟩
   show (g.st.set a.toNat 0)[g.op.toNat]? = some 1
   rw [List.getElem?_set, if_neg (fun e => hx (by rw [e, List.getD_eq_getElem?_getD, h1]; rfl))]
   exact h1
  ·rw [hs] at hi
   rw [hu]
   by_cases hia : (i : Int) = a
   ·simp [hia]
   ·have h0 : (g.st.set a.toNat 0)[i]? = some 0 := h0
    rw [List.getElem?_set, if_neg (by omega)] at h0
    rw [h.free i hi h0 b, Bool.and_false]
  ·show usedB _ g.op b = false
   rw [hu, h.opn ho b hb, Bool.and_false]
 ·exact h
end
end Go.Proofs.YtmbiebdcnadhkaaGreat.Fl
namespace Go.Proofs.YtmbiebdcnadhkaaGreat.Fl
open Go.RowKit Go.Proofs.YtmbiebdcnadhkaaGreatW.PrintWords Go.Proofs.YtmbiebdcnadhkaaGreatW.PrintMore Go.Maps
def mayB (s : Int × Int × Int) : Bool := shapeB s && decide (4 ≤ s.1)
set_option maxHeartbeats 1000000 in
set_option maxRecDepth 100000 in
theorem May_any (s : Int × Int × Int) (w : World) : Calls Tryz.prog 21 #[.agg #[.int .i64 s.1, .int .i64 s.2.1, .int .i64 s.2.2]] w fun e w' => e = .returned (.bool (mayB s)) ∧ Below w.heap.size w w' := by
 obtain ⟨W, hW⟩ : ∃ W, W = w.alloc (.cells #[.int .i64 s.1, .int .i64 s.2.1, .int .i64 s.2.2] 23) := ⟨_, rfl⟩
 have q0 : W.heap[w.heap.size]? = some (.cells #[.int .i64 s.1, .int .i64 s.2.1, .int .i64 s.2.2] 23 (0, 0)) := by rw [hW]; exact blk_new w _
 have qb : Below w.heap.size w W := by rw [hW]; exact below_alloc (Below.refl _ _) _
 have k0 := bcell q0 0
 have k1 := bcell q0 1
 have k2 := bcell q0 2
 have HW := Lib.hid hW
 have Q0 := Lib.hid q0
 have QB := Aside0.mk qb
 clear hW q0 qb
 cases hs : shapeB s with
 | false =>
  have HS := Lib.hid hs
  have hm : mayB s = false := by unfold mayB; rw [hs]; rfl
  have HM := Lib.hid hm
  rw [hm]
  clear hs hm
  go_enter Tryz.func21, Tryz.ntmps21
  go_wp2_with (first
   | (rw [← HW.out])
   | (go_at_call 52; (with_reducible refine (RShape_any _ _).mono ?_); rw [HS.out]; rintro e w3 ⟨rfl, hb⟩; have HB := Aside0.mk hb; clear hb)
   | fail)
  go_ret
  exact ⟨rfl, QB.out.trans (HB.out.mono QB.out.size)⟩
 | true =>
  have HS := Lib.hid hs
  have hm : mayB s = decide (s.1 ≥ 4) := by unfold mayB; rw [hs]; rfl
  have HM := Lib.hid hm
  rw [hm]
  clear hs hm
  go_enter Tryz.func21, Tryz.ntmps21
  go_wp2_with (first
   | (rw [← HW.out])
   | (go_at_call 52; (with_reducible refine (RShape_any _ _).mono ?_); rw [HS.out]; rintro e w3 ⟨rfl, hb⟩; have HB := Aside0.mk hb; have j0 : w3.cell? ⟨w.heap.size, 0, none⟩ = some (.int .i64 s.1) := bcell ((hb.block _ (blt Q0.out)).trans Q0.out) 0; clear hb)
   | fail)
  go_ret
  exact ⟨rfl, QB.out.trans (HB.out.mono QB.out.size)⟩
end Go.Proofs.YtmbiebdcnadhkaaGreat.Fl
namespace Go.Proofs.YtmbiebdcnadhkaaGreat.Fl
open Go.RowKit Go.Proofs.YtmbiebdcnadhkaaGreatW.PrintWords Go.Proofs.YtmbiebdcnadhkaaGreatW.PrintMore Go.Maps
def grOf (s : Int × Int × Int) (g : LG) : LG := ⟨g.st.take s.1.toNat, g.op, g.pg, g.nx⟩
theorem GSim.of (s : Int × Int × Int) (g : LG) : GSim s g (grOf s g) := ⟨rfl, rfl, rfl, rfl⟩
theorem GSim.eq {s : Int × Int × Int} {g gr : LG} (h : GSim s g gr) : gr = grOf s g := by
 obtain ⟨a, b, c, d⟩ := gr
 obtain ⟨h1, h2, h3, h4⟩ := h
 simp only at h1 h2 h3 h4
 subst h1 h2 h3 h4
 rfl
def headD (D : PD) (g : LG) (m : Nat) : PD := appD D (m : Int) 0 0 (Fl.rec 1 g.nx [])
def headP (s : Int × Int × Int) (ps : List Pg) (g : LG) (m : Nat) : List Pg := appP s ps (m : Int) 0 0 (Fl.rec 1 g.nx [])
inductive PutStep (D : PD) (g : LG) (ps : List Pg) (kind : Int) (l : List Int) (need : Int) : Adr → Int → PD → LG → List Pg → Prop
 | head (hk : kind = 1) : PutStep D g ps kind l need (0, 0) 1 D g ps
 | big (hk : kind ≠ 1) (h1 : fitsS D.s 1 l.length = false) : PutStep D g ps kind l need (0, 0) 10 D g ps
 | full (hk : kind ≠ 1) (h1 : fitsS D.s 1 l.length = true) (h2 : g.op < 0 ∨ 0 ≤ g.op ∧ fitsS D.s g.pg l.length = false) (h3 : (cnt 0 (g.st.take D.s.1.toNat) : Int) < need) : PutStep D g ps kind l need (0, 0) 5 D g ps
 | app (hk : kind ≠ 1) (h1 : fitsS D.s 1 l.length = true) (h2 : 0 ≤ g.op) (h3 : fitsS D.s g.pg l.length = true) : PutStep D g ps kind l need (g.op, g.pg) 0 (appD D g.op g.pg l.length (Fl.rec kind (g.nx - 1) l)) { g with pg := g.pg + (kpg D.s l.length : Int) } (appP D.s ps g.op g.pg l.length (Fl.rec kind (g.nx - 1) l))
 | turn (m : Nat) (hk : kind ≠ 1) (h1 : fitsS D.s 1 l.length = true) (h2 : g.op < 0 ∨ 0 ≤ g.op ∧ fitsS D.s g.pg l.length = false) (h3 : ¬ (cnt 0 (g.st.take D.s.1.toNat) : Int) < need) (h4 : (m : Int) < D.s.1) (h5 : g.st[m]? = some 0) (h6 : (sealG g).st[m]? = some 0) (h7 : ∀ i, i < m → (sealG g).st[i]? ≠ some 0) (h8 : ∀ r, FirstAt (sealG g).st 0 r → r = (m : Int)) :
  PutStep D g ps kind l need ((m : Int), 1) 0 (appD (headD D g m) (m : Int) 1 l.length (Fl.rec kind g.nx l)) { st := (sealG g).st.set m 1, op := (m : Int), pg := 1 + (kpg D.s l.length : Int), nx := g.nx + 1 } (appP D.s (headP D.s ps g m) (m : Int) 1 l.length (Fl.rec kind g.nx l))
section
variable {N0 p q r t x cap : Nat} {rest : List Value} {F : (Nat → Prop) → PD → World → Prop} {G : (Nat → Prop) → List Pg → World → Prop} {K : Nat → Prop} {D D2 : PD} {g g2 : LG} {ps ps2 : List Pg} {w : World} {A : Option Addr} {c : Nat} {l : List Int} {kind need er : Int} {at_ : Adr}
theorem put_total (hi : LInv D g) (hn : 1 ≤ need) (ps : List Pg) (kind : Int) (l : List Int) : ∃ at_ er D2 g2 ps2, PutStep D g ps kind l need at_ er D2 g2 ps2 := by
 by_cases hk : kind = 1
 ·exact ⟨_, _, _, _, _, .head hk⟩
 cases h1 : fitsS D.s 1 l.length with
 | false => exact ⟨_, _, _, _, _, .big hk h1⟩
 | true =>
  have hd : (0 ≤ g.op ∧ fitsS D.s g.pg l.length = true) ∨ (g.op < 0 ∨ 0 ≤ g.op ∧ fitsS D.s g.pg l.length = false) := by
   by_cases h0 : g.op < 0
   ·exact .inr (.inl h0)
   ·cases h2 : fitsS D.s g.pg l.length with
    | false => exact .inr (.inr ⟨by omega, rfl⟩)
    | true => exact .inl ⟨by omega, rfl⟩
  rcases hd with ⟨h2, h3⟩ | hd
  ·exact ⟨_, _, _, _, _, .app hk h1 h2 h3⟩
  ·by_cases h3 : (cnt 0 (g.st.take D.s.1.toNat) : Int) < need
   ·exact ⟨_, _, _, _, _, .full hk h1 hd h3⟩
   ·obtain ⟨m, h4, h5, h6, h7, h8⟩ := hi.first (by omega)
    exact ⟨_, _, _, _, _, .turn m hk h1 hd h3 h4 h5 h6 h7 h8⟩
theorem headD_s (D : PD) (g : LG) (m : Nat) : (headD D g m).s = D.s := appD_s _ _ _ _ _
theorem LInv.turn_fit (hi : LInv D g) {m : Nat} (h4 : (m : Int) < D.s.1) (h6 : (sealG g).st[m]? = some 0) (hn : l.length ≤ 4096) (h1 : fitsS D.s 1 l.length = true) : LInv (headD D g m) ⟨(sealG g).st.set m 1, (m : Int), 1, g.nx + 1⟩ ∧ appE (headD D g m) (m : Int) 1 l.length = ((kpg D.s l.length : Int), 0) := by
 have h := hi.turn h4 h6
 have h2 := h.fit (l := l) (by show (0 : Int) ≤ (m : Int); omega) hn (by show fitsS (appD D _ _ _ _).s 1 _ = true; rw [appD_s]; exact h1)
 refine ⟨h, ?_⟩
 have h3 := h2.1
 rw [appD_s] at h3
 exact h3
theorem PutStep.driver (hp : PutStep D g ps kind l need at_ er D2 g2 ps2) (hi : LInv D g) (hsim : Sim D D.s ps) (hpl : ps.length < 800000) (hn1 : g.nx < 900000) (hkk : KindOk kind) (hBl : Byt l) (hm : l.length ≤ 4096)
  (hF : DevFrame N0 p F) (hSt : ∀ D, Stays (fun K w => F K D w)) (h : F K D w) (hl : LogIs q p g w) (hq : K q) (hN : N0 ≤ q) (hc : l.length ≤ c) (hCx : ∀ X, Below N0 w X → Kept (fun k => K k ∧ k ≠ q) w X → kB.C X A l.length l) :
  Calls Tryz.prog 45 #[.pointer (some ⟨q, 0, none⟩), .int .u8 kind, .slice A l.length c, .int .i64 need] w (PutPost N0 q p F K w at_ er D2 g2) := by
 have hC := hCx w (Below.refl _ _) (fun _ _ => rfl)
 have hdl := hsim.dirtyLe
 have hnx := hi.nx
 have hm1 : l.length < 1000000 := by omega
 have hkp := kpg_bd hi.sh hm
 cases hp with
 | head hk => subst hk; exact LPut_head hF hSt h hl hq hN hC hc hm1
 | big hk h1 => exact LPut_big hF hSt h hl hq hN hC hc hm1 hk h1
 | full hk h1 h2 h3 =>
  rcases h2 with h2 | ⟨h2, h2'⟩
  ·exact LPut_full0 hF hSt h hl hq hN hC hc hm1 hk h1 h2 h3
  ·exact LPut_fullN hF hSt h hl hq hN hC hc hm1 hk h1 h2 h2' h3
 | app hk h1 h2 h3 =>
  obtain ⟨h4, h5, h6⟩ := hi.one h2
  obtain ⟨h7, h8⟩ := hi.fit h2 hm h3
  have hb1 := hi.sh.b1
  exact LPut_app hF hSt h hl hq hN hC hc hm1 hk h1 h2 h3 hkk hBl hCx (by omega) ⟨by omega, by omega⟩ hnx (by omega) (by omega) (by omega) h7
 | turn m hk h1 h2 h3 h4 h5 h6 h7 h8 =>
  obtain ⟨h9, h10⟩ := hi.turn_fit (l := l) h4 h6 hm h1
  have hhi := hi.hi
  have ha1 := hi.sh.a1
  have hdd : (appD D (m : Int) 0 0 (Fl.rec 1 g.nx [])).dirty.length < 900000 := by
   have e1 := (hsim.app (m : Int) 0 0 (Fl.rec 1 g.nx [])).dirtyLe
   have e2 := appP_len hi.sh ps (m : Int) 0 0 (bs := Fl.rec 1 g.nx []) (by rw [rec_len]; rfl)
   omega
  rcases h2 with h2 | ⟨h2, h2'⟩
  ·exact LPut_turn0 hF hSt h hl hq hN hC hc hm1 hk h1 h2 hkk hBl hCx (by omega) hdd (by omega) ⟨by omega, by omega⟩ (by omega) (by omega) (by omega) h8 (by omega) h10 h3
  ·exact LPut_turnN hF hSt h hl hq hN hC hc hm1 hk h1 h2 h2' hkk hBl hCx (by omega) hdd (by omega) ⟨by omega, by omega⟩ (by omega) (by omega) (by omega) h8 (by omega) h10 h3
theorem PutStep.ref (hp : PutStep D g ps kind l need at_ er D2 g2 ps2) (hi : LInv D g) (hpl : ps.length < 800000) (hn1 : g.nx < 900000) (hkk : KindOk kind) (hBl : Byt l) (hm : l.length ≤ 4096)
  (hG : RefFrame N0 x D.s G) (hSt : ∀ ps, Stays (fun K w => G K ps w)) (h : G K ps w) (hl : RLog r t x cap rest (grOf D.s g) w) (hr : K r) (ht : K t) (hNr : N0 ≤ r) (hNt : N0 ≤ t) (hc : l.length ≤ c) (hCx : ∀ X, Below N0 w X → kB.C X A l.length l) :
  Calls Tryz.prog 54 #[.pointer (some ⟨r, 0, none⟩), .int .u8 kind, .slice A l.length c, .int .i64 need] w (RPutPost N0 r t x cap rest G K w at_ er ps2 (grOf D.s g2)) := by
 have hsh := hi.sh
 have hnx := hi.nx
 have hkp := kpg_bd hi.sh hm
 have hb0 := hsh.b0
 have hb1 := hsh.b1
 have ha0 := hsh.a0
 have ha1 := hsh.a1
 have hsim := GSim.of D.s g
 have hsl := hsim.len hi
 have hhi := hi.hi
 have hss := hsim.sealed hi
 have hbig : fitsS D.s 1 l.length = true → (kpg D.s l.length : Int) + 1 ≤ D.s.2.1 := fun h1 => by
  have := (fits_iff hm (by omega) (by omega)).1 h1
  omega
 cases hp with
 | head hk => subst hk; exact RPut_head hG hSt h hl hr ht hNr hNt hsh hc hm
 | big hk h1 =>
  refine RPut_big hG hSt h hl hr ht hNr hNt hsh hc hm hk ?_
  have : ¬ (1 + (kpg D.s l.length : Int) ≤ D.s.2.1) := fun hh => by
   rw [(fits_iff hm (by omega) (by omega)).2 hh] at h1
   exact absurd h1 (by decide)
  omega
 | full hk h1 h2 h3 =>
  rcases h2 with h2 | ⟨h2, h2'⟩
  ·exact RPut_full0 hG hSt h hl hr ht hNr hNt hsh hc hm hk (hbig h1) h2 (by omega) h3
  ·obtain ⟨h4, h5, h6⟩ := hi.one h2
   refine RPut_fullN hG hSt h hl hr ht hNr hNt hsh hc hm hk (hbig h1) h2 (show 0 ≤ g.pg by omega) (show g.pg ≤ 100000 by omega) ?_ (by omega) h3
   have : ¬ (g.pg + (kpg D.s l.length : Int) ≤ D.s.2.1) := fun hh => by
    rw [(fits_iff hm (by omega) (by omega)).2 hh] at h2'
    exact absurd h2' (by decide)
   show D.s.2.1 < g.pg + _
   omega
 | app hk h1 h2 h3 =>
  obtain ⟨h4, h5, h6⟩ := hi.one h2
  have h8 : g.pg + (kpg D.s l.length : Int) ≤ D.s.2.1 := (fits_iff hm (by omega) (by omega)).1 h3
  exact RPut_app hG hSt h hl hr ht hNr hNt hsh hc hm hk (hbig h1) h2 (show 0 ≤ g.pg by omega) (show g.pg ≤ 100000 by omega) h8 hkk hBl hCx (by omega) ⟨show 0 ≤ g.nx - 1 by omega, show g.nx - 1 ≤ _ by omega⟩ hnx (show g.nx < 1000000 by omega)
 | turn m hk h1 h2 h3 h4 h5 h6 h7 h8 =>
  have e2 := appP_len hi.sh ps (m : Int) 0 0 (bs := Fl.rec 1 g.nx []) (by rw [rec_len]; rfl)
  have hm0 : (rsealG (grOf D.s g)).st[m]? = some 0 := by rw [hss.st, List.getElem?_take_of_lt (by omega)]; exact h6
  have hmf : ∀ i, i < m → (rsealG (grOf D.s g)).st[i]? ≠ some 0 := fun i him => by rw [hss.st, List.getElem?_take_of_lt (by omega)]; exact h7 i him
  have hfin : ({ st := (rsealG (grOf D.s g)).st.set m 1, op := (m : Int), pg := 1 + (kpg D.s l.length : Int), nx := (grOf D.s g).nx + 1 } : LG) = grOf D.s { st := (sealG g).st.set m 1, op := (m : Int), pg := 1 + (kpg D.s l.length : Int), nx := g.nx + 1 } := by
   unfold grOf at hss ⊢
   rw [hss.st]
   simp only [List.take_set]
  rw [← hfin]
  rcases h2 with h2 | ⟨h2, h2'⟩
  ·exact RPut_turn0 hG hSt h hl hr ht hNr hNt hsh hc hm hk (hbig h1) h2 (by omega) (show g.op < _ by omega) h3 hkk hBl hCx (by omega) (show (appP D.s ps (m : Int) 0 0 (Fl.rec 1 g.nx [])).length < 900000 by omega) hm0 hmf ⟨show 0 ≤ g.nx by omega, show g.nx ≤ _ by omega⟩ (show 0 ≤ g.nx by omega) (show g.nx < 1000000 by omega)
  ·obtain ⟨h14, h15, h16⟩ := hi.one h2
   refine RPut_turnN hG hSt h hl hr ht hNr hNt hsh hc hm hk (hbig h1) h2 (show 0 ≤ g.pg by omega) (show g.pg ≤ 100000 by omega) ?_ (by omega) (show g.op < _ by omega) h3 hkk hBl hCx (by omega) (show (appP D.s ps (m : Int) 0 0 (Fl.rec 1 g.nx [])).length < 900000 by omega) hm0 hmf ⟨show 0 ≤ g.nx by omega, show g.nx ≤ _ by omega⟩ (show 0 ≤ g.nx by omega) (show g.nx < 1000000 by omega)
   have : ¬ (g.pg + (kpg D.s l.length : Int) ≤ D.s.2.1) := fun hh => by
    rw [(fits_iff hm (by omega) (by omega)).2 hh] at h2'
    exact absurd h2' (by decide)
   show D.s.2.1 < g.pg + _
   omega
structure PutKeep (D : PD) (g : LG) (ps : List Pg) (D2 : PD) (g2 : LG) (ps2 : List Pg) : Prop where
 sh : D2.s = D.s
 inv : LInv D2 g2
 sim : Sim D2 D2.s ps2
 byt : BytP ps → BytP ps2
 len : ps2.length ≤ ps.length + 514
 nx1 : g.nx ≤ g2.nx
 nx2 : g2.nx ≤ g.nx + 1
theorem PutStep.keep (hp : PutStep D g ps kind l need at_ er D2 g2 ps2) (hi : LInv D g) (hsim : Sim D D.s ps) (hm : l.length ≤ 4096) (hkk : KindOk kind) (hBl : Byt l) (hn1 : g.nx < 900000) : PutKeep D g ps D2 g2 ps2 := by
 have hnx := hi.nx
 have stay : PutKeep D g ps D g ps := ⟨rfl, hi, hsim, id, by omega, by omega, by omega⟩
 cases hp with
 | head hk => exact stay
 | big hk h1 => exact stay
 | full hk h1 h2 h3 => exact stay
 | app hk h1 h2 h3 =>
  have h4 := appP_len hi.sh ps g.op g.pg l.length (bs := Fl.rec kind (g.nx - 1) l) (rec_len _ _ _)
  exact ⟨appD_s _ _ _ _ _, hi.app h2 hm h3 _ _, by rw [appD_s]; exact hsim.app _ _ _ _, fun hb => hb.app hi.sh _ _ _ (rec_byt hkk hBl), by omega, Int.le_refl _, by show g.nx ≤ g.nx + 1; omega⟩
 | turn m hk h1 h2 h3 h4 h5 h6 h7 h8 =>
  obtain ⟨h9, h10⟩ := hi.turn_fit (l := l) h4 h6 hm h1
  have e1 := appP_len hi.sh ps (m : Int) 0 0 (bs := Fl.rec 1 g.nx []) (by rw [rec_len]; rfl)
  have e2 := appP_len hi.sh (headP D.s ps g m) (m : Int) 1 l.length (bs := Fl.rec kind g.nx l) (rec_len _ _ _)
  have e3 : (headP D.s ps g m).length ≤ ps.length + 257 := e1
  have h11 := h9.app (l := l) (by show (0 : Int) ≤ (m : Int); omega) hm (by show fitsS (headD D g m).s 1 _ = true; rw [headD_s]; exact h1) kind g.nx
  have hk1 : KindOk 1 := ⟨by decide, by decide⟩
  refine ⟨(appD_s _ _ _ _ _).trans (headD_s _ _ _), ?_, ?_, fun hb => (hb.app hi.sh _ _ _ (rec_byt hk1 Byt.nil)).app hi.sh _ _ _ (rec_byt hkk hBl), by omega, by show g.nx ≤ g.nx + 1; omega, Int.le_refl _⟩
  ·rw [headD_s] at h11
   exact h11
  ·rw [appD_s, headD_s]
   exact (hsim.app _ _ _ _).app _ _ _ _
end
end Go.Proofs.YtmbiebdcnadhkaaGreat.Fl
namespace Go.Proofs.YtmbiebdcnadhkaaGreat.Fl
open Go.RowKit Go.Proofs.YtmbiebdcnadhkaaGreatW.PrintWords Go.Proofs.YtmbiebdcnadhkaaGreatW.PrintMore Go.Maps
abbrev kI : Kd Int := Kd.int .i64
theorem info_int : (Tryz.prog.info? TNi).map (fun i => (i.zero, i.size, i.bytes)) = some (some (.int .i64 0), 1, 8) := by kernel_rfl
theorem kI_mk (w : World) (base : Nat) (okp : Nat → Prop) (x : Int) : kI.M w base okp x [.int .i64 x] := rfl
theorem row_blk {w : World} {base : Nat} {ok : Nat → Prop} {v : Value} {l : List Int} (h : kI.R TNi w base ok v l) (h0 : 0 < l.length) :
  ∃ g cap rest, v = .slice (some ⟨g, 0, none⟩) l.length cap ∧ base ≤ g ∧ ok g ∧ l.length ≤ cap ∧ w.heap[g]? = some (.cells (l.map (fun x => Value.int .i64 x) ++ rest).toArray TNi (0, 0)) := by
 have ho := Kd.own_of_R h
 rcases ho.2 with ⟨_, h2⟩ | ⟨g, cap, cur, rfl, hb, hg, h1, h2, h3, h4⟩
 ·omega
 ·refine ⟨g, cap, cur.toList.drop l.length, rfl, hb, h.1 g rfl, h1, ?_⟩
  rw [hg]
  have h5 : l.map (fun x => Value.int .i64 x) = cur.toList.take l.length := by rw [← Nat.mul_one l.length, h4]; rfl
  rw [h5, List.take_append_drop]
theorem rep_snoc (k : Nat) : List.replicate k (0 : Int) ++ [0] = List.replicate (k + 1) 0 := (List.replicate_succ' ..).symm
def RNewPost (w : World) (s : Int × Int × Int) (e : Ending) (w' : World) : Prop :=
 ∃ r t x cap rest, e = .returned (.pointer (some ⟨r, 0, none⟩)) ∧ RLog r t x cap rest (grOf s (newG 1)) w' ∧ w.heap.size ≤ r ∧ w.heap.size ≤ t ∧ w.heap.size ≤ x ∧ r ≠ x ∧ t ≠ x ∧ w'.heap[x]? = some (.cells #[.int .i64 s.1, .int .i64 s.2.1, .int .i64 s.2.2, .slice none 0 0] TX (0, 0)) ∧ Below w.heap.size w w'
set_option maxHeartbeats 2000000 in
set_option maxRecDepth 100000 in
theorem RNew_any (s : Int × Int × Int) (hs : ShapeOk s) (w : World) : Calls Tryz.prog 53 #[.agg #[.int .i64 s.1, .int .i64 s.2.1, .int .i64 s.2.2]] w (RNewPost w s) := by
 obtain ⟨n, hn⟩ := Int.eq_ofNat_of_zero_le (show 0 ≤ s.1 by have := hs.a0; omega)
 have n1 : 1 ≤ n := by have := hs.a0; omega
 have n2 : n ≤ 16 := by have := hs.a1; omega
 obtain ⟨W0, hW0⟩ : ∃ W0, W0 = w.alloc (.cells #[.int .i64 s.1, .int .i64 s.2.1, .int .i64 s.2.2] 23) := ⟨_, rfl⟩
 obtain ⟨W1, hW1⟩ : ∃ W1, W1 = W0.alloc (.cells #[.int .i64 s.1, .int .i64 s.2.1, .int .i64 s.2.2, .slice none 0 0] TX) := ⟨_, rfl⟩
 obtain ⟨W2, hW2⟩ : ∃ W2, W2 = W1.alloc (.cells #[.pointer (some ⟨W0.heap.size, 0, none⟩), .slice none 0 0, .int .i64 (-1), .int .i64 0, .int .u64 1] TRL) := ⟨_, rfl⟩
 have s0 : W0.heap.size = w.heap.size + 1 := by rw [hW0, size_alloc]
 have s1 : W1.heap.size = w.heap.size + 2 := by rw [hW1, size_alloc, s0]
 have b0 : W0.heap[w.heap.size]? = some (.cells #[.int .i64 s.1, .int .i64 s.2.1, .int .i64 s.2.2] 23 (0, 0)) := by rw [hW0]; exact blk_new w _
 have q01 : Below W0.heap.size W0 W1 := by rw [hW1]; exact below_alloc (Below.refl _ _) _
 have q12 : Below W1.heap.size W1 W2 := by rw [hW2]; exact below_alloc (Below.refl _ _) _
 have b1 : W1.heap[W0.heap.size]? = some (.cells #[.int .i64 s.1, .int .i64 s.2.1, .int .i64 s.2.2, .slice none 0 0] TX (0, 0)) := by rw [hW1]; exact blk_new _ _
 have b2 : W2.heap[W1.heap.size]? = some (.cells #[.pointer (some ⟨W0.heap.size, 0, none⟩), .slice none 0 0, .int .i64 (-1), .int .i64 0, .int .u64 1] TRL (0, 0)) := by rw [hW2]; exact blk_new _ _
 have a0 : W2.heap[w.heap.size]? = some (.cells #[.int .i64 s.1, .int .i64 s.2.1, .int .i64 s.2.2] 23 (0, 0)) := (q12.block _ (by omega)).trans ((q01.block _ (by omega)).trans b0)
 have a1 : W2.heap[W0.heap.size]? = some (.cells #[.int .i64 s.1, .int .i64 s.2.1, .int .i64 s.2.2, .slice none 0 0] TX (0, 0)) := (q12.block _ (by omega)).trans b1
 have bb : Below w.heap.size w W2 := by rw [hW2, hW1, hW0]; exact below_alloc (below_alloc (below_alloc (Below.refl _ _) _) _) _
 have k0 := bcell b0 0
 have k1 := bcell b0 1
 have k2 := bcell b0 2
 have HW0 := Lib.hid hW0
 have HW1 := Lib.hid hW1
 have HW2 := Lib.hid hW2
 have A0 := Lib.hid a0
 have A1 := Lib.hid a1
 have B2 := Lib.hid b2
 have BB := Aside0.mk bb
 have HN := Lib.hid hn
 have S0 := Lib.hid s0
 have S1 := Lib.hid s1
 clear hW0 hW1 hW2 s0 s1 b0 q01 q12 b1 b2 a0 a1 bb hs hn
 go_enter Tryz.func53, Tryz.ntmps53
 go_wp2_with (first
  | (rw [← HW0.out])
  | (rw [← HW1.out])
  | (rw [← HW2.out])
  | fail)
 go_loopw [4] (fun v4 wr => ∃ (k : Nat) (v : Value), k ≤ n ∧ v4 = .int .i64 (k : Int) ∧ wr.heap[w.heap.size]? = some (.cells #[.int .i64 s.1, .int .i64 s.2.1, .int .i64 s.2.2] 23 (0, 0)) ∧ wr.heap[W0.heap.size]? = some (.cells #[.int .i64 s.1, .int .i64 s.2.1, .int .i64 s.2.2, .slice none 0 0] TX (0, 0)) ∧ wr.heap[W1.heap.size]? = some (.cells #[.pointer (some ⟨W0.heap.size, 0, none⟩), v, .int .i64 (-1), .int .i64 0, .int .u64 1] TRL (0, 0)) ∧ kI.R TNi wr w.heap.size (fun j => w.heap.size ≤ j) v (List.replicate k 0) ∧ Below w.heap.size w wr) (fun v4 _ => n - (intOf v4).toNat)
 case atStart => exact ⟨0, _, Nat.zero_le _, rfl, A0.out, A1.out, B2.out, Kd.R_nil _ _ _ _ _, BB.out⟩
 case round =>
  obtain ⟨k, v, hk, rfl, h0, h1, h2, hR, hb⟩ := hrel
  have e0 := bcell h0 0
  have e1 := bcell h2 1
  have f1 := bfrozen h2 1
  have H0 := Lib.hid h0
  have H1 := Lib.hid h1
  have H2 := Lib.hid h2
  have HR := Aside0.mk hR
  have HB := Aside0.mk hb
  obtain ⟨g9, c9, rfl⟩ := Kd.R_slice hR
  rw [List.length_replicate] at *
  rw [HN.out] at e0
  clear h0 h1 h2 hR hb k0 k1 k2
  by_cases hlt : k < n
  ·have q1 : (k : Int) < (n : Int) := by omega
   go_wp2_with (at_builtin; refine Kd.R_append kI (w0 := w) w.heap.size rfl (.tmp 20) (.tmp 21) 55 TNi (.int .i64 0) 8 rfl Tryz.underlying55 info_int rfl (by decide) (by decide) (.slice g9 k c9) (List.replicate k 0) 0 [.int .i64 0] (fun j => w.heap.size ≤ j) (fun _ => False) rfl rfl (kI_mk _ _ _ _) (fun _ h => h.elim) (fun j hj => Nat.le_trans HB.out.size hj) HR.out HB.out HB.out.size (by rw [List.length_replicate]; omega) ?_; intro v1 w3 hr1 hb2 hg hat; rw [rep_snoc] at hr1; obtain ⟨A8, c8, hv8⟩ := Kd.R_slice hr1; rw [List.length_replicate] at hv8; subst hv8; have n0 := (hg.block _ (blt H0.out) (Kd.R_ne HR.out H0.out (by decide))).trans H0.out; have n1 := (hg.block _ (blt H1.out) (Kd.R_ne HR.out H1.out (by decide))).trans H1.out; have n2 := (hg.block _ (blt H2.out) (Kd.R_ne HR.out H2.out (by decide))).trans H2.out; have z1 : w3.cell? ⟨W1.heap.size, 1, none⟩ = some (.slice g9 k c9) := bcell n2 1; have zf := bfrozen n2 1; have N0 := Lib.hid n0; have N1 := Lib.hid n1; have N2 := Lib.hid n2; have HR1 := Aside0.mk hr1; have HB2 := Aside0.mk hb2; clear hr1 hb2 hg hat n0 n1 n2)
   have u0 := S0.out
   have u1 := S1.out
   refine ⟨⟨k + 1, _, by omega, by go_num, (Below.heap_setCell _ ⟨W1.heap.size, 1, none⟩ _ w.heap.size (by show w.heap.size ≠ W1.heap.size; omega)).trans N0.out, (Below.heap_setCell _ ⟨W1.heap.size, 1, none⟩ _ W0.heap.size (by show W0.heap.size ≠ W1.heap.size; omega)).trans N1.out, (setCell_blk N2.out 1 _).trans rfl, Kd.R_set HR1.out N2.out (by decide) 1 _, HB2.out.setCell (p := ⟨W1.heap.size, 1, none⟩) (by show w.heap.size ≤ W1.heap.size; omega) _⟩, by simp [intOf]; omega⟩
  ·obtain rfl : k = n := by omega
   go_wp2_with fail
   go_ret
   have u0 := S0.out
   have u1 := S1.out
   obtain ⟨g, cap, rest, hv, hgb, _, hcap, hgb2⟩ := row_blk HR.out (by rw [List.length_replicate]; omega)
   rw [List.length_replicate] at hv
   have hg : grOf s (newG 1) = ⟨List.replicate k 0, -1, 0, 1⟩ := by
    show (⟨(List.replicate 16 0).take s.1.toNat, -1, 0, 1⟩ : LG) = _
    rw [HN.out, Int.toNat_natCast, List.take_replicate, Nat.min_eq_left (by omega)]
   refine ⟨W1.heap.size, g, W0.heap.size, cap, rest, rfl, ?_, by omega, hgb, by omega, by omega, ?_, H1.out, HB.out⟩
   ·rw [hg]
    refine ⟨?_, hgb2⟩
    rw [H2.out, hv]
    simp [rlogC]
   ·rintro rfl
    have := H1.out
    rw [hgb2] at this
    injection this with this
    injection this with _ this _
    exact absurd this (by decide)
end Go.Proofs.YtmbiebdcnadhkaaGreat.Fl
namespace Go.Proofs.YtmbiebdcnadhkaaGreat.Fl
open Go.RowKit Go.Proofs.YtmbiebdcnadhkaaGreatW.PrintWords Go.Proofs.YtmbiebdcnadhkaaGreatW.PrintMore Go.Maps
inductive Deeds (s : Int × Int × Int) : Nat → PD → LG → List Pg → Prop
 | new : Deeds s 0 ⟨s, [], []⟩ (newG 1) []
 | put {k : Nat} {D : PD} {g : LG} {ps : List Pg} {kind : Int} {l : List Int} {need : Int} {at_ : Adr} {er : Int} {D2 : PD} {g2 : LG} {ps2 : List Pg} (h : Deeds s k D g ps) (hs : Sound D) (hd : Nodup D.mp) (hk : KindOk kind) (hb : Byt l) (hl : l.length ≤ 400) (hn : need = 1 ∨ need = 2) (hp : PutStep D g ps kind l need at_ er D2 g2 ps2) : Deeds s (k + 1) D2 g2 ps2
 | erase {k : Nat} {D : PD} {g : LG} {ps : List Pg} (h : Deeds s k D g ps) (hs : Sound D) (hd : Nodup D.mp) (a : Int) : Deeds s (k + 1) (lEraseD D g a) (lEraseG D.s g a) (rEraseP ps (grOf s g) a)
 | sealed {k : Nat} {D : PD} {g : LG} {ps : List Pg} (h : Deeds s k D g ps) (hs : Sound D) (hd : Nodup D.mp) : Deeds s (k + 1) D (sealG g) ps
 | sync {k : Nat} {D : PD} {g : LG} {ps : List Pg} (h : Deeds s k D g ps) (hs : Sound D) (hd : Nodup D.mp) : Deeds s (k + 1) { D with dirty := [] } g (syncP ps)
structure DInv (s : Int × Int × Int) (k : Nat) (D : PD) (g : LG) (ps : List Pg) : Prop where
 sim : Sim D s ps
 inv : LInv D g
 byt : BytP ps
 len : ps.length ≤ 514 * k
 nx : g.nx ≤ (k : Int) + 1
theorem erase_zero {D : PD} {g : LG} {a : Int} (he : lEraseE D.s g a = 0) (hs : ShapeOk D.s) : hasB D.s a 0 = true := by
 have hf : fitsB a 0 (D.s.1 - 1) = true := by
  cases hf : fitsB a 0 (D.s.1 - 1) with
  | true => rfl
  | false => unfold lEraseE at he; rw [if_pos hf] at he; exact absurd he (by decide)
 unfold fitsB at hf
 rw [decide_eq_true_iff] at hf
 have := hs.b0
 exact (hasB_iff _ _ _).2 ⟨by omega, by omega, Int.le_refl _, by omega⟩
theorem Sim.lerase {D : PD} {g : LG} {ps : List Pg} (h : Sim D D.s ps) (hi : LInv D g) (hd : Nodup D.mp) (a : Int) : Sim (lEraseD D g a) D.s (rEraseP ps (grOf D.s g) a) := by
 have he := (GSim.of D.s g).eraseE hi a
 unfold lEraseD rEraseP
 rw [he]
 split
 ·rename_i h0
  exact h.erase hd a (erase_zero h0 hi.sh)
 ·exact h
theorem Deeds.keep {s : Int × Int × Int} (hs : ShapeOk s) : ∀ {k : Nat} {D : PD} {g : LG} {ps : List Pg}, Deeds s k D g ps → k ≤ 1000 → DInv s k D g ps := by
 intro k D g ps h
 induction h with
 | new => exact fun _ => ⟨Sim.new s, LInv.new hs, BytP.nil, by simp, by show (1 : Int) ≤ _; omega⟩
 | @put k D g ps kind l need at_ er D2 g2 ps2 h _ hd hk hb hl hn hp ih =>
  intro hk2
  obtain ⟨h1, h2, h3, h4, h5⟩ := ih (by omega)
  have hsh := h1.sh
  subst hsh
  obtain ⟨k1, k2, k3, k4, k5, k6, k7⟩ := hp.keep h2 h1 (by omega) hk hb (by omega)
  rw [k1] at k3
  exact ⟨k3, k2, k4 h3, by omega, by omega⟩
 | @erase k D g ps h _ hd a ih =>
  intro hk2
  obtain ⟨h1, h2, h3, h4, h5⟩ := ih (by omega)
  have hsh := h1.sh
  subst hsh
  refine ⟨h1.lerase h2 hd a, h2.erase hd a, ?_, ?_, ?_⟩
  ·unfold rEraseP; split
   ·exact h3.erase a
   ·exact h3
  ·have : (rEraseP ps (grOf D.s g) a).length ≤ ps.length := by
    unfold rEraseP; split
    ·exact List.length_filter_le _ _
    ·exact Nat.le_refl _
   omega
  ·have : (lEraseG D.s g a).nx = g.nx := by unfold lEraseG; split <;> rfl
   omega
 | @sealed k D g ps h _ _ ih =>
  intro hk2
  obtain ⟨h1, h2, h3, h4, h5⟩ := ih (by omega)
  exact ⟨h1, h2.sealed, h3, by omega, by rw [sealG_nx]; omega⟩
 | @sync k D g ps h _ _ ih =>
  intro hk2
  obtain ⟨h1, h2, h3, h4, h5⟩ := ih (by omega)
  exact ⟨h1.sync, h2.sync, h3.sync, by simp [syncP]; omega, by omega⟩
end Go.Proofs.YtmbiebdcnadhkaaGreat.Fl
namespace Go.Proofs.YtmbiebdcnadhkaaGreat.Fl
open Go.RowKit Go.Proofs.YtmbiebdcnadhkaaGreatW.PrintWords Go.Proofs.YtmbiebdcnadhkaaGreatW.PrintMore Go.Maps
structure Pl where
 q : Nat
 p : Nat
 r : Nat
 t : Nat
 x : Nat
 cap : Nat
 rest : List Value
structure LT (K : Nat → Prop) (N0 : Nat) (P : Pl) (s : Int × Int × Int) (D : PD) (g : LG) (ps : List Pg) (gr : LG) (w : World) : Prop where
 two : Two K N0 P.p P.x D s ps w
 log : LogIs P.q P.p g w
 rlog : RLog P.r P.t P.x P.cap P.rest gr w
 kq : K P.q
 kr : K P.r
 kt : K P.t
 nq : N0 ≤ P.q
 nr : N0 ≤ P.r
 nt : N0 ≤ P.t
section
variable {K K' : Nat → Prop} {N0 : Nat} {P : Pl} {s : Int × Int × Int} {D D2 : PD} {g g2 gr gr2 : LG} {ps ps2 : List Pg} {w w' : World}
theorem LT.below (h : LT K N0 P s D g ps gr w) (hb : Below w.heap.size w w') : LT K N0 P s D g ps gr w' := ⟨h.two.below hb, h.log.below hb, h.rlog.below hb, h.kq, h.kr, h.kt, h.nq, h.nr, h.nt⟩
theorem LT.drew (h : LT K N0 P s D g ps gr w) : LT K N0 P s D g ps gr w.drew := h.below ((Below.refl _ w).drew)
theorem LT.keep (h : LT K N0 P s D g ps gr w) (hb : Below w.heap.size w w') : LT (fun k => K k ∨ (w.heap.size ≤ k ∧ k < w'.heap.size)) N0 P s D g ps gr w' := ⟨h.two.keep hb, h.log.below hb, h.rlog.below hb, .inl h.kq, .inl h.kr, .inl h.kt, h.nq, h.nr, h.nt⟩
theorem LT.less (h : LT K N0 P s D g ps gr w) (hk : ∀ k, K' k → K k) (k1 : K' P.q) (k2 : K' P.r) (k3 : K' P.t) : LT K' N0 P s D g ps gr w := ⟨h.two.less hk, h.log, h.rlog, k1, k2, k3, h.nq, h.nr, h.nt⟩
def K3 (P : Pl) (k : Nat) : Prop := k = P.q ∨ k = P.r ∨ k = P.t
theorem LT.three (h : LT K N0 P s D g ps gr w) : LT (K3 P) N0 P s D g ps gr w := h.less (fun k hk => hk.elim (fun e => by rw [e]; exact h.kq) (fun hk => hk.elim (fun e => by rw [e]; exact h.kr) (fun e => by rw [e]; exact h.kt))) (.inl rfl) (.inr (.inl rfl)) (.inr (.inr rfl))
theorem blk_ne {T T' : TypeId} {a b : Nat} {o o' : Array Value} {f f' : Nat × Nat} (h : w.heap[a]? = some (.cells o T f)) (h' : w.heap[b]? = some (.cells o' T' f')) (hT : T ≠ T') : a ≠ b := fun e => by
 rw [e, h'] at h
 injection h with h
 injection h with _ h _
 exact hT h.symm
theorem LT.qr (h : LT K N0 P s D g ps gr w) : P.q ≠ P.r := blk_ne h.log.blk h.rlog.blk (by decide)
theorem LT.qt (h : LT K N0 P s D g ps gr w) : P.q ≠ P.t := blk_ne h.log.blk h.rlog.row (by decide)
theorem LT.lt (h : LT K N0 P s D g ps gr w) : ∀ k, K k → k < w.heap.size := (two_frame N0 P.p P.x s ps).lt h.two
theorem LT.size (h : LT K N0 P s D g ps gr w) : N0 ≤ w.heap.size := h.two.size
theorem LT.sound (h : LT K N0 P s D g ps gr w) : Sound D := (two_frame N0 P.p P.x s ps).sound h.two
theorem LT.drv (h : LT K N0 P s D g ps gr w) (h1 : Two K N0 P.p P.x D2 s ps w') (h2 : LogIs P.q P.p g2 w') (hk : Kept (fun k => K k ∧ k ≠ P.q) w w') : LT K N0 P s D2 g2 ps gr w' :=
 ⟨h1, h2, h.rlog.step (hk _ ⟨h.kr, h.qr.symm⟩) (hk _ ⟨h.kt, h.qt.symm⟩), h.kq, h.kr, h.kt, h.nq, h.nr, h.nt⟩
theorem LT.doc (h : LT K N0 P s D g ps gr w) (h1 : Two K N0 P.p P.x D s ps2 w') (h2 : RLog P.r P.t P.x P.cap P.rest gr2 w') (hk : Kept (fun k => K k ∧ k ≠ P.r ∧ k ≠ P.t) w w') : LT K N0 P s D g ps2 gr2 w' :=
 ⟨h1, ⟨h.log.len, (hk _ ⟨h.kq, h.qr, h.qt⟩).trans h.log.blk⟩, h2, h.kq, h.kr, h.kt, h.nq, h.nr, h.nt⟩
variable {A : Option Addr} {c : Nat} {l : List Int} {kind er : Int} {at_ : Adr} {need : Int}
def DrvPost (K : Nat → Prop) (N0 : Nat) (P : Pl) (s : Int × Int × Int) (D : PD) (g : LG) (ps : List Pg) (gr : LG) (w : World) (v : Value) (e : Ending) (w' : World) : Prop :=
 e = .returned v ∧ LT K N0 P s D g ps gr w' ∧ Below N0 w w' ∧ Kept (fun k => K k ∧ k ≠ P.q) w w'
def DocPost (K : Nat → Prop) (N0 : Nat) (P : Pl) (s : Int × Int × Int) (D : PD) (g : LG) (ps : List Pg) (gr : LG) (w : World) (v : Value) (e : Ending) (w' : World) : Prop :=
 e = .returned v ∧ LT K N0 P s D g ps gr w' ∧ Below N0 w w' ∧ Kept (fun k => K k ∧ k ≠ P.r ∧ k ≠ P.t) w w'
def putV (at_ : Adr) (er : Int) : Value := .tuple #[.agg #[.int .i64 at_.1, .int .i64 at_.2], .int .i64 er]
theorem LT.append (h : LT K N0 P s D g ps gr w) {psx : List Pg} (hp : PutStep D g psx kind l 2 at_ er D2 g2 ps2) (hi : LInv D g) (hsim : Sim D D.s psx) (hpl : psx.length < 800000) (hn1 : g.nx < 900000) (hkk : KindOk kind) (hBl : Byt l) (hm : l.length ≤ 4096) (hc : l.length ≤ c) (hCx : ∀ X, Below N0 w X → kB.C X A l.length l) :
  Calls Tryz.prog 7 #[.pointer (some ⟨P.q, 0, none⟩), .int .u8 kind, .slice A l.length c] w (DrvPost K N0 P s D2 g2 ps gr w (putV at_ er)) :=
 (LAppend_F (two_frame N0 P.p P.x s ps) (fun D => two_stays N0 P.p P.x D s ps) h.two h.log h.kq (fun K2 X hK hX hlX hb => hp.driver hi hsim hpl hn1 hkk hBl hm (two_frame N0 P.p P.x s ps) (fun D => two_stays N0 P.p P.x D s ps) hX hlX (hK _ h.kq) h.nq hc (fun Y hY _ => hCx Y ((hb.mono h.size).trans hY)))).mono
  fun e w' ⟨h1, h2, h3, h4, h5⟩ => ⟨h1, h.drv h2 h3 h5, h4, h5⟩
theorem LT.move (h : LT K N0 P s D g ps gr w) {psx : List Pg} (hp : PutStep D g psx kind l 1 at_ er D2 g2 ps2) (hi : LInv D g) (hsim : Sim D D.s psx) (hpl : psx.length < 800000) (hn1 : g.nx < 900000) (hkk : KindOk kind) (hBl : Byt l) (hm : l.length ≤ 4096) (hc : l.length ≤ c) (hCx : ∀ X, Below N0 w X → kB.C X A l.length l) :
  Calls Tryz.prog 8 #[.pointer (some ⟨P.q, 0, none⟩), .int .u8 kind, .slice A l.length c] w (DrvPost K N0 P s D2 g2 ps gr w (putV at_ er)) :=
 (LMove_F (two_frame N0 P.p P.x s ps) (fun D => two_stays N0 P.p P.x D s ps) h.two h.log h.kq (fun K2 X hK hX hlX hb => hp.driver hi hsim hpl hn1 hkk hBl hm (two_frame N0 P.p P.x s ps) (fun D => two_stays N0 P.p P.x D s ps) hX hlX (hK _ h.kq) h.nq hc (fun Y hY _ => hCx Y ((hb.mono h.size).trans hY)))).mono
  fun e w' ⟨h1, h2, h3, h4, h5⟩ => ⟨h1, h.drv h2 h3 h5, h4, h5⟩
theorem LT.rput {Dx : PD} {gx : LG} (h : LT K N0 P D.s Dx gx ps (grOf D.s g) w) (hp : PutStep D g ps kind l need at_ er D2 g2 ps2) (hi : LInv D g) (hpl : ps.length < 800000) (hn1 : g.nx < 900000) (hkk : KindOk kind) (hBl : Byt l) (hm : l.length ≤ 4096) (hc : l.length ≤ c) (hCx : ∀ X, Below N0 w X → kB.C X A l.length l) :
  Calls Tryz.prog 54 #[.pointer (some ⟨P.r, 0, none⟩), .int .u8 kind, .slice A l.length c, .int .i64 need] w (DocPost K N0 P D.s Dx gx ps2 (grOf D.s g2) w (putV at_ er)) :=
 (hp.ref hi hpl hn1 hkk hBl hm (two_refFrame N0 P.p P.x D.s Dx) (fun ps => two_stays N0 P.p P.x Dx D.s ps) h.two h.rlog h.kr h.kt h.nr h.nt hc hCx).mono
  fun e w' ⟨h1, h2, h3, h4, h5⟩ => ⟨h1, h.doc h2 h3 h5, h4, h5⟩
theorem LT.erase (h : LT K N0 P s D g ps gr w) (hdl : D.dirty.length < 1000000) (a : Int) :
  Calls Tryz.prog 13 #[.pointer (some ⟨P.q, 0, none⟩), .int .i64 a] w (DrvPost K N0 P s (lEraseD D g a) (lEraseG D.s g a) ps gr w (.int .i64 (lEraseE D.s g a))) :=
 (LErase_F (two_frame N0 P.p P.x s ps) (fun D => two_stores N0 P.p P.x D s ps) h.two h.log h.kq h.nq hdl a).mono fun e w' ⟨h1, h2, h3, h4, h5⟩ => ⟨h1, h.drv h2 h3 h5, h4, h5⟩
theorem LT.rerase {Dx : PD} {gx : LG} (h : LT K N0 P D.s Dx gx ps (grOf D.s g) w) (hi : LInv D g) (hpl : ps.length < 1000000) (a : Int) :
  Calls Tryz.prog 55 #[.pointer (some ⟨P.r, 0, none⟩), .int .i64 a] w (DocPost K N0 P D.s Dx gx (rEraseP ps (grOf D.s g) a) (grOf D.s (lEraseG D.s g a)) w (.int .i64 (lEraseE D.s g a))) := by
 have hs := GSim.of D.s g
 have hl := hs.len hi
 have ha1 := hi.sh.a1
 have h0 := RLErase_G (two_refFrame N0 P.p P.x D.s Dx) (fun ps => two_stays N0 P.p P.x Dx D.s ps) h.two h.rlog h.kr h.kt h.nt (by omega) hpl a
 rw [hs.eraseE hi, (hs.erase hi a).eq] at h0
 exact h0.mono fun e w' ⟨h1, h2, h3, h4, h5⟩ => ⟨h1, h.doc h2 h3 h5, h4, h5⟩
theorem LT.sealed (h : LT K N0 P s D g ps gr w) (hi : LInv D g) :
  Calls Tryz.prog 11 #[.pointer (some ⟨P.q, 0, none⟩)] w (DrvPost K N0 P s D (sealG g) ps gr w (.tuple #[])) :=
 (LSeal_F (F := fun K D w => Two K N0 P.p P.x D s ps w) (fun D => two_stays N0 P.p P.x D s ps) h.two h.log h.kq h.nq h.size h.lt (by have := hi.hi; have := hi.sh.a1; omega)).mono fun e w' ⟨h1, h2, h3, h4, h5⟩ => ⟨h1, h.drv h2 h3 h5, h4, h5⟩
theorem LT.rseal {Dx : PD} {gx : LG} (h : LT K N0 P D.s Dx gx ps (grOf D.s g) w) (hi : LInv D g) :
  Calls Tryz.prog 56 #[.pointer (some ⟨P.r, 0, none⟩)] w (DocPost K N0 P D.s Dx gx ps (grOf D.s (sealG g)) w (.tuple #[])) := by
 have hs := GSim.of D.s g
 have hl := hs.len hi
 have hh := hi.hi
 have h0 := RSeal_G (two_refFrame N0 P.p P.x D.s Dx) (fun ps => two_stays N0 P.p P.x Dx D.s ps) h.two h.rlog h.kr h.kt h.nr h.nt (show g.op < _ by omega)
 rw [(hs.sealed hi).eq] at h0
 exact h0.mono fun e w' ⟨h1, h2, h3, h4, h5⟩ => ⟨h1, h.doc h2 h3 h5, h4, h5⟩
theorem LT.sync (h : LT K N0 P s D g ps gr w) :
  Calls Tryz.prog 12 #[.pointer (some ⟨P.q, 0, none⟩)] w (DrvPost K N0 P s { D with dirty := [] } g ps gr w (.tuple #[])) :=
 (LSync_F (two_frame N0 P.p P.x s ps) h.two h.log h.kq).mono fun e w' ⟨h1, h2, h3, h4, h5⟩ => ⟨h1, h.drv h2 h3 (fun k hk => h5 k hk.1), h4, fun k hk => h5 k hk.1⟩
theorem LT.rsync (h : LT K N0 P s D g ps gr w) (hpl : ps.length < 1000000) :
  Calls Tryz.prog 57 #[.pointer (some ⟨P.x, 0, none⟩)] w (DocPost K N0 P s D g (syncP ps) gr w (.tuple #[])) :=
 (h.two.rsync hpl).mono fun e w' ⟨h1, h2, h4, h5⟩ => ⟨h1, h.doc h2 (h.rlog.step (h5 _ h.kr) (h5 _ h.kt)) (fun k hk => h5 k hk.1), h4, fun k hk => h5 k hk.1⟩
end
end Go.Proofs.YtmbiebdcnadhkaaGreat.Fl
namespace Go.Proofs.YtmbiebdcnadhkaaGreat.Fl
open Go.RowKit Go.Proofs.YtmbiebdcnadhkaaGreatW.PrintWords Go.Proofs.YtmbiebdcnadhkaaGreatW.PrintMore Go.Maps
abbrev TSD : TypeId := 68
structure MadeAt (w : World) (s : Int × Int × Int) (P : Pl) (k : Nat) (D : PD) (g : LG) (ps : List Pg) (w' : World) : Prop where
 lt : LT (K3 P) w.heap.size P s D g ps (grOf s g) w'
 ds : Deeds s k D g ps
 bel : Below w.heap.size w w'
def MadePost (w : World) (s : Int × Int × Int) (n : Nat) (e : Ending) (w' : World) : Prop :=
 ∃ P D g ps, e = .returned (.tuple #[.pointer (some ⟨P.q, 0, none⟩), .pointer (some ⟨P.r, 0, none⟩), .bool true]) ∧ MadeAt w s P n D g ps w'
theorem two_of {N0 p q r t x cap : Nat} {rest : List Value} {s : Int × Int × Int} {g : LG} {K : Nat → Prop} {w w' : World} (h : Solo N0 p (fun k => K k ∨ k = q) ⟨s, [], []⟩ w) (hl : LogIs q p g w) (hN : N0 ≤ q)
  (hr : RLog r t x cap rest (grOf s g) w') (h1 : w.heap.size ≤ r) (h2 : w.heap.size ≤ t) (h3 : w.heap.size ≤ x) (h4 : r ≠ x) (h5 : t ≠ x) (hx : w'.heap[x]? = some (.cells #[.int .i64 s.1, .int .i64 s.2.1, .int .i64 s.2.2, .slice none 0 0] TX (0, 0))) (hb : Below w.heap.size w w') :
  LT (K3 ⟨q, p, r, t, x, cap, rest⟩) N0 ⟨q, p, r, t, x, cap, rest⟩ s ⟨s, [], []⟩ g [] (grOf s g) w' := by
 obtain ⟨ok, hD, h0, hsz, hK⟩ := h
 have hq : q < w.heap.size := blt hl.blk
 refine ⟨⟨_, fun k => k = x, hD.bound.below hb, ⟨by show N0 ≤ x; omega, rfl, .slice none 0 0, hx, Kd.R_nil _ _ _ _ _⟩, fun k a b => ?_, fun k a => h0 k a.1, fun k a => ?_, Nat.le_trans hsz hb.size, fun k hk => ?_⟩, hl.below hb, hr, .inl rfl, .inr (.inl rfl), .inr (.inr rfl), hN, by show N0 ≤ r; omega, by show N0 ≤ t; omega⟩
 ·have := a.2.2
  have b : k = x := b
  omega
 ·have a : k = x := a
  omega
 ·rcases hk with e | e | e
  ·have e : k = q := e
   rw [e]
   refine ⟨Nat.lt_of_lt_of_le hq hb.size, .inl ⟨fun a => ?_, fun a => ?_⟩⟩
   ·rcases (hK q (.inr rfl)).2 with h | ⟨cs, fr, e⟩
    ·exact h a.1
    ·exact not_byte hl.blk (by decide) e
   ·have a : q = x := a
    omega
  ·have e : k = r := e
   rw [e]
   exact ⟨blt hr.blk, .inl ⟨fun a => by have := a.2.2; omega, fun a => h4 a⟩⟩
  ·have e : k = t := e
   rw [e]
   exact ⟨blt hr.row, .inl ⟨fun a => by have := a.2.2; omega, fun a => h5 a⟩⟩
set_option maxHeartbeats 8000000 in
set_option maxRecDepth 100000 in
theorem Made15_any {w : World} {A : Option Addr} {c : Nat} {s : Int × Int × Int} {ds : List SDeed} (hm : mayB s = true) (hr : LRow w A ds) (hf : fewS ds = true) (hp : ∀ d ∈ ds, SDeedOk d) :
  Calls Tryz.prog 22 #[.agg #[.int .i64 s.1, .int .i64 s.2.1, .int .i64 s.2.2], .slice A ds.length c] w (MadePost w s ds.length) := by
 obtain ⟨n, hn⟩ : ∃ n, n = ds.length := ⟨_, rfl⟩
 obtain ⟨hf1, hf2⟩ := fewS_ok hf
 have hsb : shapeB s = true := by
  unfold mayB at hm
  rw [Bool.and_eq_true] at hm
  exact hm.1
 have h4 : 4 ≤ s.1 := by
  unfold mayB at hm
  rw [Bool.and_eq_true, decide_eq_true_iff] at hm
  exact hm.2
 have hsh := shapeB_ok hsb
 have hnew : ∀ W : World, w.heap.size ≤ W.heap.size → Calls Tryz.prog 43 #[.agg #[.int .i64 s.1, .int .i64 s.2.1, .int .i64 s.2.2]] W fun e w' => ∃ p, e = .returned (.tuple #[.pointer (some ⟨p, 0, none⟩), .int .i64 0]) ∧ Solo w.heap.size p (fun k => k < W.heap.size) ⟨s, [], []⟩ w' ∧ Below W.heap.size W w' := fun W hW => (New_ok s hsb W _ hW).mono fun e w' ⟨p, h1, h2, h3⟩ => ⟨p, h1, ⟨_, h2, fun k hk => Nat.le_trans hW hk, Nat.le_trans hW h3.size, fun k hk => ⟨Nat.lt_of_lt_of_le hk h3.size, .inl (fun a => by omega)⟩⟩, h3⟩
 have hlog : ∀ (p : Nat) (K : Nat → Prop) (W : World), Solo w.heap.size p K ⟨s, [], []⟩ W → Calls Tryz.prog 44 #[.pointer (some ⟨p, 0, none⟩)] W fun e w' => ∃ q, e = .returned (.tuple #[.pointer (some ⟨q, 0, none⟩), .int .i64 0]) ∧ Solo w.heap.size p (fun k => K k ∨ k = q) ⟨s, [], []⟩ w' ∧ LogIs q p (newG 1) w' ∧ Below w.heap.size W w' ∧ Kept K W w' ∧ W.heap.size ≤ q := fun p K W h => LNew_any h hsh h4
 have hrn := fun W => RNew_any s hsh W
 have HR := Lib.hid hr
 have HN := Lib.hid hn
 have HS := Lib.hid hsh
 have HP := Lib.hid hp
 have HF := Lib.hid hf2
 have HNEW := Lib.hid hnew
 have HLOG := Lib.hid hlog
 have HRN := Lib.hid hrn
 rw [← hn] at hf1
 rw [← hn]
 clear hr hn hf hm hp hf2 hnew hlog hrn hsb hsh h4
 obtain ⟨W, hW⟩ : ∃ W, W = w.alloc (.cells #[.int .i64 s.1, .int .i64 s.2.1, .int .i64 s.2.2] 23) := ⟨_, rfl⟩
 have q0 : W.heap[w.heap.size]? = some (.cells #[.int .i64 s.1, .int .i64 s.2.1, .int .i64 s.2.2] 23 (0, 0)) := by rw [hW]; exact blk_new w _
 have qb : Below w.heap.size w W := by rw [hW]; exact below_alloc (Below.refl _ _) _
 have k1 : W.cell? ⟨w.heap.size, 0, none⟩ = some (.int .i64 s.1) := bcell q0 0
 have k2 : W.cell? ⟨w.heap.size, 1, none⟩ = some (.int .i64 s.2.1) := bcell q0 1
 have k3 : W.cell? ⟨w.heap.size, 2, none⟩ = some (.int .i64 s.2.2) := bcell q0 2
 have HW := Lib.hid hW
 have Q0 := Lib.hid q0
 have QB := Aside0.mk qb
 clear hW q0 qb
 go_enter Tryz.func22, Tryz.ntmps22
 go_wp2_with fail
 rw [← HW.out]
 go_wp2_with (first
  | (go_at_call 43; (with_reducible refine (HNEW.out _ QB.out.size).mono ?_); rintro e w1 ⟨p, rfl, hS, hb⟩; have hx1 := (hb.block _ (blt Q0.out)).trans Q0.out; have HX1 := Lib.hid hx1; have HS1 := Aside0.mk hS; have HB1 := Aside0.mk (QB.out.trans (hb.mono QB.out.size)); clear hS hb hx1)
  | (go_at_call 44; (with_reducible refine (HLOG.out _ _ _ HS1.out).mono ?_); rintro e w2 ⟨q, rfl, hS, hl, hb, hk, hq⟩; have hx2 := (hk _ (blt Q0.out)).trans HX1.out; have k1 : w2.cell? ⟨w.heap.size, 0, none⟩ = some (.int .i64 s.1) := bcell hx2 0; have k2 : w2.cell? ⟨w.heap.size, 1, none⟩ = some (.int .i64 s.2.1) := bcell hx2 1; have k3 : w2.cell? ⟨w.heap.size, 2, none⟩ = some (.int .i64 s.2.2) := bcell hx2 2; have HS2 := Aside0.mk hS; have HL2 := Aside0.mk hl; have HB2 := Aside0.mk (HB1.out.trans hb); have HQ2 := Lib.hid (Nat.le_trans HB1.out.size hq); clear hS hl hb hk hx2 hq)
  | (go_at_call 53; (with_reducible refine (HRN.out _).mono ?_); rintro e w3 ⟨r, t, x, cap, rest, rfl, hr, h1, h2, h3, h4, h5, hx, hb⟩; have HT3 := Aside0.mk (two_of HS2.out HL2.out HQ2.out hr h1 h2 h3 h4 h5 hx hb); have HB3 := Aside0.mk (HB2.out.trans (hb.mono HB2.out.size)); obtain ⟨P, hP⟩ : ∃ P : Pl, P = ⟨q, p, r, t, x, cap, rest⟩ := ⟨_, rfl⟩; obtain rfl : q = P.q := (by rw [hP]); obtain rfl : r = P.r := (by rw [hP]); have HT := Aside0.mk (show LT (K3 P) w.heap.size P s ⟨s, [], []⟩ (newG 1) [] (grOf s (newG 1)) w3 from by rw [hP]; exact HT3.out); clear HT3 hr h1 h2 h3 h4 h5 hx hb hP)
  | fail)
 clear k1 k2 k3 HS1 HS2 HL2 HQ2 HX1 HB1 HB2 Q0 QB HW HNEW HLOG HRN
 go_loopw [40] (fun v40 wr => ∃ (k : Nat) (D : PD) (g : LG) (ps : List Pg), k ≤ n ∧ v40 = .int .i64 (k : Int) ∧ MadeAt w s P k D g ps wr) (fun v40 _ => n - (intOf v40).toNat)
 case atStart => exact ⟨0, _, _, _, Nat.zero_le _, rfl, ⟨HT.out, .new, HB3.out⟩⟩
 case round =>
  clear HT HB3
  obtain ⟨k, D, g, ps, hk, rfl, ht, hds, hb⟩ := hrel
  obtain ⟨hsim, hinv, hbyt, hlen, hnx⟩ := hds.keep HS.out (by omega)
  obtain rfl : D.s = s := hsim.sh
  have HT := Aside0.mk ht
  have HDS := Lib.hid hds
  have HSIM := Aside0.mk hsim
  have HINV := Aside0.mk hinv
  have HBB := Aside0.mk hb
  have HLEN := Lib.hid (show ps.length < 800000 by omega)
  have HNX := Lib.hid (show g.nx < 900000 by omega)
  have HSND := Lib.hid ht.sound
  have HNDP := Lib.hid ht.two.nodup
  clear ht hds hsim hinv hbyt hlen hnx hb
  by_cases hlt : k < n
  ·obtain ⟨d, hd⟩ : ∃ d, ds[k]? = some d := ⟨_, List.getElem?_eq_getElem (by have := HN.out; omega)⟩
   obtain ⟨ad, A1, c1, hA, hc⟩ := HR.out k d hd
   have ROWC := Lib.hid (show ∀ X, Below w.heap.size w X → kB.C X A1 d.l.length d.l from fun X hX => Kd.C_below hc.row hX)
   have HCAP := Lib.hid hc.cap
   have hc := hc.below HBB.out
   subst hA
   have d0 := hc.c0; have d1 := hc.c1; have d2 := hc.c2; have d3 := hc.c3
   have hdp := HP.out d (List.mem_of_getElem? hd)
   have hdl := HF.out d (List.mem_of_getElem? hd)
   have HDP := Lib.hid hdp
   have HDL := Lib.hid hdl
   have k0 : (0 : Int) ≤ (k : Int) := by omega
   have k2 : (k : Int) < (n : Int) := by omega
   clear hd hc hdp hdl
   obtain ⟨dop, dwh, dl, dsg⟩ := d
   simp only at d0 d1 d2 d3 ROWC HCAP HDL
   obtain ⟨Y, hY⟩ : ∃ Y, Y = wr.alloc (.cells #[.int .i64 dop, .int .u8 dwh, .slice A1 dl.length c1, .int .i64 dsg] TSD) := ⟨_, rfl⟩
   have y0 : Y.heap[wr.heap.size]? = some (.cells #[.int .i64 dop, .int .u8 dwh, .slice A1 dl.length c1, .int .i64 dsg] TSD (0, 0)) := by rw [hY]; exact blk_new wr _
   have yb : Below wr.heap.size wr Y := by rw [hY]; exact below_alloc (Below.refl _ _) _
   have hT2 := HT.out.keep yb
   have HKB := Lib.hid (show (K3 P wr.heap.size ∨ (wr.heap.size ≤ wr.heap.size ∧ wr.heap.size < Y.heap.size)) ∧ wr.heap.size ≠ P.q ∧ wr.heap.size ≠ P.r ∧ wr.heap.size ≠ P.t from ⟨.inr ⟨Nat.le_refl _, blt y0⟩, by have := HT.out.lt _ HT.out.kq; omega, by have := HT.out.lt _ HT.out.kr; omega, by have := HT.out.lt _ HT.out.kt; omega⟩)
   have HY := Lib.hid hY
   have Y0 := Lib.hid y0
   have YB := Aside0.mk (HBB.out.trans (yb.mono HBB.out.size))
   have HT2 := Aside0.mk hT2
   have q0 : Y.cell? ⟨wr.heap.size, 0, none⟩ = some (.int .i64 dop) := bcell y0 0
   have q1 : Y.cell? ⟨wr.heap.size, 1, none⟩ = some (.int .u8 dwh) := bcell y0 1
   have q2 : Y.cell? ⟨wr.heap.size, 2, none⟩ = some (.slice A1 dl.length c1) := bcell y0 2
   have q3 : Y.cell? ⟨wr.heap.size, 3, none⟩ = some (.int .i64 dsg) := bcell y0 3
   clear hY y0 yb hT2
   by_cases o1 : dop = 1
   ·subst o1
    obtain ⟨⟨a1, a2⟩, er, D2, g2, ps2, hp⟩ := put_total HINV.out (show (1 : Int) ≤ 1 by decide) ps dwh dl
    have hkeep := hp.keep HINV.out HSIM.out (by have := HDL.out; omega) HDP.out.kd HDP.out.byt HNX.out
    have hap := fun (K : Nat → Prop) (X : World) (h : LT K w.heap.size P D.s D g ps (grOf D.s g) X) (hX : Below w.heap.size w X) => h.move hp HINV.out HSIM.out HLEN.out HNX.out HDP.out.kd HDP.out.byt (by have := HDL.out; omega) HCAP.out (fun Z hZ => ROWC.out Z (hX.trans hZ))
    have hpu := fun (K : Nat → Prop) (X : World) (h : LT K w.heap.size P D.s D2 g2 ps (grOf D.s g) X) (hX : Below w.heap.size w X) => h.rput hp HINV.out HLEN.out HNX.out HDP.out.kd HDP.out.byt (by have := HDL.out; omega) HCAP.out (fun Z hZ => ROWC.out Z (hX.trans hZ))
    unfold DrvPost putV at hap
    unfold DocPost putV at hpu
    have HAP := Lib.hid hap
    have HPU := Lib.hid hpu
    have HPP := Lib.hid hp
    clear hap hpu hp hkeep
    have en : (er != er) = false := by simp
    go_wp2_with (first
     | (rw [← HY.out])
     | (rw [← HW3.out])
     | (rw [← HW5.out])
     | (go_at_call 8; (with_reducible refine (HAP.out _ _ HT2.out YB.out).mono ?_); rintro e w2 ⟨rfl, ht, hb, hk⟩; have hx2 := (hk wr.heap.size ⟨HKB.out.1, HKB.out.2.1⟩).trans Y0.out; obtain ⟨W3, hW3⟩ : ∃ W3, W3 = w2.alloc (.cells #[.int .i64 a1, .int .i64 a2] TA) := ⟨_, rfl⟩; have b23 : Below w2.heap.size w2 W3 := (by rw [hW3]; exact below_alloc (Below.refl _ _) _); have t3 : W3.heap[w2.heap.size]? = some (.cells #[.int .i64 a1, .int .i64 a2] TA (0, 0)) := (by rw [hW3]; exact blk_new _ _); have hx3 := (b23.block _ (blt hx2)).trans hx2; have z1 : W3.cell? ⟨wr.heap.size, 1, none⟩ = some (.int .u8 dwh) := bcell hx3 1; have z2 : W3.cell? ⟨wr.heap.size, 2, none⟩ = some (.slice A1 dl.length c1) := bcell hx3 2; have HT3 := Aside0.mk (ht.keep b23); have HK3 := Lib.hid (show w2.heap.size ≠ P.r ∧ w2.heap.size ≠ P.t ∧ w2.heap.size < W3.heap.size from ⟨by have := ht.lt _ ht.kr; omega, by have := ht.lt _ ht.kt; omega, blt t3⟩); have T3 := Lib.hid t3; have HB3 := Aside0.mk ((YB.out.trans hb).trans (b23.mono (Nat.le_trans YB.out.size hb.size))); have HW3 := Lib.hid hW3; clear ht hb hk hx2 hx3 b23 t3 hW3)
     | (go_at_call 54; (with_reducible refine (HPU.out _ _ HT3.out HB3.out).mono ?_); rintro e w4 ⟨rfl, ht, hb, hk⟩; have x4 := (hk w2.heap.size ⟨.inr ⟨Nat.le_refl _, HK3.out.2.2⟩, HK3.out.1, HK3.out.2.1⟩).trans T3.out; obtain ⟨W5, hW5⟩ : ∃ W5, W5 = w4.alloc (.cells #[.int .i64 a1, .int .i64 a2] TA) := ⟨_, rfl⟩; have b45 : Below w4.heap.size w4 W5 := (by rw [hW5]; exact below_alloc (Below.refl _ _) _); have t5 : W5.heap[w4.heap.size]? = some (.cells #[.int .i64 a1, .int .i64 a2] TA (0, 0)) := (by rw [hW5]; exact blk_new _ _); have x5 := (b45.block _ (blt x4)).trans x4; have u0 : W5.cell? ⟨w2.heap.size, 0, none⟩ = some (.int .i64 a1) := bcell x5 0; have u1 : W5.cell? ⟨w2.heap.size, 1, none⟩ = some (.int .i64 a2) := bcell x5 1; have v0 : W5.cell? ⟨w4.heap.size, 0, none⟩ = some (.int .i64 a1) := bcell t5 0; have v1 : W5.cell? ⟨w4.heap.size, 1, none⟩ = some (.int .i64 a2) := bcell t5 1; have HT5 := Aside0.mk (ht.below b45).three; have HB5 := Aside0.mk ((HB3.out.trans hb).trans (b45.mono (Nat.le_trans HB3.out.size hb.size))); have HW5 := Lib.hid hW5; clear ht hb hk x4 x5 b45 t5 hW5)
     | fail)
    exact ⟨⟨k + 1, _, _, _, by omega, by go_num, ⟨HT5.out, HDS.out.put HSND.out HNDP.out HDP.out.kd HDP.out.byt HDL.out (.inl rfl) HPP.out, HB5.out⟩⟩, by simp [intOf]; omega⟩
   ·have e1 : (dop == 1) = false := by simpa using o1
    by_cases o2 : dop = 2
    ·subst o2
     have her := fun (K : Nat → Prop) (X : World) (h : LT K w.heap.size P D.s D g ps (grOf D.s g) X) => h.erase (by have := HSIM.out.dirtyLe; have := HLEN.out; omega) dsg
     have hre := fun (K : Nat → Prop) (X : World) (h : LT K w.heap.size P D.s (lEraseD D g dsg) (lEraseG D.s g dsg) ps (grOf D.s g) X) => h.rerase HINV.out (by have := HLEN.out; omega) dsg
     unfold DrvPost at her
     unfold DocPost at hre
     obtain ⟨er, her0⟩ : ∃ er, er = lEraseE D.s g dsg := ⟨_, rfl⟩
     rw [← her0] at her hre
     have HER := Lib.hid her
     have HRE := Lib.hid hre
     clear her hre her0
     have en : (er != er) = false := by simp
     have HTD := Aside0.mk HT2.out.drew
     go_wp2_with fail
     rw [← HY.out]
     go_wp2_with fail
     go_region_held3 (fun w' => w'.cell? ⟨wr.heap.size, 3, none⟩ = some (.int .i64 dsg)) (first | go_keep | exact z3 | exact z4)
      (first
       | (go_at_call 13; (with_reducible refine (HER.out _ _ HTD.out).mono ?_); rintro e w2 ⟨rfl, ht, hb, hk⟩; have hx2 := (hk wr.heap.size ⟨HKB.out.1, HKB.out.2.1⟩).trans Y0.out; have z3 : w2.cell? ⟨wr.heap.size, 3, none⟩ = some (.int .i64 dsg) := bcell hx2 3; have HT3 := Aside0.mk ht; have HX3 := Lib.hid hx2; have HB3 := Aside0.mk (YB.out.drew.trans hb); clear ht hb hk hx2)
       | (go_at_call 55; (with_reducible refine (HRE.out _ _ HT3.out).mono ?_); rintro e w4 ⟨rfl, ht, hb, hk⟩; have hx4 := (hk wr.heap.size ⟨HKB.out.1, HKB.out.2.2⟩).trans HX3.out; have z4 : w4.cell? ⟨wr.heap.size, 3, none⟩ = some (.int .i64 dsg) := bcell hx4 3; have HT5 := Aside0.mk ht.three; have HB5 := Aside0.mk (HB3.out.trans hb); clear ht hb hk hx4)
       | fail)
     go_wp2
     exact ⟨⟨k + 1, _, _, _, by omega, by go_num, ⟨HT5.out, HDS.out.erase HSND.out HNDP.out dsg, HB5.out⟩⟩, by simp [intOf]; omega⟩
    ·have e2 : (dop == 2) = false := by simpa using o2
     by_cases o3 : dop = 3
     ·subst o3
      have her := HT2.out.sealed HINV.out
      have hre := fun (K : Nat → Prop) (X : World) (h : LT K w.heap.size P D.s D (sealG g) ps (grOf D.s g) X) => h.rseal HINV.out
      unfold DrvPost at her
      unfold DocPost at hre
      have HER := Lib.hid her
      have HRE := Lib.hid hre
      clear her hre
      go_wp2_with (first
       | (rw [← HY.out])
       | (go_at_call 11; (with_reducible refine HER.out.mono ?_); rintro e w2 ⟨rfl, ht, hb, hk⟩; have HT3 := Aside0.mk ht; have HB3 := Aside0.mk (YB.out.trans hb); clear ht hb hk)
       | (go_at_call 56; (with_reducible refine (HRE.out _ _ HT3.out).mono ?_); rintro e w4 ⟨rfl, ht, hb, hk⟩; have HT5 := Aside0.mk ht.three; have HB5 := Aside0.mk (HB3.out.trans hb); clear ht hb hk)
       | fail)
      exact ⟨⟨k + 1, _, _, _, by omega, by go_num, ⟨HT5.out, HDS.out.sealed HSND.out HNDP.out, HB5.out⟩⟩, by simp [intOf]; omega⟩
     ·have e3 : (dop == 3) = false := by simpa using o3
      by_cases o4 : dop = 4
      ·subst o4
       have her := HT2.out.sync
       have hre := fun (K : Nat → Prop) (X : World) (h : LT K w.heap.size P D.s { D with dirty := [] } g ps (grOf D.s g) X) => h.rsync (by have := HLEN.out; omega)
       unfold DrvPost at her
       unfold DocPost at hre
       have HER := Lib.hid her
       have HRE := Lib.hid hre
       clear her hre
       go_wp2_with (first
        | (rw [← HY.out])
        | (go_at_call 12; (with_reducible refine HER.out.mono ?_); rintro e w2 ⟨rfl, ht, hb, hk⟩; have z0 := ht.rlog.c0; have HT3 := Aside0.mk ht; have HB3 := Aside0.mk (YB.out.trans hb); clear ht hb hk)
        | (go_at_call 57; (with_reducible refine (HRE.out _ _ HT3.out).mono ?_); rintro e w4 ⟨rfl, ht, hb, hk⟩; have HT5 := Aside0.mk ht.three; have HB5 := Aside0.mk (HB3.out.trans hb); clear ht hb hk)
        | fail)
       exact ⟨⟨k + 1, _, _, _, by omega, by go_num, ⟨HT5.out, HDS.out.sync HSND.out HNDP.out, HB5.out⟩⟩, by simp [intOf]; omega⟩
      ·have e4 : (dop == 4) = false := by simpa using o4
       obtain ⟨⟨a1, a2⟩, er, D2, g2, ps2, hp⟩ := put_total HINV.out (show (1 : Int) ≤ 2 by decide) ps dwh dl
       have hkeep := hp.keep HINV.out HSIM.out (by have := HDL.out; omega) HDP.out.kd HDP.out.byt HNX.out
       have hap := fun (K : Nat → Prop) (X : World) (h : LT K w.heap.size P D.s D g ps (grOf D.s g) X) (hX : Below w.heap.size w X) => h.append hp HINV.out HSIM.out HLEN.out HNX.out HDP.out.kd HDP.out.byt (by have := HDL.out; omega) HCAP.out (fun Z hZ => ROWC.out Z (hX.trans hZ))
       have hpu := fun (K : Nat → Prop) (X : World) (h : LT K w.heap.size P D.s D2 g2 ps (grOf D.s g) X) (hX : Below w.heap.size w X) => h.rput hp HINV.out HLEN.out HNX.out HDP.out.kd HDP.out.byt (by have := HDL.out; omega) HCAP.out (fun Z hZ => ROWC.out Z (hX.trans hZ))
       unfold DrvPost putV at hap
       unfold DocPost putV at hpu
       have HAP := Lib.hid hap
       have HPU := Lib.hid hpu
       have HPP := Lib.hid hp
       clear hap hpu hp hkeep
       have en : (er != er) = false := by simp
       go_wp2_with (first
        | (rw [← HY.out])
        | (rw [← HW3.out])
        | (rw [← HW5.out])
        | (go_at_call 7; (with_reducible refine (HAP.out _ _ HT2.out YB.out).mono ?_); rintro e w2 ⟨rfl, ht, hb, hk⟩; have hx2 := (hk wr.heap.size ⟨HKB.out.1, HKB.out.2.1⟩).trans Y0.out; obtain ⟨W3, hW3⟩ : ∃ W3, W3 = w2.alloc (.cells #[.int .i64 a1, .int .i64 a2] TA) := ⟨_, rfl⟩; have b23 : Below w2.heap.size w2 W3 := (by rw [hW3]; exact below_alloc (Below.refl _ _) _); have t3 : W3.heap[w2.heap.size]? = some (.cells #[.int .i64 a1, .int .i64 a2] TA (0, 0)) := (by rw [hW3]; exact blk_new _ _); have hx3 := (b23.block _ (blt hx2)).trans hx2; have z1 : W3.cell? ⟨wr.heap.size, 1, none⟩ = some (.int .u8 dwh) := bcell hx3 1; have z2 : W3.cell? ⟨wr.heap.size, 2, none⟩ = some (.slice A1 dl.length c1) := bcell hx3 2; have HT3 := Aside0.mk (ht.keep b23); have HK3 := Lib.hid (show w2.heap.size ≠ P.r ∧ w2.heap.size ≠ P.t ∧ w2.heap.size < W3.heap.size from ⟨by have := ht.lt _ ht.kr; omega, by have := ht.lt _ ht.kt; omega, blt t3⟩); have T3 := Lib.hid t3; have HB3 := Aside0.mk ((YB.out.trans hb).trans (b23.mono (Nat.le_trans YB.out.size hb.size))); have HW3 := Lib.hid hW3; clear ht hb hk hx2 hx3 b23 t3 hW3)
        | (go_at_call 54; (with_reducible refine (HPU.out _ _ HT3.out HB3.out).mono ?_); rintro e w4 ⟨rfl, ht, hb, hk⟩; have x4 := (hk w2.heap.size ⟨.inr ⟨Nat.le_refl _, HK3.out.2.2⟩, HK3.out.1, HK3.out.2.1⟩).trans T3.out; obtain ⟨W5, hW5⟩ : ∃ W5, W5 = w4.alloc (.cells #[.int .i64 a1, .int .i64 a2] TA) := ⟨_, rfl⟩; have b45 : Below w4.heap.size w4 W5 := (by rw [hW5]; exact below_alloc (Below.refl _ _) _); have t5 : W5.heap[w4.heap.size]? = some (.cells #[.int .i64 a1, .int .i64 a2] TA (0, 0)) := (by rw [hW5]; exact blk_new _ _); have x5 := (b45.block _ (blt x4)).trans x4; have u0 : W5.cell? ⟨w2.heap.size, 0, none⟩ = some (.int .i64 a1) := bcell x5 0; have u1 : W5.cell? ⟨w2.heap.size, 1, none⟩ = some (.int .i64 a2) := bcell x5 1; have v0 : W5.cell? ⟨w4.heap.size, 0, none⟩ = some (.int .i64 a1) := bcell t5 0; have v1 : W5.cell? ⟨w4.heap.size, 1, none⟩ = some (.int .i64 a2) := bcell t5 1; have HT5 := Aside0.mk (ht.below b45).three; have HB5 := Aside0.mk ((HB3.out.trans hb).trans (b45.mono (Nat.le_trans HB3.out.size hb.size))); have HW5 := Lib.hid hW5; clear ht hb hk x4 x5 b45 t5 hW5)
        | fail)
       exact ⟨⟨k + 1, _, _, _, by omega, by go_num, ⟨HT5.out, HDS.out.put HSND.out HNDP.out HDP.out.kd HDP.out.byt HDL.out (.inr rfl) HPP.out, HB5.out⟩⟩, by simp [intOf]; omega⟩
  ·obtain rfl : k = n := by omega
   go_wp2
   go_ret3
   exact ⟨P, D, g, ps, rfl, HT.out, HDS.out, HBB.out⟩
end Go.Proofs.YtmbiebdcnadhkaaGreat.Fl
namespace Go.Proofs.YtmbiebdcnadhkaaGreat.Fl
open Go.RowKit Go.Proofs.YtmbiebdcnadhkaaGreatW.PrintWords Go.Proofs.YtmbiebdcnadhkaaGreatW.PrintMore Go.Maps
def aS : Int × Int × Int := (4, 8, 16)
end Go.Proofs.YtmbiebdcnadhkaaGreat.Fl
namespace Go.Proofs.YtmbiebdcnadhkaaGreat.Fl
open Go.RowKit Go.Proofs.YtmbiebdcnadhkaaGreatW.PrintWords Go.Proofs.YtmbiebdcnadhkaaGreatW.PrintMore Go.Maps
section
variable {p N0 : Nat} {w : World} {D : PD} {ok : Nat → Prop}
end
end Go.Proofs.YtmbiebdcnadhkaaGreat.Fl
namespace Go.Proofs.YtmbiebdcnadhkaaGreat.Fl
open Go.RowKit Go.Proofs.YtmbiebdcnadhkaaGreatW.PrintWords Go.Proofs.YtmbiebdcnadhkaaGreatW.PrintMore Go.Maps
def IRow (w : World) (A : Option Addr) (l : List Int) : Prop := ∀ (i : Nat) (x : Int), l[i]? = some x → ∃ g, A = some ⟨g, 0, none⟩ ∧ w.cell? ⟨g, i, none⟩ = some (.int .i64 x)
theorem IRow.below {w w' : World} {A : Option Addr} {l : List Int} (h : IRow w A l) (hb : Below w.heap.size w w') : IRow w' A l := fun i x hi => by
 obtain ⟨g, h1, h2⟩ := h i x hi
 exact ⟨g, h1, (hb.cell (blt_of_cell h2)).trans h2⟩
theorem IRow.nil (w : World) (A : Option Addr) : IRow w A [] := fun i x hi => by simp at hi
theorem IRow.ofR {w : World} {base : Nat} {ok : Nat → Prop} {v : Value} {l : List Int} (h : kI.R TNi w base ok v l) : ∃ A c, v = .slice A l.length c ∧ IRow w A l := by
 by_cases h0 : 0 < l.length
 ·obtain ⟨g, cap, rest, hv, _, _, _, hb⟩ := row_blk h h0
  refine ⟨_, _, hv, fun i x hi => ⟨g, rfl, ?_⟩⟩
  have hl := (List.getElem?_eq_some_iff.1 hi).1
  rw [bcell hb]
  simp only [List.getElem?_toArray]
  rw [List.getElem?_append_left (by simpa using hl), List.getElem?_map, hi]
  rfl
 ·obtain rfl : l = [] := List.eq_nil_of_length_eq_zero (by omega)
  obtain ⟨A, c, hv⟩ := Kd.R_slice h
  exact ⟨A, c, hv, IRow.nil _ _⟩
set_option maxHeartbeats 1000000 in
set_option maxRecDepth 100000 in
theorem Index_any {w : World} {A : Option Addr} {c : Nat} {l : List Int} (h : IRow w A l) (hl : l.length ≤ 1000) (a : Int) : Calls Tryz.prog 99 #[.slice A l.length c, .int .i64 a] w (IndexPost l a w) := by
 obtain ⟨n, hn⟩ : ∃ n, n = l.length := ⟨_, rfl⟩
 have HC := Lib.hid h
 have HNN := Lib.hid hn
 rw [← hn] at hl
 rw [← hn]
 clear h hn
 go_enter Tryz.func99, Tryz.ntmps99
 go_wp2
 go_loopw [5, 8] (fun v5 v8 wr => ∃ k : Nat, k ≤ n ∧ v8 = .int .i64 (k : Int) ∧ (∀ i, i < k → l[i]? ≠ some a) ∧ w = wr) (fun _ v8 _ => n - (intOf v8).toNat)
 case atStart => exact ⟨0, Nat.zero_le _, rfl, fun i hi => by omega, rfl⟩
 case round =>
  obtain ⟨k, hk, rfl, hn, rfl⟩ := hrel
  have HN := Lib.hid hn
  clear hn
  by_cases hlt : k < n
  ·obtain ⟨x, hx⟩ : ∃ x, l[k]? = some x := ⟨_, List.getElem?_eq_getElem (by have := HNN.out; omega)⟩
   obtain ⟨g, hA, kc⟩ := HC.out k x hx
   subst hA
   have HX := Lib.hid hx
   have k0 : (0 : Int) ≤ (k : Int) := by omega
   have k1 : (k : Int) < (n : Int) := by omega
   clear hx
   by_cases hxa : a = x
   ·have e1 : (a == x) = true := by simpa using hxa
    have HXA := Lib.hid hxa
    clear hxa
    go_wp2
    go_ret
    exact ⟨_, rfl, .inr ⟨k, rfl, by have := HNN.out; omega, by rw [HX.out, HXA.out], HN.out⟩, rfl⟩
   ·have e1 : (a == x) = false := by simpa using hxa
    have HXA := Lib.hid hxa
    clear hxa
    go_wp2
    refine ⟨⟨k + 1, by omega, by go_num, ?_⟩, by simp [intOf]; omega⟩
    refine (show (∀ i, i < k + 1 → l[i]? ≠ some a) ∧ True from ⟨fun i hi => ?_, trivial⟩)
    by_cases hik : i = k
    ·rw [hik, HX.out]
     exact fun he => HXA.out (Option.some.inj he).symm
    ·exact HN.out i (by omega)
  ·obtain rfl : k = n := by omega
   go_wp2
   go_ret
   exact ⟨_, rfl, .inl ⟨rfl, fun i hi => HN.out i (by have := HNN.out; omega)⟩, rfl⟩
theorem firstAt_mem {l : List Int} {a r : Int} (h : FirstAt l a r) : decide (r ≥ 0) = decide (a ∈ l) := by
 rw [decide_eq_decide]
 rcases h with ⟨rfl, h⟩ | ⟨n, rfl, h1, h2, _⟩
 ·constructor
  ·intro h; omega
  ·intro hm
   obtain ⟨i, hi⟩ := List.mem_iff_getElem?.1 hm
   exact absurd hi (h i (List.getElem?_eq_some_iff.1 hi).1)
 ·exact ⟨fun _ => List.mem_of_getElem? h2, fun _ => by omega⟩
set_option maxHeartbeats 1000000 in
set_option maxRecDepth 100000 in
theorem Contains_any {w : World} {A : Option Addr} {c : Nat} {l : List Int} (h : IRow w A l) (hl : l.length ≤ 1000) (a : Int) : Calls Tryz.prog 66 #[.slice A l.length c, .int .i64 a] w fun e w' => e = .returned (.bool (decide (a ∈ l))) ∧ w = w' := by
 have hi := Index_any (c := c) h hl a
 have HI := Lib.hid hi
 clear hi h hl
 go_enter Tryz.func66, Tryz.ntmps66
 go_wp2_with (first
  | (go_at_call 99; (with_reducible refine HI.out.mono ?_); rintro e w1 ⟨r, rfl, hf, rfl⟩; have HF := Lib.hid hf; clear hf)
  | fail)
 go_ret
 exact ⟨by rw [← firstAt_mem HF.out]; rfl, rfl⟩
def loadSt (l : List Int) (k : Nat) : List Int := (List.range 16).map (fun i => if i < k ∧ (i : Int) ∈ l then 2 else 0)
def loadG (l : List Int) (k : Nat) (nx : Int) : LG := ⟨loadSt l k, -1, 0, nx⟩
theorem loadG_zero (l : List Int) (nx : Int) : loadG l 0 nx = newG nx := by
 unfold loadG loadSt newG
 simp [List.range, List.range.loop, List.replicate]
theorem loadSt_in {l : List Int} {k : Nat} (hk : k < 16) (h : (k : Int) ∈ l) : (loadSt l k).set k 2 = loadSt l (k + 1) := by
 apply List.ext_getElem?
 intro i
 unfold loadSt
 rw [List.getElem?_set]
 simp only [List.length_map, List.length_range, List.getElem?_map]
 by_cases hi : i < 16
 ·rw [List.getElem?_range hi]
  simp only [Option.map_some]
  by_cases e : k = i
  ·subst e
   rw [if_pos rfl, if_pos hi, if_pos ⟨by omega, h⟩]
  ·rw [if_neg e]
   congr 1
   by_cases h2 : i < k
   ·have : (i < k ∧ (i : Int) ∈ l) = (i < k + 1 ∧ (i : Int) ∈ l) := propext ⟨fun h => ⟨by omega, h.2⟩, fun h => ⟨h2, h.2⟩⟩
    simp only [this]
   ·rw [if_neg (fun h => h2 h.1), if_neg (fun h => by omega)]
 ·have : (List.range 16)[i]? = none := by rw [List.getElem?_eq_none_iff]; simp; omega
  rw [this]
  simp
  intro e
  omega
theorem loadSt_out {l : List Int} {k : Nat} (h : (k : Int) ∉ l) : loadSt l k = loadSt l (k + 1) := by
 unfold loadSt
 refine List.map_congr_left (fun i _ => ?_)
 by_cases e : i = k
 ·subst e
  rw [if_neg (fun hh => h hh.2), if_neg (fun hh => h hh.2)]
 ·have : (i < k ∧ (i : Int) ∈ l) = (i < k + 1 ∧ (i : Int) ∈ l) := propext ⟨fun h => ⟨by omega, h.2⟩, fun h => ⟨by omega, h.2⟩⟩
  simp only [this]
def loadOk (D : PD) (l : List Int) : Bool := (List.range D.s.1.toNat).all (fun i => decide ((i : Int) ∈ l) || cleanD D (i : Int))
def LoadPost (w : World) (D : PD) (p : Nat) (l : List Int) (nx : Int) (e : Ending) (w' : World) : Prop :=
 (loadOk D l = true ∧ ∃ q, e = .returned (.tuple #[.pointer (some ⟨q, 0, none⟩), .int .i64 0]) ∧ w.heap.size ≤ q ∧ LogIs q p (loadG l D.s.1.toNat nx) w' ∧ Below w.heap.size w w') ∨ (loadOk D l = false ∧ e = .returned (.tuple #[.pointer none, .int .i64 1]) ∧ Below w.heap.size w w')
section
variable {N0 p : Nat} {D : PD} {w : World} {ok : Nat → Prop}
set_option maxHeartbeats 4000000 in
set_option maxRecDepth 100000 in
theorem Load_any (hD : DevIs N0 p D ok w) (h4 : 4 ≤ D.s.1) {A : Option Addr} {c : Nat} {l : List Int} (hI : IRow w A l) (hl : l.length ≤ 1000) (nx : Int) :
  Calls Tryz.prog 24 #[.pointer (some ⟨p, 0, none⟩), .slice A l.length c, .int .u64 nx] w (LoadPost w D p l nx) := by
 have hs := hD.sound.sh
 obtain ⟨n, hn⟩ := Int.eq_ofNat_of_zero_le (show 0 ≤ D.s.1 by have := hs.a0; omega)
 have n2 : n ≤ 16 := by have := hs.a1; omega
 have hfr := fresh_any hD h4 nx
 have hsh := fun (X : World) (hX : Below w.heap.size w X) => Shape_any (hD.below hX)
 have hcl := fun (X : World) (hX : Below w.heap.size w X) (a : Int) => Clean_any (hD.below hX) a
 have hco := fun (X : World) (hX : Below w.heap.size w X) (a : Int) => Contains_any (c := c) (hI.below hX) hl a
 simp only [hn] at hsh
 have rs := fun (X : World) => run_shape1 X (n : Int) D.s.2.1 D.s.2.2
 obtain ⟨m, hm⟩ : ∃ m, m = l.length := ⟨_, rfl⟩
 rw [← hm] at hco ⊢
 have HFR := Lib.hid hfr
 have HSH := Lib.hid hsh
 have HCL := Lib.hid hcl
 have HCO := Lib.hid hco
 have HN := Lib.hid (show D.s.1.toNat = n by omega)
 clear hD hs hfr hsh hcl hco hn hI hl hm h4
 go_enter Tryz.func24, Tryz.ntmps24
 go_wp2_with (first
  | (go_at_call 65; (with_reducible refine HFR.out.mono ?_); rintro e w1 ⟨q, rfl, hq, hl, hb⟩; have HQ := Lib.hid hq; have HL1 := Aside0.mk hl; have HB1 := Aside0.mk hb; clear hq hl hb)
  | (go_at_call 58; (with_reducible refine (HSH.out _ HB1.out).mono ?_); rintro e w2 ⟨rfl, hb⟩; have HL2 := Aside0.mk (HL1.out.below hb); have HB2 := Aside0.mk (HB1.out.trans (hb.mono HB1.out.size)); clear hb)
  | fail)
 go_loopw [10, 23] (fun v10 v23 wr => ∃ (k : Nat), k ≤ n ∧ v23 = .int .i64 (k : Int) ∧ LogIs q p (loadG l k nx) wr ∧ (∀ i : Nat, i < k → (decide ((i : Int) ∈ l) || cleanD D (i : Int)) = true) ∧ Below w.heap.size w wr) (fun _ v23 _ => n - (intOf v23).toNat)
 case atStart => exact ⟨0, Nat.zero_le _, rfl, by rw [loadG_zero]; exact HL2.out, fun i hi => by omega, HB2.out⟩
 case round =>
  obtain ⟨k, hk, rfl, hl, ha, hb⟩ := hrel
  have HL := Aside0.mk hl
  have HA := Lib.hid ha
  have HB := Aside0.mk hb
  clear hl ha hb
  by_cases hlt : k < n
  ·have q1 : (k : Int) < (n : Int) := by omega
   have q0 : (0 : Int) ≤ (k : Int) := by omega
   have q16 : (k : Int) < 16 := by omega
   have hcw := HCO.out wr HB.out (k : Int)
   by_cases hin : (k : Int) ∈ l
   ·rw [decide_eq_true hin] at hcw
    have HCW := Lib.hid hcw
    have HIN := Lib.hid hin
    obtain ⟨x, hx⟩ : ∃ x, (loadG l k nx).st[k]? = some x := ⟨_, List.getElem?_eq_getElem (by rw [HL.out.len]; omega)⟩
    have c1 := HL.out.cst hx
    have f1 := HL.out.frozen (1 + k)
    clear hcw hin hx
    go_wp2_with (first
     | (go_at_call 66; (with_reducible refine HCW.out.mono ?_); rintro e w3 ⟨rfl, rfl⟩)
     | fail)
    have hl3 := HL.out.setSt (show k < 16 by omega) 2
    have e3 : ({ loadG l k nx with st := (loadG l k nx).st.set k 2 } : LG) = loadG l (k + 1) nx := by
     show (⟨(loadSt l k).set k 2, -1, 0, nx⟩ : LG) = _
     rw [loadSt_in (by omega) HIN.out]
     rfl
    rw [e3] at hl3
    refine ⟨⟨k + 1, by omega, by go_num, hl3, fun i hi => ?_, HB.out.setCell (p := ⟨q, 1 + k, none⟩) HQ.out _⟩, by simp [intOf]; omega⟩
    by_cases e : i = k
    ·rw [e, decide_eq_true HIN.out]; rfl
    ·exact HA.out i (by omega)
   ·rw [decide_eq_false hin] at hcw
    have HCW := Lib.hid hcw
    have HIN := Lib.hid hin
    have hcc := fun (X : World) (hX : Below w.heap.size w X) => HCL.out X hX (k : Int)
    cases hcl : cleanD D (k : Int) with
    | true =>
     rw [hcl] at hcc
     have HCC := Lib.hid hcc
     have HX := Lib.hid hcl
     clear hcw hin hcc hcl
     go_wp2_with (first
      | (go_at_call 66; (with_reducible refine HCW.out.mono ?_); rintro e w3 ⟨rfl, rfl⟩)
      | (go_at_call 67; (with_reducible refine (HCC.out _ HB.out).mono ?_); rintro e w4 ⟨rfl, hb⟩; have HL4 := Aside0.mk (HL.out.below hb); have HB4 := Aside0.mk (HB.out.trans (hb.mono HB.out.size)); clear hb)
      | fail)
     refine ⟨⟨k + 1, by omega, by go_num, ?_, fun i hi => ?_, HB4.out⟩, by simp [intOf]; omega⟩
     ·have e3 : loadG l (k + 1) nx = loadG l k nx := by
       unfold loadG
       rw [loadSt_out HIN.out]
      rw [e3]
      exact HL4.out
     ·by_cases e : i = k
      ·rw [e, HX.out, Bool.or_true]
      ·exact HA.out i (by omega)
    | false =>
     rw [hcl] at hcc
     have HCC := Lib.hid hcc
     have HX := Lib.hid hcl
     clear hcw hin hcc hcl
     go_wp2_with (first
      | (go_at_call 66; (with_reducible refine HCW.out.mono ?_); rintro e w3 ⟨rfl, rfl⟩)
      | (go_at_call 67; (with_reducible refine (HCC.out _ HB.out).mono ?_); rintro e w4 ⟨rfl, hb⟩; have HB4 := Aside0.mk (HB.out.trans (hb.mono HB.out.size)); clear hb)
      | fail)
     (try rw [Exit.noGoto_ret])
     go_ret2
     refine .inr ⟨?_, rfl, HB4.out⟩
     unfold loadOk
     rw [List.all_eq_false]
     exact ⟨k, by rw [List.mem_range, HN.out]; exact hlt, by rw [HX.out, decide_eq_false HIN.out]; decide⟩
  ·obtain rfl : k = n := by omega
   go_wp2
   go_ret2
   refine .inl ⟨?_, q, rfl, HQ.out, by rw [HN.out]; exact HL.out, HB.out⟩
   unfold loadOk
   rw [List.all_eq_true]
   exact fun i hi => HA.out i (by rw [List.mem_range, HN.out] at hi; exact hi)
end
end Go.Proofs.YtmbiebdcnadhkaaGreat.Fl
namespace Go.Proofs.YtmbiebdcnadhkaaGreat.Fl
open Go.RowKit Go.Proofs.YtmbiebdcnadhkaaGreatW.PrintWords Go.Proofs.YtmbiebdcnadhkaaGreatW.PrintMore Go.Maps
def LowA (B n : Nat) (A : Option Addr) : Prop := ∀ ad, A = some ad → 0 < n → B ≤ ad.block
def SameFrom (B : Nat) (w w' : World) : Prop := ∀ k, B ≤ k → k < w.heap.size → w'.heap[k]? = w.heap[k]?
theorem same_cell {B : Nat} {w w' : World} (h : SameFrom B w w') {a : Addr} (ha : B ≤ a.block) {v : Value} (hc : w.cell? a = some v) : w'.cell? a = some v := by
 have hb := h a.block ha (blt_of_cell hc)
 unfold World.cell? at hc ⊢
 rw [hb]
 exact hc
theorem FRow.same {B : Nat} {w w' : World} {A : Option Addr} {zs : List (FV En)} (h : FRow w A zs) (hA : LowA B zs.length A) (hs : SameFrom B w w') : FRow w' A zs := fun i x hi => by
 obtain ⟨g, rfl, hc⟩ := h i x hi
 have hg : B ≤ g := hA _ rfl (Nat.lt_of_le_of_lt (Nat.zero_le i) (List.getElem?_eq_some_iff.1 hi).1)
 exact ⟨g, rfl, same_cell hs hg hc.c0, same_cell hs hg hc.c1, same_cell hs hg hc.c2⟩
theorem IRow.same {B : Nat} {w w' : World} {A : Option Addr} {l : List Int} (h : IRow w A l) (hA : LowA B l.length A) (hs : SameFrom B w w') : IRow w' A l := fun i x hi => by
 obtain ⟨g, rfl, hc⟩ := h i x hi
 have hg : B ≤ g := hA _ rfl (Nat.lt_of_le_of_lt (Nat.zero_le i) (List.getElem?_eq_some_iff.1 hi).1)
 exact ⟨g, rfl, same_cell hs hg hc⟩
theorem FEnt.same {B : Nat} {w w' : World} {z : FV En} (h : FEnt B w z) (hs : SameFrom B w w') : FEnt B w' z := Kd.R_step h (fun k hk hlt => hs k hk hlt)
theorem row_low {w : World} {base : Nat} {ok : Nat → Prop} {A : Option Addr} {n c : Nat} {l : List Int} (h : kI.R TNi w base ok (.slice A n c) l) : LowA base l.length A := fun ad hA h0 => by
 obtain ⟨g, cap, rest, hv, hb, _⟩ := row_blk h h0
 injection hv with hv _ _
 rw [hA] at hv
 injection hv with hv
 rw [hv]
 exact hb
def recD (D : PD) (l : List Int) : Nat → PD
 | 0 => D
 | k + 1 => if (k : Int) ∈ l ∨ cleanD (recD D l k) (k : Int) = true then recD D l k else erasedD (recD D l k) (k : Int)
theorem erasedD_s (D : PD) (a : Int) : (erasedD D a).s = D.s := by
 unfold erasedD
 split <;> rfl
theorem erasedD_dirty (D : PD) (a : Int) : (erasedD D a).dirty.length ≤ D.dirty.length := by
 unfold erasedD eraseD keepF
 split
 ·exact List.length_filter_le _ _
 ·exact Nat.le_refl _
theorem recD_s (D : PD) (l : List Int) : ∀ k, (recD D l k).s = D.s
 | 0 => rfl
 | k + 1 => by
  unfold recD
  split
  ·exact recD_s D l k
  ·rw [erasedD_s]; exact recD_s D l k
theorem recD_dirty (D : PD) (l : List Int) : ∀ k, (recD D l k).dirty.length ≤ D.dirty.length
 | 0 => Nat.le_refl _
 | k + 1 => by
  unfold recD
  split
  ·exact recD_dirty D l k
  ·exact Nat.le_trans (erasedD_dirty _ _) (recD_dirty D l k)
theorem clean_erased {D : PD} (hnd : Nodup D.mp) {n : Int} (hh : hasB D.s n 0 = true) (a : Int) : cleanD (erasedD D n) a = if a = n then true else cleanD D a := by
 unfold cleanD
 rw [erasedD_s]
 by_cases e : a = n
 ·rw [if_pos e, e, hh, Bool.true_and, List.all_eq_true]
  intro i _
  rw [used_erased hnd hh]
  simp
 ·rw [if_neg e]
  congr 1
  refine List.all_congr rfl (fun i => ?_)
  rw [used_erased hnd hh]
  simp [e]
theorem scan_seq {D : PD} (hb : BytD D) (a : Int) : 0 ≤ (scanD D a).1 ∧ (scanD D a).1 ≤ 18446744073709551615 := by
 have hz : ∀ b, 0 ≤ (entD D a b).1.seq ∧ (entD D a b).1.seq ≤ 18446744073709551615 := fun b => by
  have hraw := hb.raw a b
  unfold entD entL
  split
  ·simp [zEn]
  ·split
   ·show 0 ≤ (parsed (rawD D a b)).2.1 ∧ (parsed (rawD D a b)).2.1 ≤ _
    unfold parsed Go.Proofs.YtmbiebdcnadhkaaGreat.FrameFacts.parsed
    split
    ·split
     ·have h1 := Go.Proofs.YtmbiebdcnadhkaaGreat.NumMath.be_lt (((rawD D a b).drop 4).take 8) (fun x hx => hraw x (List.mem_of_mem_drop (List.mem_of_mem_take hx)))
      have h2 : (((rawD D a b).drop 4).take 8).length ≤ 8 := by rw [List.length_take]; omega
      have h3 : 256 ^ (((rawD D a b).drop 4).take 8).length ≤ 256 ^ 8 := Nat.pow_le_pow_right (by omega) h2
      have h4 : 256 ^ 8 = 18446744073709551616 := by decide
      simp only
      omega
     ·simp
    ·simp
   ·simp [zEn]
 unfold scanD scanL
 split
 ·simp
 ·exact hz 0
def RecPost (N0 p : Nat) (F : (Nat → Prop) → PD → World → Prop) (K : Nat → Prop) (D : PD) (w : World) (e : Ending) (w' : World) : Prop :=
 ∃ q v zs, e = .returned (.tuple #[.pointer (some ⟨q, 0, none⟩), v, .int .i64 0]) ∧ FoundOf D zs ∧ F K (recD D (zs.map (·.seg)) D.s.1.toNat) w' ∧ LogIs q p (loadG (zs.map (·.seg)) D.s.1.toNat (nextV (zs.map (·.seq)))) w' ∧ kEnt.R TE w' 0 (fun _ => True) v (joinL zs) ∧ Below N0 w w' ∧ Kept K w w'
theorem recD_ok {D : PD} {l : List Int} (h : ∀ i : Nat, i < D.s.1.toNat → (i : Int) ∉ l → cleanD (recD D l D.s.1.toNat) (i : Int) = true) : loadOk (recD D l D.s.1.toNat) l = true := by
 unfold loadOk
 rw [recD_s, List.all_eq_true]
 intro i hi
 rw [List.mem_range] at hi
 by_cases hm : (i : Int) ∈ l
 ·rw [decide_eq_true hm]; rfl
 ·rw [h i hi hm, Bool.or_true]
end Go.Proofs.YtmbiebdcnadhkaaGreat.Fl
namespace Go.Proofs.YtmbiebdcnadhkaaGreat.Fl
open Go.RowKit Go.Proofs.YtmbiebdcnadhkaaGreatW.PrintWords Go.Proofs.YtmbiebdcnadhkaaGreatW.PrintMore Go.Maps
theorem LowA.mono {B B' n : Nat} {A : Option Addr} (h : LowA B n A) (hb : B' ≤ B) : LowA B' n A := fun ad hA h0 => Nat.le_trans hb (h ad hA h0)
theorem recD_in {D : PD} {l : List Int} {k : Nat} (h : (k : Int) ∈ l) : recD D l (k + 1) = recD D l k := by rw [recD, if_pos (.inl h)]
theorem recD_cl {D : PD} {l : List Int} {k : Nat} (h : cleanD (recD D l k) (k : Int) = true) : recD D l (k + 1) = recD D l k := by rw [recD, if_pos (.inr h)]
theorem recD_er {D : PD} {l : List Int} {k : Nat} (h : (k : Int) ∉ l) (h2 : cleanD (recD D l k) (k : Int) = false) : recD D l (k + 1) = erasedD (recD D l k) (k : Int) := by rw [recD, if_neg (fun hh => hh.elim h (fun e => by rw [h2] at e; cases e))]
def RecC (D : PD) (l : List Int) (k : Nat) : Prop := ∀ i : Nat, i < k → (i : Int) ∉ l → cleanD (recD D l k) (i : Int) = true
theorem RecC.same {D : PD} {l : List Int} {k : Nat} (h : RecC D l k) (e : recD D l (k + 1) = recD D l k) (hk : (k : Int) ∉ l → cleanD (recD D l k) (k : Int) = true) : RecC D l (k + 1) := fun i hi hn => by
 rw [e]
 by_cases hik : i = k
 ·rw [hik] at hn ⊢; exact hk hn
 ·exact h i (by omega) hn
theorem RecC.erased {D : PD} {l : List Int} {k : Nat} (h : RecC D l k) (e : recD D l (k + 1) = erasedD (recD D l k) (k : Int)) (hnd : Nodup (recD D l k).mp) (hh : hasB D.s (k : Int) 0 = true) : RecC D l (k + 1) := fun i hi hn => by
 rw [e, clean_erased hnd (by rw [recD_s]; exact hh)]
 by_cases hik : (i : Int) = (k : Int)
 ·rw [if_pos hik]
 ·rw [if_neg hik]; exact h i (by omega) hn
set_option maxHeartbeats 8000000 in
set_option maxRecDepth 100000 in
theorem Recover_F {N0 p : Nat} {F : (Nat → Prop) → PD → World → Prop} {K : Nat → Prop} {D : PD} {w : World} (hF : DevFrame N0 p F) (h : F K D w) (hby : BytD D) (h4 : 4 ≤ D.s.1) (hdl : D.dirty.length < 1000000) :
  Calls Tryz.prog 33 #[.pointer (some ⟨p, 0, none⟩)] w (RecPost N0 p F K D w) := by
 have hs := hF.shape h
 obtain ⟨n, hn⟩ := Int.eq_ofNat_of_zero_le (show 0 ≤ D.s.1 by omega)
 have n1 : 4 ≤ n := by omega
 have n2 : n ≤ 16 := by have := hs.a1; omega
 have hnn : D.s.1.toNat = n := by omega
 have hsh := fun (K' : Nat → Prop) (E : PD) (X : World) (hX : F K' E X) (hE : E.s = D.s) => (show Calls Tryz.prog 58 #[.pointer (some ⟨p, 0, none⟩)] X fun e w' => e = .returned (.agg #[.int .i64 (n : Int), .int .i64 D.s.2.1, .int .i64 D.s.2.2]) ∧ Below X.heap.size X w' from by
  obtain ⟨ok, hD⟩ := hF.dev hX
  have := Shape_any hD
  rw [hE, hn] at this
  exact this)
 have hsg := fun (K' : Nat → Prop) (X : World) (hX : F K' D X) => (show Calls Tryz.prog 36 #[.pointer (some ⟨p, 0, none⟩)] X (SegsPost X D) from by
  obtain ⟨ok, hD⟩ := hF.dev hX
  exact Segments_any hD hby)
 have hcl := fun (K' : Nat → Prop) (E : PD) (X : World) (hX : F K' E X) (a : Int) => (show Calls Tryz.prog 67 #[.pointer (some ⟨p, 0, none⟩), .int .i64 a] X fun e w' => e = .returned (.bool (cleanD E a)) ∧ Below X.heap.size X w' from by
  obtain ⟨ok, hD⟩ := hF.dev hX
  exact Clean_any hD a)
 have her := fun (K' : Nat → Prop) (E : PD) (X : World) (hX : F K' E X) (hE : E.dirty.length ≤ D.dirty.length) (a : Int) => hF.upd hX (fun ok hD => Erase_any hD a (show E.dirty.length < 1000000 by omega))
 have hld := fun (K' : Nat → Prop) (E : PD) (X : World) (hX : F K' E X) (hE : E.s = D.s) (A : Option Addr) (c : Nat) (l : List Int) (hI : IRow X A l) (hl : l.length ≤ 1000) (nx : Int) => (show Calls Tryz.prog 24 #[.pointer (some ⟨p, 0, none⟩), .slice A l.length c, .int .u64 nx] X (LoadPost X E p l nx) from by
  obtain ⟨ok, hD⟩ := hF.dev hX
  exact Load_any hD (by rw [hE]; exact h4) hI hl nx)
 have rs := fun (X : World) => run_shape1 X (n : Int) D.s.2.1 D.s.2.2
 have hlt := fun k hk => hF.lt h k hk
 have hsz := hF.size h
 have hhas : ∀ k : Nat, k < n → hasB D.s (k : Int) 0 = true := fun k hk => (hasB_iff _ _ _).2 ⟨by omega, by omega, Int.le_refl _, by have := hs.b0; omega⟩
 have HSH := Lib.hid hsh
 have HSG := Lib.hid hsg
 have HCL := Lib.hid hcl
 have HER := Lib.hid her
 have HLD := Lib.hid hld
 have HLT := Lib.hid hlt
 have HHAS := Lib.hid hhas
 have H0 := Aside0.mk h
 have HNN := Lib.hid hnn
 have HSOK := Lib.hid hs
 have HBY := Lib.hid hby
 have e_4 : decide ((n : Int) < 4) = false := decide_eq_false (by omega)
 clear hsh hsg hcl her hld hlt h hs hby h4 hdl hn hhas hnn
 go_enter Tryz.func33, Tryz.ntmps33
 go_wp2_with (first
  | (rw [← HW1.out])
  | (go_at_call 58; (with_reducible refine (HSH.out _ _ _ H0.out rfl).mono ?_); rintro e w1 ⟨rfl, hb⟩; obtain ⟨W1, hW1⟩ : ∃ W1, W1 = w1.alloc (.cells #[.int .i64 (n : Int), .int .i64 D.s.2.1, .int .i64 D.s.2.2] 23) := ⟨_, rfl⟩; have t1 : W1.heap[w1.heap.size]? = some (.cells #[.int .i64 (n : Int), .int .i64 D.s.2.1, .int .i64 D.s.2.2] 23 (0, 0)) := (by rw [hW1]; exact blk_new _ _); have c1 : W1.cell? ⟨w1.heap.size, 0, none⟩ = some (.int .i64 (n : Int)) := bcell t1 0; have HB1 := Aside0.mk (show Below w.heap.size w W1 from by rw [hW1]; exact below_alloc hb _); have HF1 := Aside0.mk (hF.below H0.out HB1.out); have HW1 := Lib.hid hW1; clear hb hW1 t1)
  | (go_at_call 36; (with_reducible refine (HSG.out _ _ HF1.out).mono ?_); rintro e w2 ⟨A, c, zs, rfl, hp, hs, hFR, hE, hb, hlo⟩; have HP := Lib.hid (show FoundOf D zs from ⟨hp, hs⟩); have HFR := Lib.hid hFR; have HE := Lib.hid hE; have HLO := Lib.hid (show LowA W1.heap.size zs.length A from hlo); have HB2 := Aside0.mk (HB1.out.trans (hb.mono HB1.out.size)); clear hp hs hFR hE hb hlo c1)
  | fail)
 have hzl := HP.out.len HSOK.out
 obtain ⟨m, hm⟩ : ∃ m, m = zs.length := ⟨_, rfl⟩
 obtain ⟨l, hl⟩ : ∃ l, l = zs.map (·.seg) := ⟨_, rfl⟩
 have hll : l.length = m := by rw [hl, hm, List.length_map]
 have HMZ := Lib.hid hm
 have HLZ := Lib.hid hl
 have HLL := Lib.hid hll
 rw [← hm] at hzl ⊢
 clear hm hl hll
 go_loopw [9, 30] (fun v9 v30 wr => ∃ (k : Nat), k ≤ m ∧ v30 = .int .i64 (k : Int) ∧ kI.R TNi wr w2.heap.size (fun j => w2.heap.size ≤ j) v9 (l.take k) ∧ Below w2.heap.size w2 wr) (fun _ v30 _ => m - (intOf v30).toNat)
 case atStart => exact ⟨0, Nat.zero_le _, rfl, Kd.R_nil _ _ _ _ _, Below.refl _ _⟩
 case round =>
  obtain ⟨k, hk, rfl, hR, hb⟩ := hrel
  have hlk : (l.take k).length = k := by rw [List.length_take, HLL.out]; omega
  obtain ⟨A9, c9, hv9⟩ := Kd.R_slice hR
  rw [hlk] at hv9
  subst hv9
  have HLK := Lib.hid hlk
  have HR := Aside0.mk hR
  have HB := Aside0.mk hb
  clear hR hb hlk
  by_cases hlt : k < m
  ·obtain ⟨z, hz⟩ : ∃ z, zs[k]? = some z := ⟨_, List.getElem?_eq_getElem (by have := HMZ.out; omega)⟩
   obtain ⟨g, hA, hc⟩ := HFR.out k z hz
   have hc := hc.below (Below.refl _ _)
   subst hA
   have d0 := (HB.out.cell (blt_of_cell hc.c0)).trans hc.c0
   have d1 := (HB.out.cell (blt_of_cell hc.c1)).trans hc.c1
   have d2 := (HB.out.cell (blt_of_cell hc.c2)).trans hc.c2
   have hnx : l.take (k + 1) = l.take k ++ [z.seg] := by rw [List.take_add_one, HLZ.out, List.getElem?_map, hz]; rfl
   obtain ⟨zseg, zseq, zA, zc, zl⟩ := z
   obtain ⟨zm, hzm⟩ : ∃ m, m = zl.length := ⟨_, rfl⟩
   simp only [← hzm] at d0 d1 d2 hnx
   obtain ⟨Y, hY⟩ : ∃ Y, Y = wr.alloc (.cells #[.int .i64 zseg, .int .u64 zseq, .slice zA zm zc] TFo) := ⟨_, rfl⟩
   have y0 : Y.heap[wr.heap.size]? = some (.cells #[.int .i64 zseg, .int .u64 zseq, .slice zA zm zc] TFo (0, 0)) := by rw [hY]; exact blk_new wr _
   have yb : Below wr.heap.size wr Y := by rw [hY]; exact below_alloc (Below.refl _ _) _
   have b0 : Y.cell? ⟨wr.heap.size, 0, none⟩ = some (.int .i64 zseg) := bcell y0 0
   have HNX := Lib.hid hnx
   have HY := Lib.hid hY
   have YB := Aside0.mk (HB.out.trans (yb.mono HB.out.size))
   have HRY := Aside0.mk (Kd.R_below HR.out yb)
   have k0 : (0 : Int) ≤ (k : Int) := by omega
   have k2 : (k : Int) < (m : Int) := by omega
   clear hz hc hY y0 yb hzm hnx
   go_wp2_with (first
    | (rw [← HY.out])
    | (at_builtin; refine Kd.R_append kI (w0 := w2) w2.heap.size rfl (.tmp 34) (.tmp 37) 55 TNi (.int .i64 0) 8 rfl Tryz.underlying55 info_int rfl (by decide) (by decide) (.slice A9 k c9) (l.take k) zseg [.int .i64 zseg] (fun j => w2.heap.size ≤ j) (fun _ => False) rfl rfl (kI_mk _ _ _ _) (fun _ h => h.elim) (fun j hj => Nat.le_trans YB.out.size hj) HRY.out YB.out YB.out.size (by have := HLK.out; omega) ?_; intro v1 w5 hr1 hb5 hg hat; have HR5 := Aside0.mk hr1; have HB5 := Aside0.mk hb5; clear hr1 hb5 hg hat)
    | fail)
   exact ⟨⟨k + 1, by omega, by go_num, by rw [HNX.out]; exact HR5.out, HB5.out⟩, by simp [intOf]; omega⟩
  ·obtain rfl : k = m := by omega
   have htl : l.take k = l := List.take_of_length_le (by have := HLL.out; omega)
   have hRf := HR.out
   rw [htl] at hRf
   have hlow := row_low hRf
   obtain ⟨A8, c8, hv8, hI⟩ := IRow.ofR hRf
   injection hv8 with e1 e2 e3
   subst e1 e3
   have HI := Lib.hid hI
   have HLW := Lib.hid hlow
   have HB3 := Aside0.mk (HB2.out.trans (HB.out.mono HB2.out.size))
   have hF3 := hF.below H0.out HB3.out
   have HF3 := Aside0.mk hF3
   clear hRf hlow htl e2 hI hF3
   go_wp2_with (first
    | (go_at_call 58; (with_reducible refine (HSH.out _ _ _ HF3.out rfl).mono ?_); rintro e w4 ⟨rfl, hb⟩; have HB4 := Aside0.mk (HB3.out.trans (hb.mono HB3.out.size)); have HI4 := Lib.hid (HI.out.below hb); have HFR4 := Lib.hid ((HFR.out.below (below_self HB.out (Nat.le_refl _))).below hb); have HE4 := Lib.hid (fun z hz => ((HE.out z hz).below (below_self HB.out (Nat.le_refl _))).below hb); clear hb)
    | fail)
   have HK4 := Aside0.mk (hF.keep H0.out HB4.out)
   have hw1 : w.heap.size ≤ W1.heap.size := HB1.out.size
   have hw2 : w.heap.size ≤ w2.heap.size := HB2.out.size
   go_loopw [12, 43] (fun v12 v43 wr => ∃ (j : Nat), j ≤ n ∧ v43 = .int .i64 (j : Int) ∧ F (fun i => K i ∨ (w.heap.size ≤ i ∧ i < w4.heap.size)) (recD D l j) wr ∧ Kept (fun i => K i ∨ (w.heap.size ≤ i ∧ i < w4.heap.size)) w4 wr ∧ Below N0 w4 wr ∧ RecC D l j) (fun _ v43 _ => n - (intOf v43).toNat)
   case atStart => exact ⟨0, Nat.zero_le _, rfl, HK4.out, fun _ _ => rfl, Below.refl _ _, fun i hi => by omega⟩
   case round =>
    obtain ⟨j, hj, rfl, hf, hkp, hb, hrc⟩ := hrel
    have hsm : SameFrom w.heap.size w4 wr := fun i h1 h2 => hkp i (.inr ⟨h1, h2⟩)
    have HFX := Aside0.mk hf
    have HKX := Lib.hid hkp
    have HBX := Aside0.mk hb
    have HRC := Lib.hid hrc
    have HSM := Lib.hid hsm
    have HIX := Lib.hid (HI4.out.same (HLW.out.mono hw2) hsm)
    clear hf hkp hb hrc hsm
    by_cases hltj : j < n
    ·have q1 : (j : Int) < (n : Int) := by omega
     have hcw := Contains_any (c := c9) HIX.out (by have := HLL.out; omega) (j : Int)
     rw [HLL.out] at hcw
     by_cases hin : (j : Int) ∈ l
     ·rw [decide_eq_true hin] at hcw
      have HCW := Lib.hid hcw
      have HIN := Lib.hid hin
      clear hcw hin
      go_wp2_with (first
       | (go_at_call 66; (with_reducible refine HCW.out.mono ?_); rintro e w5 ⟨rfl, rfl⟩)
       | fail)
      exact ⟨⟨j + 1, by omega, by go_num, by rw [recD_in HIN.out]; exact HFX.out, HKX.out, HBX.out, HRC.out.same (recD_in HIN.out) (fun h => absurd HIN.out h)⟩, by simp [intOf]; omega⟩
     ·rw [decide_eq_false hin] at hcw
      have HCW := Lib.hid hcw
      have HIN := Lib.hid hin
      have hcc := HCL.out _ _ _ HFX.out (j : Int)
      cases hclv : cleanD (recD D l j) (j : Int) with
      | true =>
       rw [hclv] at hcc
       have HCC := Lib.hid hcc
       have HX := Lib.hid hclv
       clear hcw hin hcc hclv
       go_wp2_with (first
        | (go_at_call 66; (with_reducible refine HCW.out.mono ?_); rintro e w5 ⟨rfl, rfl⟩)
        | (go_at_call 67; (with_reducible refine HCC.out.mono ?_); rintro e w6 ⟨rfl, hb⟩; have hst := hF.still HFX.out hb; have HF6 := Aside0.mk hst.1; have HB6 := Aside0.mk (HBX.out.trans hst.2.1); have HK6 := Lib.hid (show Kept (fun i => K i ∨ (w.heap.size ≤ i ∧ i < w4.heap.size)) w4 w6 from fun i hi => (hst.2.2 i hi).trans (HKX.out i hi)); clear hb hst)
        | fail)
       exact ⟨⟨j + 1, by omega, by go_num, by rw [recD_cl HX.out]; exact HF6.out, HK6.out, HB6.out, HRC.out.same (recD_cl HX.out) (fun _ => HX.out)⟩, by simp [intOf]; omega⟩
      | false =>
       rw [hclv] at hcc
       have HCC := Lib.hid hcc
       have HX := Lib.hid hclv
       clear hcw hin hcc hclv
       go_wp2_with (first
        | (go_at_call 66; (with_reducible refine HCW.out.mono ?_); rintro e w5 ⟨rfl, rfl⟩)
        | (go_at_call 67; (with_reducible refine HCC.out.mono ?_); rintro e w6 ⟨rfl, hb⟩; have hst := hF.still HFX.out hb; have HF6 := Aside0.mk hst.1; have HB6 := Aside0.mk (HBX.out.trans hst.2.1); have HK6 := Lib.hid (show Kept (fun i => K i ∨ (w.heap.size ≤ i ∧ i < w4.heap.size)) w4 w6 from fun i hi => (hst.2.2 i hi).trans (HKX.out i hi)); clear hb hst)
        | (go_at_call 50; (with_reducible refine (HER.out _ _ _ HF6.out (recD_dirty _ _ _) _).mono ?_); rintro e w7 ⟨rfl, hf, hb, hk⟩; have HF7 := Aside0.mk hf; have HB7 := Aside0.mk (HB6.out.trans hb); have HK7 := Lib.hid (show Kept (fun i => K i ∨ (w.heap.size ≤ i ∧ i < w4.heap.size)) w4 w7 from fun i hi => (hk i hi).trans (HK6.out i hi)); clear hf hb hk)
        | fail)
       refine ⟨⟨j + 1, by omega, by go_num, by rw [recD_er HIN.out HX.out]; exact HF7.out, HK7.out, HB7.out, HRC.out.erased (recD_er HIN.out HX.out) ?_ (HHAS.out j hltj)⟩, by simp [intOf]; omega⟩
       obtain ⟨ok, hD⟩ := hF.dev HFX.out
       exact hD.nodup
    ·obtain rfl : j = n := by omega
     have hfr6 := HFR4.out.same (HLO.out.mono hw1) HSM.out
     have he6 := fun z hz => (HE4.out z hz).same (fun i h1 h2 => HSM.out i (Nat.le_trans hw1 h1) h2)
     have hnx := Next_any (c := c) hfr6 (by have := HMZ.out; omega) (fun z hz => by
      obtain ⟨i, _, _, _, e, _⟩ := HP.out.mem hz
      rw [e]
      exact scan_seq HBY.out _)
     rw [← HMZ.out] at hnx
     have HNXT := Lib.hid hnx
     have HFR6 := Lib.hid hfr6
     have HE6 := Lib.hid he6
     have hok : loadOk (recD D l j) l = true := by
      have := recD_ok (D := D) (l := l) (fun i hi hn => by rw [HNN.out] at hi ⊢; exact HRC.out i hi hn)
      rw [HNN.out] at this
      exact this
     have HOKL := Lib.hid hok
     have hfew := HP.out.small
     have HFEW := Lib.hid hfew
     clear hfr6 he6 hnx hok hfew
     go_wp2_with (first
      | (go_at_call 42; (with_reducible refine HNXT.out.mono ?_); rintro e w8 ⟨rfl, hb⟩; have hld8 := HLD.out _ _ _ (hF.below HFX.out hb) (recD_s _ _ _) A9 c9 l (HIX.out.below hb) (by have := HLL.out; omega) (nextV (zs.map (·.seq))); (rw [HLL.out] at hld8); have HLD8 := Lib.hid hld8; have HB8 := Aside0.mk hb; clear hb hld8)
      | (go_at_call 24; (with_reducible refine HLD8.out.mono ?_); rintro e w9 hpost; obtain ⟨-, q, rfl, hq, hl9, hb9⟩ : loadOk (recD D l j) l = true ∧ ∃ q, e = .returned (.tuple #[.pointer (some ⟨q, 0, none⟩), .int .i64 0]) ∧ w8.heap.size ≤ q ∧ LogIs q p (loadG l (recD D l j).s.1.toNat (nextV (zs.map (·.seq)))) w9 ∧ Below w8.heap.size w8 w9 := (hpost.resolve_right (fun hh => by rw [HOKL.out] at hh; exact absurd hh.1 (by decide))); have HL9 := Aside0.mk hl9; have HB9 := Aside0.mk (HB8.out.trans (hb9.mono HB8.out.size)); have HJ := Lib.hid (Joined_any (c := c) (HFR6.out.below HB9.out) (fun z hz => (HE6.out z hz).below HB9.out) (by have := HMZ.out; omega) HFEW.out); clear hpost hq hl9 hb9)
      | (go_at_call 68; (have hjj := HJ.out); (rw [← HMZ.out] at hjj); (with_reducible refine hjj.mono ?_); clear hjj; rintro e w10 ⟨v, rfl, hr, hb⟩; obtain ⟨A10, c10, hv10⟩ := Kd.R_slice hr; subst hv10; have HR10 := Aside0.mk hr; have HL10 := Aside0.mk (HL9.out.below hb); have HB10 := Aside0.mk (HB9.out.trans (hb.mono HB9.out.size)); clear hr hb)
      | fail)
     go_ret3
     have hst := hF.still HFX.out HB10.out
     refine ⟨q, _, zs, rfl, HP.out, ?_, ?_, HR10.out, (HB4.out.mono hsz).trans (HBX.out.trans hst.2.1), fun i hi => (hst.2.2 i (.inl hi)).trans ((HKX.out i (.inl hi)).trans (HB4.out.block i (HLT.out i hi)))⟩
     ·rw [← HLZ.out, HNN.out]
      exact hF.less hst.1 (fun i hi => .inl hi)
     ·have hl10 := HL10.out
      rw [recD_s] at hl10
      rw [← HLZ.out]
      exact hl10
end Go.Proofs.YtmbiebdcnadhkaaGreat.Fl
namespace Go.Proofs.YtmbiebdcnadhkaaGreat.Fl
structure LaidS (D : PD) (a sq : Int) (rs : List (Int × List Int)) (e : Int) : Prop where
 head : Holds D a 0 1 sq []
 chain : Chain D a sq 1 rs e
 free : ∀ d, e ≤ d → usedB D a d = false
theorem LaidS.end_bad {D : PD} (hs : Sound D) {a sq : Int} {rs : List (Int × List Int)} {e : Int} (h : LaidS D a sq rs e) : (entD D a e).2 ≠ 0 := by
 cases hh : hasB D.s a e with
 | false => rw [no_ent hh]; decide
 | true => rw [unused_ent hs (h.free e (Int.le_refl _)) hh]; decide
theorem LaidS.scan {D : PD} (hs : Sound D) (hb : BytD D) {a sq : Int} {rs : List (Int × List Int)} {e : Int} (h : LaidS D a sq rs e) : scanD D a = (sq, entsL D.s a sq 1 rs, true) := by
 have hen := h.head.ent hs hb
 have hk : (kpg D.s ([] : List Int).length : Int) = 1 := by rw [List.length_nil, kpg_zero hs.sh]; rfl
 rw [hk] at hen
 have hb1 := hs.sh.b1
 unfold scanD scanL
 rw [hen, if_neg (by simp)]
 simp only
 rw [Chain.scan hs hb (h.end_bad hs) h.chain (by omega)]
theorem LaidS.move {D E : PD} (hs : E.s = D.s) {a sq : Int} {rs : List (Int × List Int)} {e : Int} (h : LaidS D a sq rs e) (hg : ∀ d, gotD E a d = gotD D a d) (hu : ∀ d, usedB E a d = usedB D a d) : LaidS E a sq rs e :=
 ⟨h.head.move hs (fun d _ _ => hg d), h.chain.move hs (fun d _ _ => hg d), fun d hd => by rw [hu]; exact h.free d hd⟩
theorem LaidS.keep {D : PD} (hs : ShapeOk D.s) {a sq : Int} {rs : List (Int × List Int)} {e : Int} (h : LaidS D a sq rs e) {c b kd sq2 : Int} {l : List Int} (h0 : (appE D c b l.length).2 = 0) (hne : a ≠ c) : LaidS (appD D c b l.length (Fl.rec kd sq2 l)) a sq rs e :=
 h.move (appD_s _ _ _ _ _) (fun d => app_got hs h0 (fun hh => hne hh.1)) (fun d => by rw [app_used hs h0, decide_eq_false (fun hh => hne hh.1), Bool.false_or])
theorem LaidS.app {D : PD} (hs : ShapeOk D.s) {a sq : Int} {rs : List (Int × List Int)} {e kd : Int} {l : List Int} (h : LaidS D a sq rs e) (hr : RecOk kd sq l) (hk : kd ≠ 1) (h0 : (appE D a e l.length).2 = 0) : LaidS (appD D a e l.length (Fl.rec kd sq l)) a sq (rs ++ [(kd, l)]) (e + (kpg D.s l.length : Int)) := by
 have hle := h.chain.le
 refine ⟨h.head.keep hs h0 (.inr (by rw [List.length_nil, kpg_zero hs]; omega)), ?_, fun d hd => ?_⟩
 ·have h1 := Chain.keep (kd := kd) (sq := sq) hs h0 h.chain (.inr (Int.le_refl _))
  have h2 := Chain.snoc (r := (kd, l)) h1 (app_holds hs hr h0) hk
  rw [appD_s] at h2
  exact h2
 ·rw [app_used hs h0, h.free d (by omega), Bool.or_false]
  exact decide_eq_false (fun hh => by omega)
theorem LaidS.start {D : PD} (hs : ShapeOk D.s) {a sq : Int} (hq : SeqOk sq) (h0 : (appE D a 0 0).2 = 0) (hu : ∀ d, usedB D a d = false) : LaidS (appD D a 0 0 (Fl.rec 1 sq [])) a sq [] 1 := by
 have h1 : (appE D a 0 ([] : List Int).length).2 = 0 := h0
 refine ⟨app_holds (l := []) hs ⟨⟨by decide, by decide⟩, hq, Byt.nil, by simp⟩ h1, rfl, fun d hd => ?_⟩
 have h2 := app_used (kd := 1) (sq := sq) (l := []) hs h1 a d
 rw [List.length_nil, kpg_zero hs] at h2
 rw [h2, hu, Bool.or_false]
 exact decide_eq_false (fun hh => by omega)
theorem got_erased {D : PD} (hnd : Nodup D.mp) {n : Int} (hh : hasB D.s n 0 = true) {a : Int} (ha : a ≠ n) (d : Int) : gotD (erasedD D n) a d = gotD D a d := by
 have hl : look (a, d) (delTo n D.s.2.1.toNat D.mp) = look (a, d) D.mp := by
  rw [look_delTo _ _ _ hnd, if_neg (fun h => ha h.1)]
 unfold erasedD
 rw [if_pos hh]
 unfold gotD readD numB eraseD
 simp only
 rw [hl]
structure LLay (D : PD) (g : LG) (sq : Int → Int) (rs : Int → List (Int × List Int)) (e : Int → Int) : Prop where
 laid : ∀ i : Nat, (i : Int) < D.s.1 → g.st[i]? ≠ some 0 → LaidS D (i : Int) (sq (i : Int)) (rs (i : Int)) (e (i : Int)) ∧ 1 ≤ sq (i : Int) ∧ sq (i : Int) < g.nx
 ne : ∀ i j : Nat, (i : Int) < D.s.1 → (j : Int) < D.s.1 → i ≠ j → g.st[i]? ≠ some 0 → g.st[j]? ≠ some 0 → sq (i : Int) ≠ sq (j : Int)
 opn : 0 ≤ g.op → e g.op = g.pg ∧ sq g.op = g.nx - 1
def upd {α : Type} (f : Int → α) (m : Int) (x : α) (i : Int) : α := if i = m then x else f i
theorem upd_same {α : Type} (f : Int → α) (m : Int) (x : α) : upd f m x m = x := if_pos rfl
theorem upd_ne {α : Type} (f : Int → α) {m i : Int} (x : α) (h : i ≠ m) : upd f m x i = f i := if_neg h
section
variable {D : PD} {g : LG} {sq : Int → Int} {rs : Int → List (Int × List Int)} {e : Int → Int}
theorem LLay.new {s : Int × Int × Int} (hs : ShapeOk s) (sq : Int → Int) (rs : Int → List (Int × List Int)) (e : Int → Int) : LLay ⟨s, [], []⟩ (newG 1) sq rs e := by
 have h0 : ∀ i : Nat, (i : Int) < s.1 → (newG 1).st[i]? = some 0 := fun i hi => by
  have := hs.a1
  show (List.replicate 16 (0 : Int))[i]? = some 0
  rw [List.getElem?_replicate, if_pos (by omega)]
 refine ⟨fun i hi hn => absurd (h0 i hi) hn, fun i j hi _ _ hn => absurd (h0 i hi) hn, fun ho => ?_⟩
 exfalso
 revert ho
 show 0 ≤ (-1 : Int) → False
 omega
theorem LLay.sync (h : LLay D g sq rs e) : LLay { D with dirty := [] } g sq rs e :=
 ⟨fun i hi hn => ⟨(h.laid i hi hn).1.move (D := D) (E := { D with dirty := [] }) rfl (fun _ => rfl) (fun _ => rfl), (h.laid i hi hn).2⟩, h.ne, h.opn⟩
theorem LLay.sealed (h : LLay D g sq rs e) (hi : LInv D g) : LLay D (sealG g) sq rs e := by
 have hb : ∀ i : Nat, (sealG g).st[i]? ≠ some 0 → g.st[i]? ≠ some 0 := fun i hn h0 => hn (hi.get_seal h0)
 refine ⟨fun i h1 hn => by rw [sealG_nx]; exact h.laid i h1 (hb i hn), fun i j h1 h2 h3 h4 h5 => h.ne i j h1 h2 h3 (hb i h4) (hb j h5), fun ho => ?_⟩
 exfalso
 revert ho
 unfold sealG
 split
 ·omega
 ·show 0 ≤ (-1 : Int) → False
  omega
theorem LLay.erase (h : LLay D g sq rs e) (hi : LInv D g) (hnd : Nodup D.mp) (a : Int) : LLay (lEraseD D g a) (lEraseG D.s g a) sq rs e := by
 unfold lEraseD lEraseG
 split
 ·rename_i he
  have hh := erase_zero he hi.sh
  have hx := (hasB_iff _ _ _).1 hh
  have hs : (erasedD D a).s = D.s := by unfold erasedD; split <;> rfl
  have hb : ∀ i : Nat, (i : Int) < D.s.1 → (g.st.set a.toNat 0)[i]? ≠ some 0 → g.st[i]? ≠ some 0 ∧ (i : Int) ≠ a := fun i h1 hn => by
   rw [List.getElem?_set] at hn
   have := hi.len
   have := hi.sh.a1
   by_cases e : a.toNat = i
   ·rw [if_pos e, if_pos (by omega)] at hn
    exact absurd rfl hn
   ·rw [if_neg e] at hn
    exact ⟨hn, by omega⟩
  refine ⟨fun i h1 hn => ?_, fun i j h1 h2 h3 h4 h5 => ?_, h.opn⟩
  ·rw [hs] at h1
   obtain ⟨h4, h5⟩ := hb i h1 hn
   obtain ⟨h6, h7⟩ := h.laid i h1 h4
   exact ⟨h6.move hs (fun d => got_erased hnd hh h5 d) (fun d => by rw [used_erased hnd hh]; simp [h5]), h7⟩
  ·rw [hs] at h1 h2
   exact h.ne i j h1 h2 h3 (hb i h1 h4).1 (hb j h2 h5).1
 ·exact h
theorem LLay.app (h : LLay D g sq rs e) (hi : LInv D g) {l : List Int} {kind : Int} (ho : 0 ≤ g.op) (hn : l.length ≤ 4096) (hf : fitsS D.s g.pg l.length = true) (hk : KindOk kind) (hk1 : kind ≠ 1) (hb : Byt l) (hnx : g.nx < 900000) :
  LLay (appD D g.op g.pg l.length (Fl.rec kind (g.nx - 1) l)) { g with pg := g.pg + (kpg D.s l.length : Int) } sq (upd rs g.op (rs g.op ++ [(kind, l)])) (upd e g.op (g.pg + (kpg D.s l.length : Int))) := by
 obtain ⟨h1, h2⟩ := hi.fit ho hn hf
 obtain ⟨o1, o2⟩ := h.opn ho
 have h0 : (appE D g.op g.pg l.length).2 = 0 := by rw [h1]
 have hn1 := hi.nx
 refine ⟨fun i hi1 hst => ?_, fun i j a b c d e => h.ne i j (by rw [appD_s] at a; exact a) (by rw [appD_s] at b; exact b) c d e, fun _ => ⟨upd_same _ _ _, o2⟩⟩
 rw [appD_s] at hi1
 obtain ⟨h3, h4⟩ := h.laid i hi1 hst
 refine ⟨?_, h4⟩
 by_cases he : (i : Int) = g.op
 ·rw [he] at h3 h4 ⊢
  rw [upd_same, upd_same]
  rw [o1, o2] at h3
  rw [o2]
  exact h3.app hi.sh ⟨hk, ⟨by omega, by omega⟩, hb, hn⟩ hk1 h0
 ·rw [upd_ne _ _ he, upd_ne _ _ he]
  exact h3.keep hi.sh h0 he
theorem LLay.turn (h : LLay D g sq rs e) (hi : LInv D g) {l : List Int} {kind : Int} {m : Nat} (h4 : (m : Int) < D.s.1) (h5 : g.st[m]? = some 0) (h6 : (sealG g).st[m]? = some 0) (hn : l.length ≤ 4096) (h1 : fitsS D.s 1 l.length = true) (hk : KindOk kind) (hk1 : kind ≠ 1) (hb : Byt l) (hnx : g.nx < 900000) :
  LLay (appD (headD D g m) (m : Int) 1 l.length (Fl.rec kind g.nx l)) { st := (sealG g).st.set m 1, op := (m : Int), pg := 1 + (kpg D.s l.length : Int), nx := g.nx + 1 } (upd sq (m : Int) g.nx) (upd rs (m : Int) [(kind, l)]) (upd e (m : Int) (1 + (kpg D.s l.length : Int))) := by
 obtain ⟨h9, h10⟩ := hi.turn_fit (l := l) h4 h6 hn h1
 have hst := hi.start h4 h6
 have hs1 : (headD D g m).s = D.s := headD_s D g m
 have h0a : (appE D (m : Int) 0 0).2 = 0 := by rw [hst]
 have h0b : (appE (headD D g m) (m : Int) 1 l.length).2 = 0 := by rw [h10]
 have hn1 := hi.nx
 have hsq : SeqOk g.nx := ⟨by omega, by omega⟩
 have hb2 : ∀ i : Nat, i ≠ m → ((sealG g).st.set m 1)[i]? ≠ some 0 → g.st[i]? ≠ some 0 := fun i him hn2 h02 => by
  rw [List.getElem?_set, if_neg (fun e => him e.symm)] at hn2
  exact hn2 (hi.get_seal h02)
 refine ⟨fun i hi1 hst2 => ?_, fun i j a b c d e => ?_, fun _ => ⟨upd_same _ _ _, ?_⟩⟩
 ·rw [appD_s, hs1] at hi1
  by_cases him : i = m
  ·subst him
   rw [upd_same, upd_same, upd_same]
   have h11 := LaidS.start hi.sh hsq h0a (fun d => hi.free i h4 h5 d)
   have h12 := h11.app (D := headD D g i) (by rw [hs1]; exact hi.sh) (kd := kind) (l := l) ⟨hk, hsq, hb, hn⟩ hk1 h0b
   rw [hs1] at h12
   exact ⟨h12, by omega, by show g.nx < g.nx + 1; omega⟩
  ·have hii : (i : Int) ≠ (m : Int) := by omega
   rw [upd_ne _ _ hii, upd_ne _ _ hii, upd_ne _ _ hii]
   obtain ⟨h13, h14⟩ := h.laid i hi1 (hb2 i him hst2)
   have h15 := h13.keep (kd := 1) (sq2 := g.nx) (l := []) hi.sh h0a hii
   have h16 := h15.keep (D := headD D g m) (kd := kind) (sq2 := g.nx) (by rw [hs1]; exact hi.sh) h0b hii
   exact ⟨h16, h14.1, by show _ < g.nx + 1; omega⟩
 ·rw [appD_s, hs1] at a b
  by_cases h1m : i = m
  ·have hjm : j ≠ m := fun e => c (by rw [h1m, e])
   have hjj : (j : Int) ≠ (m : Int) := by omega
   rw [h1m, upd_same, upd_ne _ _ hjj]
   have := (h.laid j b (hb2 j hjm e)).2.2
   omega
  ·have hii : (i : Int) ≠ (m : Int) := by omega
   rw [upd_ne _ _ hii]
   by_cases h2m : j = m
   ·rw [h2m, upd_same]
    have := (h.laid i a (hb2 i h1m d)).2.2
    omega
   ·have hjj : (j : Int) ≠ (m : Int) := by omega
    rw [upd_ne _ _ hjj]
    exact h.ne i j a b c (hb2 i h1m d) (hb2 j h2m e)
 ·show upd sq (m : Int) g.nx (m : Int) = g.nx + 1 - 1
  rw [upd_same]
  omega
theorem LLay.scan (h : LLay D g sq rs e) (hs : Sound D) (hb : BytD D) {i : Nat} (h1 : (i : Int) < D.s.1) (hst : g.st[i]? ≠ some 0) : scanD D (i : Int) = (sq (i : Int), entsL D.s (i : Int) (sq (i : Int)) 1 (rs (i : Int)), true) := (h.laid i h1 hst).1.scan hs hb
theorem free_scan (hi : LInv D g) (hs : Sound D) {i : Nat} (h1 : (i : Int) < D.s.1) (hst : g.st[i]? = some 0) : scanD D (i : Int) = (0, [], false) := by
 have h2 : hasB D.s (i : Int) 0 = true := (hasB_iff _ _ _).2 ⟨by omega, h1, Int.le_refl _, by have := hs.sh.b0; omega⟩
 have h3 := unused_ent hs (hi.free i h1 hst 0) h2
 unfold scanD scanL
 rw [if_pos (.inl (by rw [h3]; decide))]
end
theorem PutStep.lay {D : PD} {g : LG} {ps : List Pg} {kind need er : Int} {l : List Int} {at_ : Adr} {D2 : PD} {g2 : LG} {ps2 : List Pg} (hp : PutStep D g ps kind l need at_ er D2 g2 ps2) (hi : LInv D g) (hm : l.length ≤ 4096) (hkk : KindOk kind) (hBl : Byt l) (hn1 : g.nx < 900000) (h : ∃ sq rs e, LLay D g sq rs e) : ∃ sq rs e, LLay D2 g2 sq rs e := by
 obtain ⟨sq, rs, e, h⟩ := h
 cases hp with
 | head hk => exact ⟨sq, rs, e, h⟩
 | big hk h1 => exact ⟨sq, rs, e, h⟩
 | full hk h1 h2 h3 => exact ⟨sq, rs, e, h⟩
 | app hk h1 h2 h3 => exact ⟨_, _, _, h.app hi h2 hm h3 hkk hk hBl hn1⟩
 | turn m hk h1 h2 h3 h4 h5 h6 h7 h8 => exact ⟨_, _, _, h.turn hi h4 h5 h6 hm h1 hkk hk hBl hn1⟩
theorem Deeds.lay {s : Int × Int × Int} (hs : ShapeOk s) {k : Nat} {D : PD} {g : LG} {ps : List Pg} (h : Deeds s k D g ps) (hk : k ≤ 1000) : ∃ sq rs e, LLay D g sq rs e := by
 induction h with
 | new => exact ⟨fun _ => 0, fun _ => [], fun _ => 0, LLay.new hs _ _ _⟩
 | @put k D g ps kind l need at_ er D2 g2 ps2 h _ hd hkk hb hl hn hp ih =>
  have hd := h.keep hs (by omega)
  exact hp.lay hd.inv (by omega) hkk hb (by have := hd.nx; omega) (ih (by omega))
 | @erase k D g ps h _ hd a ih =>
  have hdd := h.keep hs (by omega)
  obtain ⟨sq, rs, e, h1⟩ := ih (by omega)
  exact ⟨sq, rs, e, h1.erase hdd.inv hd a⟩
 | @sealed k D g ps h _ _ ih =>
  have hdd := h.keep hs (by omega)
  obtain ⟨sq, rs, e, h1⟩ := ih (by omega)
  exact ⟨sq, rs, e, h1.sealed hdd.inv⟩
 | @sync k D g ps h _ _ ih =>
  obtain ⟨sq, rs, e, h1⟩ := ih (by omega)
  exact ⟨sq, rs, e, h1.sync⟩
end Go.Proofs.YtmbiebdcnadhkaaGreat.Fl
namespace Go.Proofs.YtmbiebdcnadhkaaGreat.Fl
open Go.RowKit Go.Proofs.YtmbiebdcnadhkaaGreatW.PrintWords Go.Proofs.YtmbiebdcnadhkaaGreatW.PrintMore Go.Maps
def bS : Int × Int × Int := (4, 4, 32)
def bD0 : PD := ⟨bS, [], []⟩
def bD2 : PD := appD (headD bD0 (newG 1) 0) 0 1 ([7] : List Int).length (Fl.rec 2 1 [7])
def bG2 : LG := { st := (sealG (newG 1)).st.set 0 1, op := 0, pg := 1 + (kpg bS ([7] : List Int).length : Int), nx := 1 + 1 }
theorem b_sh : ShapeOk bS := ⟨by decide, by decide, by decide, by decide, by decide, by decide⟩
theorem b_inv : LInv bD0 (newG 1) := LInv.new b_sh
theorem b_byt : Byt [7] := fun x hx => by simp at hx; omega
theorem b_s : bD2.s = bS := (appD_s _ _ _ _ _).trans (headD_s _ _ _)
theorem b_step : PutStep bD0 (newG 1) [] 2 [7] 2 (((0 : Nat) : Int), 1) 0 bD2 bG2 (appP bD0.s (headP bD0.s [] (newG 1) 0) ((0 : Nat) : Int) 1 ([7] : List Int).length (Fl.rec 2 (newG 1).nx [7])) :=
 .turn 0 (by decide) (by decide) (.inl (by decide)) (by decide) (by decide) (by decide) (by decide) (fun i hi => absurd hi (by omega)) (firstAt_is (by decide) (fun i hi => absurd hi (by omega)))
theorem b_keep : PutKeep bD0 (newG 1) [] bD2 bG2 (appP bD0.s (headP bD0.s [] (newG 1) 0) ((0 : Nat) : Int) 1 ([7] : List Int).length (Fl.rec 2 (newG 1).nx [7])) :=
 b_step.keep b_inv (Sim.new bS) (by decide) ⟨by decide, by decide⟩ b_byt (by decide)
theorem b_bytD : BytD bD2 := by
 have h1 : BytD (headD bD0 (newG 1) 0) := BytD.app b_sh (BytD.new _) _ _ _ (rec_byt ⟨by decide, by decide⟩ Byt.nil)
 exact BytD.app (by rw [headD_s]; exact b_sh) h1 _ _ _ (rec_byt ⟨by decide, by decide⟩ b_byt)
theorem b_dirty : (appD bD0 ((0 : Nat) : Int) 0 0 (Fl.rec 1 (newG 1).nx [])).dirty.length < 900000 := by
 have e1 := ((Sim.new bS).app ((0 : Nat) : Int) 0 0 (Fl.rec 1 (newG 1).nx [])).dirtyLe
 have e2 := appP_len b_sh [] ((0 : Nat) : Int) 0 0 (bs := Fl.rec 1 (newG 1).nx []) (by rw [rec_len]; rfl)
 rw [List.length_nil] at e2
 exact Nat.lt_of_le_of_lt (Nat.le_trans e1 e2) (by decide)
def bE : En := ⟨0, 1, 1, 1, 2, [7]⟩
theorem b_scan (hs : Sound bD2) : segsL bD2 bD2.s.1.toNat = [(0, 1, [bE])] := by
 have hl := (LLay.new b_sh (fun _ => 0) (fun _ => []) (fun _ => 0)).turn b_inv (l := [7]) (kind := 2) (m := 0) (by decide) (by decide) (by decide) (by decide) (by decide) ⟨by decide, by decide⟩ (by decide) b_byt (by decide)
 have hl : LLay bD2 bG2 (upd (fun _ => 0) 0 1) (upd (fun _ => []) 0 [(2, [7])]) (upd (fun _ => 0) 0 (1 + (kpg bS ([7] : List Int).length : Int))) := hl
 have h0 : scanD bD2 ((0 : Nat) : Int) = (1, [bE], true) := by
  have := hl.scan hs b_bytD (i := 0) (by rw [b_s]; decide) (by decide)
  rw [this, b_s]
  rfl
 have hf : ∀ i : Nat, (i : Int) < bS.1 → bG2.st[i]? = some 0 → scanD bD2 (i : Int) = (0, [], false) := fun i h1 h2 => free_scan b_keep.inv hs (by rw [b_s]; exact h1) h2
 have h1 := hf 1 (by decide) (by decide)
 have h2 := hf 2 (by decide) (by decide)
 have h3 := hf 3 (by decide) (by decide)
 have hr : List.range bD2.s.1.toNat = [0, 1, 2, 3] := by rw [b_s]; decide
 unfold segsL
 rw [hr]
 simp only [List.filterMap_cons, List.filterMap_nil]
 unfold segF
 rw [h0, h1, h2, h3]
 simp
theorem b_found {zs : List (FV En)} (hs : Sound bD2) (h : FoundOf bD2 zs) : joinL zs = [bE] := by
 have h1 := h.1
 rw [b_scan hs] at h1
 have h2 := List.perm_singleton.1 h1
 rcases zs with _ | ⟨z, _ | ⟨y, r⟩⟩
 ·simp at h2
 ·rw [List.map_cons, List.map_nil] at h2
  injection h2 with h3 _
  have h4 : z.l = [bE] := congrArg (fun t => t.2.2) h3
  unfold joinL
  simp [h4]
 ·simp at h2
set_option maxHeartbeats 4000000 in
set_option maxRecDepth 100000 in
theorem Awake16_any (w : World) : Calls Tryz.prog 26 #[] w fun e w' => e = .returned (.bool true) ∧ Below w.heap.size w w' := by
 have hnew : Calls Tryz.prog 43 #[.agg #[.int .i64 4, .int .i64 4, .int .i64 32]] w fun e w' => ∃ p, e = .returned (.tuple #[.pointer (some ⟨p, 0, none⟩), .int .i64 0]) ∧ DevIs w.heap.size p bD0 (fun k => w.heap.size ≤ k) w' ∧ Below w.heap.size w w' := New_ok bS rfl w w.heap.size (Nat.le_refl _)
 have hlog : ∀ (p : Nat) (W : World), Solo w.heap.size p (fun _ => False) bD0 W → Calls Tryz.prog 44 #[.pointer (some ⟨p, 0, none⟩)] W fun e w' => ∃ q, e = .returned (.tuple #[.pointer (some ⟨q, 0, none⟩), .int .i64 0]) ∧ Solo w.heap.size p (fun k => False ∨ k = q) bD0 w' ∧ LogIs q p (newG 1) w' ∧ Below w.heap.size W w' ∧ Kept (fun _ => False) W w' ∧ W.heap.size ≤ q := fun p W h => LNew_any h b_sh (by decide)
 have hap : ∀ (p q g : Nat) (W : World) (K : Nat → Prop), Solo w.heap.size p K bD0 W → LogIs q p (newG 1) W → K q → w.heap.size ≤ q → K g → g ≠ q → W.cell? ⟨g, 0, none⟩ = some (.int .u8 7) → Calls Tryz.prog 7 #[.pointer (some ⟨q, 0, none⟩), .int .u8 2, .slice (some ⟨g, 0, none⟩) 1 1] W fun e w' => e = .returned (.tuple #[.agg #[.int .i64 0, .int .i64 1], .int .i64 0]) ∧ Solo w.heap.size p K bD2 w' ∧ Below w.heap.size W w' := fun p q g W K h hl hq hN hg hgq hc => by
  refine (LAppend_F (at_ := (((0 : Nat) : Int), 1)) (er := 0) (D2 := bD2) (g2 := bG2) (solo_frame _ _) (fun D => solo_stays _ _ D) h hl hq (fun K2 X hK hX hlX hb => ?_)).mono fun e w' ⟨h1, h2, h3, h4, h5⟩ => ⟨h1, h2, h4⟩
  have hrow : ∀ Y, Below w.heap.size X Y → Kept (fun k => K2 k ∧ k ≠ q) X Y → kB.C Y (some ⟨g, 0, none⟩) ([7] : List Int).length [7] := fun Y hY hkY => by
   refine C_one7 ?_
   have hlt := (solo_frame _ _).lt h g hg
   have e1 : Y.heap[g]? = W.heap[g]? := (hkY g ⟨hK g hg, hgq⟩).trans (hb.block g hlt)
   unfold World.cell? at hc ⊢
   rw [e1]
   exact hc
  exact LPut_turn0 (k := kpg bS 1) (m := 0) (solo_frame _ _) (fun D => solo_stays _ _ D) hX hlX (hK q hq) hN (hrow X (Below.refl _ _) (fun _ _ => rfl)) (Nat.le_refl _) (by decide) (by decide) (by decide) (by decide) ⟨by decide, by decide⟩ b_byt hrow (by decide) b_dirty (by decide) ⟨by decide, by decide⟩ (by decide) (by decide) (by decide) (firstAt_is (by decide) (fun i hi => absurd hi (by omega))) (by decide) (b_inv.turn_fit (l := [7]) (m := 0) (by decide) (by decide) (by decide) (by decide)).2 (by decide)
 have hall : ∀ (p : Nat) (W : World) (K : Nat → Prop), Solo w.heap.size p K bD2 W → Calls Tryz.prog 28 #[.pointer (some ⟨p, 0, none⟩)] W fun e w' => ∃ ad c, e = .returned (.slice (some ad) 1 c) ∧ w'.cell? ⟨ad.block, ad.off + 4, none⟩ = some (.int .u8 2) ∧ Below W.heap.size W w' := fun p W K h => by
  obtain ⟨ok, hD⟩ := (solo_frame _ _).dev h
  have hs := hD.sound
  refine (All_any hD b_bytD).mono fun e w' ⟨v, zs, e1, hf, hR, hb⟩ => ?_
  rw [b_found hs hf] at hR
  obtain ⟨A, c, rfl, _, hC⟩ := Kd.R_reads hR
  obtain ⟨ad, rfl, hc⟩ := hC.2.2 (by simp)
  obtain ⟨cs, _, ⟨A1, c1, rfl, _, _⟩, hcell⟩ := hc 0 _ rfl
  refine ⟨ad, c, e1, ?_, hb⟩
  have := hcell 4 (.int .u8 2) rfl
  simpa [Addr.add] using this
 have HNEW := Lib.hid hnew
 have HLOG := Lib.hid hlog
 have HAP := Lib.hid hap
 have HALL := Lib.hid hall
 clear hnew hlog hap hall
 go_enter Tryz.func26, Tryz.ntmps26
 go_wp2_with (first
  | (rw [← HW3.out])
  | (rw [← HW5.out])
  | (go_at_call 43; (with_reducible refine HNEW.out.mono ?_); rintro e w1 ⟨p, rfl, hd, hb⟩; have HD1 := Aside0.mk (Solo.new (Nat.le_refl _) hd hb); have HB1 := Aside0.mk hb; clear hd hb)
  | (go_at_call 44; (with_reducible refine (HLOG.out _ _ HD1.out).mono ?_); rintro e w2 ⟨q, rfl, hS, hl, hb, hk, hq⟩; obtain ⟨W3, hW3⟩ : ∃ W3, W3 = w2.alloc (.cells #[.int .u8 7] TB) := ⟨_, rfl⟩; have b23 : Below w2.heap.size w2 W3 := (by rw [hW3]; exact below_alloc (Below.refl _ _) _); have t3 : W3.heap[w2.heap.size]? = some (.cells #[.int .u8 7] TB (0, 0)) := (by rw [hW3]; exact blk_new _ _); have HT3 := Lib.hid (bcell t3 0); have HK3 := Lib.hid (show w2.heap.size < W3.heap.size ∧ w2.heap.size ≠ q from ⟨blt t3, by have := blt hl.blk; omega⟩); have HS3 := Aside0.mk ((solo_frame _ _).keep hS b23); have HL3 := Aside0.mk (hl.below b23); have HQ3 := Lib.hid (Nat.le_trans HB1.out.size hq); have HB3 := Aside0.mk ((HB1.out.trans hb).trans (b23.mono (Nat.le_trans HB1.out.size hb.size))); have HW3 := Lib.hid hW3; clear hS hl hb hk hq b23 t3 hW3)
  | (go_at_call 7; (have hap3 := HAP.out _ _ w2.heap.size _ _ HS3.out HL3.out (.inl (.inr rfl)) HQ3.out (.inr ⟨Nat.le_refl _, HK3.out.1⟩) HK3.out.2 HT3.out); (with_reducible refine hap3.mono ?_); clear hap3; rintro e w4 ⟨rfl, hS, hb⟩; obtain ⟨W5, hW5⟩ : ∃ W5, W5 = w4.alloc (.cells #[.int .i64 0, .int .i64 1] TA) := ⟨_, rfl⟩; have b45 : Below w4.heap.size w4 W5 := (by rw [hW5]; exact below_alloc (Below.refl _ _) _); have HS5 := Aside0.mk ((solo_frame _ _).below hS b45); have HB5 := Aside0.mk ((HB3.out.trans hb).trans (b45.mono (Nat.le_trans HB3.out.size hb.size))); have HW5 := Lib.hid hW5; clear hS hb b45 hW5)
  | (go_at_call 28; (with_reducible refine (HALL.out _ _ _ HS5.out).mono ?_); rintro e w6 ⟨ad, c, rfl, hcl, hb⟩; have HB6 := Aside0.mk (HB5.out.trans (hb.mono HB5.out.size)); clear hb)
  | fail)
 go_ret
 exact ⟨rfl, HB6.out⟩
end Go.Proofs.YtmbiebdcnadhkaaGreat.Fl
namespace Go.Proofs.YtmbiebdcnadhkaaGreat.Fl
open Go.RowKit Go.Proofs.YtmbiebdcnadhkaaGreatW.PrintWords Go.Proofs.YtmbiebdcnadhkaaGreatW.PrintMore Go.Maps
def headB (D : PD) (i : Nat) : Bool := (scanD D (i : Int)).2.2
theorem segsL_is (D : PD) (n : Nat) : (segsL D n).map (·.1) = ((List.range n).filter (headB D)).map (fun i : Nat => (i : Int)) := by
 unfold segsL
 induction List.range n with
 | nil => rfl
 | cons i l ih =>
  rw [List.filterMap_cons, List.filter_cons]
  unfold segF headB at *
  by_cases h : (scanD D (i : Int)).2.2 = true
  ·rw [if_pos h, if_pos h, List.map_cons, List.map_cons]
   simp only
   rw [ih]
  ·rw [if_neg h, if_neg h]
   exact ih
theorem segsL_cnt (D : PD) (n : Nat) : (segsL D n).length = ((List.range n).filter (headB D)).length := by
 have := congrArg List.length (segsL_is D n)
 simpa using this
theorem FoundOf.num {D : PD} {zs : List (FV En)} (h : FoundOf D zs) : zs.length = ((List.range D.s.1.toNat).filter (headB D)).length := by
 rw [← segsL_cnt]
 have := h.1.length_eq
 simpa using this
theorem FoundOf.segs {D : PD} {zs : List (FV En)} (h : FoundOf D zs) (i : Nat) : (i : Int) ∈ zs.map (·.seg) ↔ i < D.s.1.toNat ∧ headB D i = true := by
 have h1 : (zs.map toT).map (·.1) = zs.map (·.seg) := by rw [List.map_map]; rfl
 have h2 := h.1.map (·.1)
 rw [h1, segsL_is] at h2
 rw [h2.mem_iff, List.mem_map]
 constructor
 ·rintro ⟨j, hj, e⟩
  have : j = i := by omega
  rw [this] at hj
  simpa using hj
 ·intro hh
  exact ⟨i, by simpa using hh, rfl⟩
theorem filter_both {α : Type} (q : α → Bool) (l : List α) : (l.filter q).length + (l.filter (fun x => !q x)).length = l.length := by
 induction l with
 | nil => rfl
 | cons x l ih =>
  rw [List.filter_cons, List.filter_cons]
  cases q x <;> simp <;> omega
theorem loadSt_take {l : List Int} {n : Nat} (hn : n ≤ 16) : (loadSt l n).take n = (List.range n).map (fun i : Nat => if (i : Int) ∈ l then 2 else 0) := by
 unfold loadSt
 rw [← List.map_take, List.take_range, Nat.min_eq_left hn]
 refine List.map_congr_left (fun i hi => ?_)
 have : i < n := by simpa using hi
 have e : (i < n ∧ (i : Int) ∈ l) = ((i : Int) ∈ l) := propext ⟨fun h => h.2, fun h => ⟨this, h⟩⟩
 simp only [e]
theorem FoundOf.counts {D : PD} {zs : List (FV En)} (h : FoundOf D zs) (hs : ShapeOk D.s) (nx : Int) :
  cnt 2 ((loadG (zs.map (·.seg)) D.s.1.toNat nx).st.take D.s.1.toNat) = zs.length ∧ (cnt 0 ((loadG (zs.map (·.seg)) D.s.1.toNat nx).st.take D.s.1.toNat) : Int) = D.s.1 - zs.length ∧ cnt 1 ((loadG (zs.map (·.seg)) D.s.1.toNat nx).st.take D.s.1.toNat) = 0 := by
 have ha0 := hs.a0
 have ha1 := hs.a1
 have hst : (loadG (zs.map (·.seg)) D.s.1.toNat nx).st.take D.s.1.toNat = (List.range D.s.1.toNat).map (fun i : Nat => if headB D i = true then (2 : Int) else 0) := by
  show (loadSt _ _).take _ = _
  rw [loadSt_take (by omega)]
  refine List.map_congr_left (fun i hi => ?_)
  have hi : i < D.s.1.toNat := by simpa using hi
  have e : ((i : Int) ∈ zs.map (·.seg)) = (headB D i = true) := propext ⟨fun hh => ((h.segs i).1 hh).2, fun hh => (h.segs i).2 ⟨hi, hh⟩⟩
  simp only [e]
 have hf : ∀ (a : Int) (q : Nat → Bool), (∀ i, ((if headB D i = true then (2 : Int) else 0) == a) = q i) → cnt a ((List.range D.s.1.toNat).map (fun i : Nat => if headB D i = true then (2 : Int) else 0)) = ((List.range D.s.1.toNat).filter q).length := fun a q hq => by
  unfold cnt
  rw [List.filter_map, List.length_map]
  congr 1
  refine List.filter_congr (fun i _ => ?_)
  exact hq i
 have h2 := hf 2 (headB D) (fun i => by cases headB D i <;> decide)
 have h0 := hf 0 (fun i => !headB D i) (fun i => by cases headB D i <;> decide)
 have h1 := hf 1 (fun _ => false) (fun i => by cases headB D i <;> decide)
 have hb := filter_both (headB D) (List.range D.s.1.toNat)
 rw [List.length_range] at hb
 rw [hst, h2, h0, h1, h.num]
 refine ⟨rfl, by omega, by simp⟩
section
variable {p N0 : Nat} {w : World} {D : PD} {ok : Nat → Prop}
end
end Go.Proofs.YtmbiebdcnadhkaaGreat.Fl
namespace Go.Proofs.YtmbiebdcnadhkaaGreat.Fl
theorem bestF_spec {sc : Sc3} {last : Int} (h1 : ∀ i, (sc i).2.2 = true → 1 ≤ (sc i).1) : ∀ k,
  ((bestF sc last k).1 = 0 ∧ (∀ i, i < k → (sc i).2.2 = true → (sc i).1 ≤ last)) ∨
  (∃ i, i < k ∧ (sc i).2.2 = true ∧ last < (sc i).1 ∧ bestF sc last k = ((sc i).1, (sc i).2.1) ∧ ∀ j, j < k → (sc j).2.2 = true → last < (sc j).1 → (sc i).1 ≤ (sc j).1)
 | 0 => .inl ⟨rfl, fun i hi => by omega⟩
 | k + 1 => by
  have ih := bestF_spec h1 (last := last) k
  unfold bestF
  by_cases hc : (sc k).2.2 = true ∧ last < (sc k).1 ∧ ((bestF sc last k).1 = 0 ∨ (sc k).1 < (bestF sc last k).1)
  ·rw [if_pos hc]
   refine .inr ⟨k, by omega, hc.1, hc.2.1, rfl, fun j hj hj2 hj3 => ?_⟩
   by_cases hjk : j = k
   ·rw [hjk]; exact Int.le_refl _
   ·rcases ih with ⟨h2, h3⟩ | ⟨i, h2, h3, h4, h5, h6⟩
    ·have := h3 j (by omega) hj2; omega
    ·have h7 := h6 j (by omega) hj2 hj3
     have h8 := h1 i h3
     rw [h5] at hc
     simp only at hc
     omega
  ·rw [if_neg hc]
   rcases ih with ⟨h2, h3⟩ | ⟨i, h2, h3, h4, h5, h6⟩
   ·refine .inl ⟨h2, fun i hi hi2 => ?_⟩
    by_cases hik : i = k
    ·subst hik
     apply Decidable.byContradiction
     intro hh
     exact hc ⟨hi2, by omega, .inl h2⟩
    ·exact h3 i (by omega) hi2
   ·refine .inr ⟨i, by omega, h3, h4, h5, fun j hj hj2 hj3 => ?_⟩
    by_cases hjk : j = k
    ·subst hjk
     apply Decidable.byContradiction
     intro hh
     refine hc ⟨hj2, hj3, .inr ?_⟩
     rw [h5]
     show (sc j).1 < (sc i).1
     omega
    ·exact h6 j (by omega) hj2 hj3
def DistS (D : PD) : Prop := (∀ i : Nat, i < D.s.1.toNat → headB D i = true → 1 ≤ (scanD D (i : Int)).1) ∧ ∀ i j : Nat, i < D.s.1.toNat → j < D.s.1.toNat → headB D i = true → headB D j = true → (scanD D (i : Int)).1 = (scanD D (j : Int)).1 → i = j
theorem FoundOf.of {D : PD} {zs : List (FV En)} (h : FoundOf D zs) {i : Nat} (hi : i < D.s.1.toNat) (hh : headB D i = true) : ∃ z ∈ zs, z.seg = (i : Int) ∧ z.seq = (scanD D (i : Int)).1 ∧ z.l = (scanD D (i : Int)).2.1 := by
 have h1 : ((i : Int), (scanD D (i : Int)).1, (scanD D (i : Int)).2.1) ∈ segsL D D.s.1.toNat := by
  unfold segsL
  rw [List.mem_filterMap]
  exact ⟨i, by simpa using hi, if_pos hh⟩
 obtain ⟨z, hz, e⟩ := List.mem_map.1 (h.1.mem_iff.2 h1)
 unfold toT at e
 injection e with e1 e2
 injection e2 with e2 e3
 exact ⟨z, hz, e1, e2, e3⟩
theorem FoundOf.nodup {D : PD} {zs : List (FV En)} (h : FoundOf D zs) : (zs.map (·.seg)).Nodup := by
 have h1 : (zs.map toT).map (·.1) = zs.map (·.seg) := by rw [List.map_map]; rfl
 have h2 := h.1.map (·.1)
 rw [h1, segsL_is] at h2
 rw [h2.nodup_iff, List.nodup_iff_pairwise_ne, List.pairwise_map]
 refine List.Pairwise.filter _ ?_
 refine (List.nodup_iff_pairwise_ne.1 (List.nodup_range (n := D.s.1.toNat))).imp (fun {a b} hab e => hab (by omega))
theorem FoundOf.strict {D : PD} {zs : List (FV En)} (h : FoundOf D zs) (hd : DistS D) : zs.Pairwise (fun x y => x.seq < y.seq) := by
 have h1 := h.2
 unfold SortedF at h1
 have h2 := h.nodup
 rw [List.nodup_iff_pairwise_ne, List.pairwise_map] at h2
 have h3 : zs.Pairwise (fun x y => x ∈ zs ∧ y ∈ zs) := by
  have : ∀ l : List (FV En), (∀ z ∈ l, z ∈ zs) → l.Pairwise (fun x y => x ∈ zs ∧ y ∈ zs) := by
   intro l
   induction l with
   | nil => intro _; exact List.Pairwise.nil
   | cons x l ih => intro hl; exact List.Pairwise.cons (fun y hy => ⟨hl x List.mem_cons_self, hl y (List.mem_cons_of_mem _ hy)⟩) (ih (fun z hz => hl z (List.mem_cons_of_mem _ hz)))
  exact this zs (fun z hz => hz)
 refine (h1.and (h2.and h3)).imp ?_
 rintro x y ⟨a, b, c, d⟩
 apply Decidable.byContradiction
 intro hn
 obtain ⟨i, hi, i1, i2, i3, i4⟩ := h.mem c
 obtain ⟨j, hj, j1, j2, j3, j4⟩ := h.mem d
 have hxy : x.seq = y.seq := by
  by_cases e : y.seq < x.seq
  ·exact absurd (.inl e) a
  ·omega
 have := hd.2 i j hi hj i1 j1 (by rw [← i3, ← j3, hxy])
 rw [i2, j2, this] at b
 exact b rfl
def lastS (zs : List (FV En)) : Nat → Int
 | 0 => 0
 | k + 1 => match zs[k]? with | some z => z.seq | none => 0
theorem allF_is {D : PD} {zs : List (FV En)} (h : FoundOf D zs) (hd : DistS D) {n : Nat} (hn : n = D.s.1.toNat) {sc : Sc3} (hsc : ∀ i, i < n → sc i = scanD D (i : Int)) (hb : ∀ i, n ≤ i → (sc i).2.2 = false) : ∀ j, j ≤ zs.length → allF sc n j = (lastS zs j, joinL (zs.take j))
 | 0, _ => rfl
 | j + 1, hj => by
  have ih := allF_is h hd hn hsc hb j (by omega)
  obtain ⟨z, hz⟩ : ∃ z, zs[j]? = some z := ⟨_, List.getElem?_eq_getElem (by omega)⟩
  have h1 : ∀ i, (sc i).2.2 = true → 1 ≤ (sc i).1 := fun i hi => by
   have hin : i < n := by
    apply Decidable.byContradiction
    intro hh
    rw [hb i (by omega)] at hi
    cases hi
   rw [hsc i hin] at hi ⊢
   exact hd.1 i (by omega) hi
  obtain ⟨i, i0, i1, i2, i3, i4⟩ := h.mem (List.mem_of_getElem? hz)
  have hst := List.pairwise_iff_getElem.1 (h.strict hd)
  have hzj : zs[j]'(by omega) = z := (List.getElem?_eq_some_iff.1 hz).2
  have hz1 : 1 ≤ z.seq := by rw [i3]; exact hd.1 i i0 i1
  have hlast : lastS zs j < z.seq := by
   cases j with
   | zero => show (0 : Int) < _; omega
   | succ j =>
    obtain ⟨y, hy⟩ : ∃ y, zs[j]? = some y := ⟨_, List.getElem?_eq_getElem (by omega)⟩
    show (match zs[j]? with | some z => z.seq | none => 0) < z.seq
    rw [hy]
    have := hst j (j + 1) (by omega) (by omega) (by omega)
    rw [hzj, (List.getElem?_eq_some_iff.1 hy).2] at this
    exact this
  have hin : i < n := by omega
  have hbest : bestF sc (lastS zs j) n = (z.seq, z.l) := by
   rcases bestF_spec h1 (last := lastS zs j) n with ⟨h2, h3⟩ | ⟨m, h2, h3, h4, h5, h6⟩
   ·have := h3 i hin (by rw [hsc i hin]; exact i1)
    rw [hsc i hin, ← i3] at this
    omega
   ·rw [h5]
    have h7 := h6 i hin (by rw [hsc i hin]; exact i1) (by rw [hsc i hin, ← i3]; exact hlast)
    rw [hsc i hin, hsc m h2, ← i3] at h7
    rw [hsc m h2] at h3 h4
    obtain ⟨y, hy, y1, y2, y3⟩ := h.of (i := m) (by omega) h3
    obtain ⟨t, ht, hty⟩ := List.getElem_of_mem hy
    have hjt : t = j := by
     rcases Nat.lt_trichotomy t j with hlt | he | hgt
     ·exfalso
      have h9 : y.seq ≤ lastS zs j := by
       cases j with
       | zero => omega
       | succ j =>
        obtain ⟨x, hx⟩ : ∃ x, zs[j]? = some x := ⟨_, List.getElem?_eq_getElem (by omega)⟩
        show _ ≤ (match zs[j]? with | some z => z.seq | none => 0)
        rw [hx]
        show y.seq ≤ x.seq
        by_cases e : t = j
        ·subst e
         rw [← hty, (List.getElem?_eq_some_iff.1 hx).2]
         exact Int.le_refl _
        ·have := hst t j (by omega) (by omega) (by omega)
         rw [hty, (List.getElem?_eq_some_iff.1 hx).2] at this
         omega
      rw [y2] at h9
      omega
     ·exact he
     ·exfalso
      have h8 := hst j t (by omega) ht hgt
      rw [hzj, hty, y2] at h8
      omega
    subst hjt
    rw [hzj] at hty
    subst hty
    rw [hsc m h2, ← y2, ← y3]
  rw [allF, ih]
  simp only
  rw [hbest]
  simp only
  rw [if_neg (by omega), joinL_succ hz]
  congr 1
  show z.seq = (match zs[j]? with | some z => z.seq | none => 0)
  rw [hz]
theorem allF_all {D : PD} {zs : List (FV En)} (h : FoundOf D zs) (hd : DistS D) {n : Nat} (hn : n = D.s.1.toNat) {sc : Sc3} (hsc : ∀ i, i < n → sc i = scanD D (i : Int)) (hb : ∀ i, n ≤ i → (sc i).2.2 = false) : (allF sc n n).2 = joinL zs := by
 have hle : zs.length ≤ n := by
  rw [h.num, hn]
  exact Nat.le_trans (List.length_filter_le _ _) (by simp)
 have h1 := allF_is h hd hn hsc hb zs.length (Nat.le_refl _)
 rw [List.take_length] at h1
 have h2 : (bestF sc (allF sc n zs.length).1 n).1 = 0 := by
  rw [h1]
  simp only
  have h3 : ∀ i, (sc i).2.2 = true → 1 ≤ (sc i).1 := fun i hi => by
   have hin : i < n := by
    apply Decidable.byContradiction
    intro hh
    rw [hb i (by omega)] at hi
    cases hi
   rw [hsc i hin] at hi ⊢
   exact hd.1 i (by omega) hi
  rcases bestF_spec h3 (last := lastS zs zs.length) n with ⟨h4, _⟩ | ⟨m, h4, h5, h6, h7, h8⟩
  ·exact h4
  ·exfalso
   rw [hsc m h4] at h5 h6
   obtain ⟨y, hy, y1, y2, y3⟩ := h.of (i := m) (by omega) h5
   obtain ⟨t, ht, hty⟩ := List.getElem_of_mem hy
   have hst := List.pairwise_iff_getElem.1 (h.strict hd)
   have h9 : y.seq ≤ lastS zs zs.length := by
    cases hz : zs.length with
    | zero => omega
    | succ j =>
     obtain ⟨x, hx⟩ : ∃ x, zs[j]? = some x := ⟨_, List.getElem?_eq_getElem (by omega)⟩
     show _ ≤ (match zs[j]? with | some z => z.seq | none => 0)
     rw [hx]
     show y.seq ≤ x.seq
     by_cases e : t = j
     ·subst e
      rw [← hty, (List.getElem?_eq_some_iff.1 hx).2]
      exact Int.le_refl _
     ·have := hst t j (by omega) (by omega) (by omega)
      rw [hty, (List.getElem?_eq_some_iff.1 hx).2] at this
      omega
   omega
 have h3 := allF_stop h2 (n - zs.length)
 rw [show zs.length + (n - zs.length) = n by omega] at h3
 rw [h3, h1]
theorem LLay.dist {D : PD} {g : LG} {sq : Int → Int} {rs : Int → List (Int × List Int)} {e : Int → Int} (h : LLay D g sq rs e) (hi : LInv D g) (hs : Sound D) (hb : BytD D) : DistS D ∧ ∀ i : Nat, i < D.s.1.toNat → (headB D i = true ↔ g.st[i]? ≠ some 0) := by
 have hh : ∀ i : Nat, i < D.s.1.toNat → (headB D i = true ↔ g.st[i]? ≠ some 0) := fun i hi2 => by
  have hi3 : (i : Int) < D.s.1 := by omega
  constructor
  ·intro h1 h0
   unfold headB at h1
   rw [free_scan hi hs hi3 h0] at h1
   cases h1
  ·intro h1
   unfold headB
   rw [h.scan hs hb hi3 h1]
 refine ⟨⟨fun i hi2 h1 => ?_, fun i j hi2 hj2 h1 h2 e => ?_⟩, hh⟩
 ·have h3 := (hh i hi2).1 h1
  rw [h.scan hs hb (by omega) h3]
  exact (h.laid i (by omega) h3).2.1
 ·have h3 := (hh i hi2).1 h1
  have h4 := (hh j hj2).1 h2
  rw [h.scan hs hb (by omega) h3, h.scan hs hb (by omega) h4] at e
  apply Decidable.byContradiction
  intro hne
  exact h.ne i j (by omega) (by omega) hne h3 h4 e
end Go.Proofs.YtmbiebdcnadhkaaGreat.Fl
namespace Go.Proofs.YtmbiebdcnadhkaaGreat.Fl
theorem used_hasU {D : PD} {c d : Int} (h : usedB D c d = true) : hasB D.s c d = true := by
 unfold usedB at h
 rw [Bool.and_eq_true] at h
 exact h.1
theorem got_of_memU {q : Pg} : ∀ {ps : List Pg}, Nd ps → q ∈ ps → got q.1 ps = some q.2.1
 | p :: ps, hd, h => by
  obtain ⟨h1, h2⟩ := List.pairwise_cons.1 hd
  rw [got_cons]
  rcases List.mem_cons.1 h with rfl | h
  ·rw [if_pos rfl]
  ·rw [if_neg (h1 q h), got_of_memU h2 h]
theorem Sim.usedOfU {D : PD} {s : Int × Int × Int} {ps : List Pg} (h : Sim D s ps) {q : Pg} (hq : q ∈ ps) : usedB D q.1.1 q.1.2 = true := by
 unfold usedB
 rw [h.lk, show (q.1.1, q.1.2) = q.1 from rfl, got_of_memU h.nd hq, h.sh, h.has q hq]
 rfl
def rowU (D : PD) (a : Nat) : Nat → List Adr
 | 0 => []
 | j + 1 => rowU D a j ++ if usedB D a j then [((a : Int), (j : Int))] else []
def pagesU (D : PD) (m : Nat) : Nat → List Adr
 | 0 => []
 | k + 1 => pagesU D m k ++ rowU D k m
def pagesV (D : PD) : List Adr := pagesU D D.s.2.1.toNat D.s.1.toNat
def lexU (x y : Adr) : Prop := x.1 < y.1 ∨ (x.1 = y.1 ∧ x.2 < y.2)
theorem rowU_mem {D : PD} {a : Nat} {x : Adr} : ∀ {j}, x ∈ rowU D a j ↔ ∃ i : Nat, i < j ∧ x = ((a : Int), (i : Int)) ∧ usedB D a i = true
 | 0 => by simp [rowU]
 | j + 1 => by
  rw [rowU, List.mem_append, rowU_mem]
  constructor
  ·rintro (⟨i, h1, h2, h3⟩ | h)
   ·exact ⟨i, by omega, h2, h3⟩
   ·split at h
    ·exact ⟨j, by omega, by simpa using h, by assumption⟩
    ·cases h
  ·rintro ⟨i, h1, h2, h3⟩
   by_cases hi : i = j
   ·subst hi
    rw [if_pos h3]
    exact .inr (by simp [h2])
   ·exact .inl ⟨i, by omega, h2, h3⟩
theorem pagesU_mem {D : PD} {m : Nat} {x : Adr} : ∀ {k}, x ∈ pagesU D m k ↔ ∃ a i : Nat, a < k ∧ i < m ∧ x = ((a : Int), (i : Int)) ∧ usedB D a i = true
 | 0 => by simp [pagesU]
 | k + 1 => by
  rw [pagesU, List.mem_append, pagesU_mem, rowU_mem]
  constructor
  ·rintro (⟨a, i, h1, h2⟩ | ⟨i, h1, h2, h3⟩)
   ·exact ⟨a, i, by omega, h2⟩
   ·exact ⟨k, i, by omega, h1, h2, h3⟩
  ·rintro ⟨a, i, h1, h2, h3, h4⟩
   by_cases ha : a = k
   ·subst ha
    exact .inr ⟨i, h2, h3, h4⟩
   ·exact .inl ⟨a, i, by omega, h2, h3, h4⟩
theorem rowU_lex {D : PD} {a : Nat} : ∀ j, (rowU D a j).Pairwise lexU
 | 0 => by simp [rowU]
 | j + 1 => by
  rw [rowU, List.pairwise_append]
  refine ⟨rowU_lex j, by split <;> simp, fun x hx y hy => ?_⟩
  obtain ⟨i, h1, h2, _⟩ := rowU_mem.1 hx
  split at hy
  ·have : y = ((a : Int), (j : Int)) := by simpa using hy
   rw [h2, this]
   exact .inr ⟨rfl, by show (i : Int) < (j : Int); omega⟩
  ·cases hy
theorem pagesU_lex {D : PD} {m : Nat} : ∀ k, (pagesU D m k).Pairwise lexU
 | 0 => by simp [pagesU]
 | k + 1 => by
  rw [pagesU, List.pairwise_append]
  refine ⟨pagesU_lex k, rowU_lex m, fun x hx y hy => ?_⟩
  obtain ⟨a, i, h1, _, h2, _⟩ := pagesU_mem.1 hx
  obtain ⟨j, _, h3, _⟩ := rowU_mem.1 hy
  rw [h2, h3]
  exact .inl (by show (a : Int) < (k : Int); omega)
theorem pagesV_lex (D : PD) : (pagesV D).Pairwise lexU := pagesU_lex _
theorem pagesV_mem {D : PD} {x : Adr} : x ∈ pagesV D ↔ usedB D x.1 x.2 = true := by
 unfold pagesV
 rw [pagesU_mem]
 constructor
 ·rintro ⟨a, i, _, _, h, hu⟩
  rw [h]
  exact hu
 ·intro hu
  have hh := (hasB_iff _ _ _).1 (used_hasU hu)
  obtain ⟨a, ha⟩ := Int.eq_ofNat_of_zero_le hh.1
  obtain ⟨i, hi⟩ := Int.eq_ofNat_of_zero_le hh.2.2.1
  refine ⟨a, i, by omega, by omega, ?_, by rw [← ha, ← hi]; exact hu⟩
  rw [← ha, ← hi]
section
variable {D : PD} {s : Int × Int × Int} {ps : List Pg}
theorem Sim.usedUff (h : Sim D s ps) (x : Adr) : usedB D x.1 x.2 = true ↔ ∃ p ∈ ps, p.1 = x := by
 constructor
 ·intro hu
  rw [h.used, findI_iff] at hu
  cases hg : got (x.1, x.2) ps with
  | none => rw [hg] at hu; cases hu
  | some l =>
   obtain ⟨p, hp, h1, _⟩ := got_mem hg
   exact ⟨p, hp, h1⟩
 ·rintro ⟨p, hp, rfl⟩
  exact h.usedOfU hp
theorem Sim.lenU (h : Sim D s ps) : (pagesV D).length = ps.length := by
 have hn : (pagesV D).Nodup := by
  rw [List.nodup_iff_pairwise_ne]
  refine (pagesV_lex D).imp (fun {x y} hxy e => ?_)
  subst e
  rcases hxy with h1 | ⟨_, h1⟩ <;> omega
 have hn2 : (ps.map (·.1)).Nodup := by
  rw [List.nodup_iff_pairwise_ne, List.pairwise_map]
  exact h.nd
 have hp := (List.perm_ext_iff_of_nodup hn hn2).2 (fun x => by
  rw [pagesV_mem, h.usedUff, List.mem_map])
 rw [hp.length_eq, List.length_map]
end
def usedR (D : PD) (a : Int) : Nat → Nat
 | 0 => 0
 | b + 1 => usedR D a b + (if usedB D a (b : Int) = true then 1 else 0)
def usedN (D : PD) (m : Nat) : Nat → Nat
 | 0 => 0
 | a + 1 => usedN D m a + usedR D (a : Int) m
theorem usedR_le (D : PD) (a : Int) : ∀ b, usedR D a b ≤ b
 | 0 => Nat.le_refl _
 | b + 1 => by
  have := usedR_le D a b
  unfold usedR
  split <;> omega
theorem usedN_le (D : PD) {m : Nat} (hm : m ≤ 64) : ∀ a, usedN D m a ≤ 64 * a
 | 0 => Nat.le_refl _
 | a + 1 => by
  have h1 := usedN_le D hm a
  have h2 := usedR_le D (a : Int) m
  unfold usedN
  omega
theorem usedR_len (D : PD) (a : Nat) : ∀ j, usedR D (a : Int) j = (rowU D a j).length
 | 0 => rfl
 | j + 1 => by
  rw [usedR, rowU, List.length_append, usedR_len D a j]
  split <;> simp
theorem usedN_len (D : PD) (m : Nat) : ∀ k, usedN D m k = (pagesU D m k).length
 | 0 => rfl
 | k + 1 => by rw [usedN, pagesU, List.length_append, usedN_len D m k, usedR_len]
theorem Sim.usedN {D : PD} {s : Int × Int × Int} {ps : List Pg} (h : Sim D s ps) : Fl.usedN D D.s.2.1.toNat D.s.1.toNat = ps.length := by
 rw [usedN_len]
 exact h.lenU
end Go.Proofs.YtmbiebdcnadhkaaGreat.Fl
namespace Go.Proofs.YtmbiebdcnadhkaaGreat.Fl
open Go.RowKit Go.Proofs.YtmbiebdcnadhkaaGreatW.PrintWords Go.Proofs.YtmbiebdcnadhkaaGreatW.PrintMore Go.Maps
section
variable {N0 p : Nat} {D : PD} {ok : Nat → Prop} {w : World}
set_option maxHeartbeats 1000000 in
set_option maxRecDepth 100000 in
theorem MapClone_any {m : Nat} {es : Array MapEntry} {ck : Nat} (hm : w.heap[m]? = some (.map es ck)) : Calls Tryz.prog 80 #[.map (some m)] w fun e w' => ∃ m', e = .returned (.map (some m')) ∧ w.heap.size ≤ m' ∧ w'.heap[m']? = some (.map es ck) ∧ Below w.heap.size w w' := by
 have en := fun (w : World) (r : Option Nat) => run_eql_map_nil (P := Tryz.prog) w TM TA 25 r Tryz.underlying113
 have hcall : (callFunc 108 #[.iface TM (.map (some m))]).run Tryz.prog w = .ok (.value (.iface TM (.map (some w.heap.size)))) (w.alloc (.map es ck)) := by
  rw [run_callFunc_extern Tryz.func108 (by kernel_rfl) (by kernel_rfl) (by kernel_rfl) (e := Extern.MapsClone.clone) (by kernel_rfl)]
  have hdef : Extern.MapsClone.clone #[.iface TM (.map (some m))] = (do
    let .map entries clock ← getObj m | stuck "maps.clone: a map expected"
    pure (.iface TM (.map (some (← newObj (.map entries clock)))))) := rfl
  rw [hdef]
  simp [MapKept.run_getObj_map hm, newObj, Result.andThen]
  rfl
 have hta : ∀ (w : World) (v : Value), (Instr.typeAssert (.iface TM v) 20 TM false).run Tryz.prog w = .ok v w := by
  intro w v
  simp [Instr.typeAssert, run_underlying Tryz.underlying113, Result.andThen]
 go_enter Tryz.func80, Tryz.ntmps80
 go_wp2_with fail
 go_ret
 exact ⟨w.heap.size, rfl, Nat.le_refl _, blk_new w _, below_alloc (Below.refl _ _) _⟩
def CopyOk (ok : Nat → Prop) (w : World) : Nat → Prop := fun k => w.heap.size ≤ k ∨ (ok k ∧ ∃ cs fr, w.heap[k]? = some (.cells cs TB fr))
theorem copy_end {m m1 : Nat} {v v1 : Value} {es : Array MapEntry} {ck : Nat} {w2 : World} (hD : DevAt N0 p D ok w m v es ck) (hm1 : w.heap.size ≤ m1) (hm2 : w2.heap[m1]? = some (.map es ck)) (hr : kAddr.R TA w2 w.heap.size (fun k => w.heap.size ≤ k) v1 D.dirty) (hb : Below w.heap.size w w2) :
  DevIs N0 w2.heap.size D (CopyOk ok w) (w2.alloc (.cells #[.int .i64 D.s.1, .int .i64 D.s.2.1, .int .i64 D.s.2.2, .map (some m1), v1] TD (0, 0))) ∧ Below w.heap.size w (w2.alloc (.cells #[.int .i64 D.s.1, .int .i64 D.s.2.1, .int .i64 D.s.2.2, .map (some m1), v1] TD (0, 0))) := by
 have hs := hb.size
 have hN : N0 ≤ w.heap.size := Nat.le_of_lt (Nat.lt_of_le_of_lt hD.base (blt hD.blk))
 have hb2 := below_alloc (Below.refl w2.heap.size w2) (.cells #[.int .i64 D.s.1, .int .i64 D.s.2.1, .int .i64 D.s.2.2, .map (some m1), v1] TD (0, 0))
 refine ⟨⟨m1, v1, es, ck, by omega, .inl hs, blk_new w2 _, .inl hm1, by omega, (hb2.block m1 (blt hm2)).trans hm2, ?_, ?_, hD.shape, hD.inr, hD.nodup, hD.lens⟩, hb.trans (hb2.mono hs)⟩
 ·refine hD.ents.imp (fun _ _ hrow => ?_)
  refine ((hrow.bound.step (fun k _ hlt => hb.block k hlt)).below hb2).mono (fun k hk => .inr ⟨hk.1, ?_⟩)
  obtain ⟨_, _, _, q, hq, cs, hc⟩ := hk
  obtain rfl : q = TB := by simpa using hq
  exact ⟨cs, _, hc⟩
 ·exact Kd.R_mono (Kd.R_lower (Kd.R_below hr hb2) hN) (fun k hk => .inl hk)
set_option maxHeartbeats 4000000 in
set_option maxRecDepth 100000 in
theorem Copy_any (hD : DevIs N0 p D ok w) (hm : D.dirty.length < 1000000) : Calls Tryz.prog 41 #[.pointer (some ⟨p, 0, none⟩)] w fun e w' => ∃ p', e = .returned (.pointer (some ⟨p', 0, none⟩)) ∧ w.heap.size ≤ p' ∧ DevIs N0 p' D (CopyOk ok w) w' ∧ Below w.heap.size w w' := by
 obtain ⟨m, v, es, ck, hD⟩ := hD
 have HP := Lib.hid hD.blk
 have HD := Aside0.mk hD
 have k0 : w.cell? ⟨p, 0, none⟩ = some (.int .i64 D.s.1) := bcell hD.blk 0
 have k1 : w.cell? ⟨p, 1, none⟩ = some (.int .i64 D.s.2.1) := bcell hD.blk 1
 have k2 : w.cell? ⟨p, 2, none⟩ = some (.int .i64 D.s.2.2) := bcell hD.blk 2
 have k3 : w.cell? ⟨p, 3, none⟩ = some (.map (some m)) := bcell hD.blk 3
 have k4 : w.cell? ⟨p, 4, none⟩ = some v := bcell hD.blk 4
 have lp := blt hD.blk
 have LP := Lib.hid lp
 have hmm := hm
 have LM := Lib.hid (blt hD.map)
 have HM := Lib.hid hD.map
 clear hD lp
 go_enter Tryz.func41, Tryz.ntmps41
 go_wp2_with (go_at_call 69; (with_reducible refine (ok_blk HP.out).mono ?_); rintro e w' ⟨rfl, rfl⟩)
 go_region_held3 (fun w' => w'.cell? ⟨p, 0, none⟩ = some (.int .i64 D.s.1) ∧ w'.cell? ⟨p, 1, none⟩ = some (.int .i64 D.s.2.1) ∧ w'.cell? ⟨p, 2, none⟩ = some (.int .i64 D.s.2.2) ∧ w'.cell? ⟨p, 3, none⟩ = some (.map (some m)) ∧ w'.cell? ⟨p, 4, none⟩ = some v) (first | go_keep)
  (first
   | (go_at_call 80; refine (MapClone_any (m := m) (es := es) (ck := ck) (((undrew RR.out.2).block m LM.out).trans HM.out)).mono ?_; rintro e w1 ⟨m1, rfl, hm⟩; have hB : Below w.heap.size w w1 := (undrew RR.out.2).trans (hm.2.2.mono (undrew RR.out.2).size); have c0 : w1.cell? ⟨p, 0, none⟩ = some (.int .i64 D.s.1) := (hB.cell (p := ⟨p, 0, none⟩) LP.out).trans k0; have c1 : w1.cell? ⟨p, 1, none⟩ = some (.int .i64 D.s.2.1) := (hB.cell (p := ⟨p, 1, none⟩) LP.out).trans k1; have c2 : w1.cell? ⟨p, 2, none⟩ = some (.int .i64 D.s.2.2) := (hB.cell (p := ⟨p, 2, none⟩) LP.out).trans k2; have c3 : w1.cell? ⟨p, 3, none⟩ = some (.map (some m)) := (hB.cell (p := ⟨p, 3, none⟩) LP.out).trans k3; have c4 : w1.cell? ⟨p, 4, none⟩ = some (v) := (hB.cell (p := ⟨p, 4, none⟩) LP.out).trans k4; have MM := Aside0.mk hm; clear hm hB)
   | (go_at_call 80; refine (MapClone_any (w := w.drew) (m := m) (es := es) (ck := ck) (HM.out)).mono ?_; rintro e w1 ⟨m1, rfl, hm⟩; have hB : Below w.heap.size w w1 := undrew hm.2.2; have c0 : w1.cell? ⟨p, 0, none⟩ = some (.int .i64 D.s.1) := (hB.cell (p := ⟨p, 0, none⟩) LP.out).trans k0; have c1 : w1.cell? ⟨p, 1, none⟩ = some (.int .i64 D.s.2.1) := (hB.cell (p := ⟨p, 1, none⟩) LP.out).trans k1; have c2 : w1.cell? ⟨p, 2, none⟩ = some (.int .i64 D.s.2.2) := (hB.cell (p := ⟨p, 2, none⟩) LP.out).trans k2; have c3 : w1.cell? ⟨p, 3, none⟩ = some (.map (some m)) := (hB.cell (p := ⟨p, 3, none⟩) LP.out).trans k3; have c4 : w1.cell? ⟨p, 4, none⟩ = some (v) := (hB.cell (p := ⟨p, 4, none⟩) LP.out).trans k4; have MM := Aside0.mk hm; clear hm hB)
   | (go_at_call 81; refine (Clone_any (v := v) (xs := D.dirty) (N0 := N0) (ok := ok) (Kd.R_below HD.out.dirty (undrew MM.out.2.2)) hmm).mono ?_; rintro e w1 ⟨v1, rfl, hr1, _, hb1⟩; obtain ⟨A1, c1, rfl⟩ := Kd.R_slice hr1; have hB : Below w.heap.size w w1 := (undrew MM.out.2.2).trans (hb1.mono (undrew MM.out.2.2).size); have c0 : w1.cell? ⟨p, 0, none⟩ = some (.int .i64 D.s.1) := (hB.cell (p := ⟨p, 0, none⟩) LP.out).trans k0; have c1 : w1.cell? ⟨p, 1, none⟩ = some (.int .i64 D.s.2.1) := (hB.cell (p := ⟨p, 1, none⟩) LP.out).trans k1; have c2 : w1.cell? ⟨p, 2, none⟩ = some (.int .i64 D.s.2.2) := (hB.cell (p := ⟨p, 2, none⟩) LP.out).trans k2; have c3 : w1.cell? ⟨p, 3, none⟩ = some (.map (some m)) := (hB.cell (p := ⟨p, 3, none⟩) LP.out).trans k3; have c4 : w1.cell? ⟨p, 4, none⟩ = some (v) := (hB.cell (p := ⟨p, 4, none⟩) LP.out).trans k4; have RR := Aside0.mk (And.intro hr1 hb1); clear hr1 hb1 hB)
   | (go_at_call 81; refine (Clone_any (v := v) (xs := D.dirty) (N0 := N0) (ok := ok) (Kd.R_step (w1 := w.drew) HD.out.dirty (fun _ _ _ => rfl)) hmm).mono ?_; rintro e w1 ⟨v1, rfl, hr1, _, hb1⟩; obtain ⟨A1, c1, rfl⟩ := Kd.R_slice hr1; have hB : Below w.heap.size w w1 := undrew hb1; have c0 : w1.cell? ⟨p, 0, none⟩ = some (.int .i64 D.s.1) := (hB.cell (p := ⟨p, 0, none⟩) LP.out).trans k0; have c1 : w1.cell? ⟨p, 1, none⟩ = some (.int .i64 D.s.2.1) := (hB.cell (p := ⟨p, 1, none⟩) LP.out).trans k1; have c2 : w1.cell? ⟨p, 2, none⟩ = some (.int .i64 D.s.2.2) := (hB.cell (p := ⟨p, 2, none⟩) LP.out).trans k2; have c3 : w1.cell? ⟨p, 3, none⟩ = some (.map (some m)) := (hB.cell (p := ⟨p, 3, none⟩) LP.out).trans k3; have c4 : w1.cell? ⟨p, 4, none⟩ = some (v) := (hB.cell (p := ⟨p, 4, none⟩) LP.out).trans k4; have RR := Aside0.mk (And.intro hr1 hb1); clear hr1 hb1 hB))
 ·go_wp2
  go_ret
  have hb2 : Below w.heap.size w _ := (undrew MM.out.2.2).trans (RR.out.2.mono (undrew MM.out.2.2).size)
  have hr2 := Kd.R_mono (Kd.R_lower RR.out.1 (undrew MM.out.2.2).size) (fun k hk => Nat.le_trans (undrew MM.out.2.2).size hk)
  exact ⟨_, rfl, hb2.size, copy_end HD.out MM.out.1 (RR.out.2.block _ (blt MM.out.2.1) |>.trans MM.out.2.1) hr2 hb2⟩
end
end Go.Proofs.YtmbiebdcnadhkaaGreat.Fl
namespace Go.Proofs.YtmbiebdcnadhkaaGreat.Fl
open Go.RowKit Go.Proofs.YtmbiebdcnadhkaaGreatW.PrintWords Go.Proofs.YtmbiebdcnadhkaaGreatW.PrintMore Go.Maps
def StOk (g : LG) : Prop := ∀ x ∈ g.st, x = 0 ∨ x = 1 ∨ x = 2
theorem st_set {l : List Int} {i : Nat} {v : Int} (h : ∀ x ∈ l, x = 0 ∨ x = 1 ∨ x = 2) (hv : v = 0 ∨ v = 1 ∨ v = 2) : ∀ x ∈ l.set i v, x = 0 ∨ x = 1 ∨ x = 2 := fun x hx => by
 rcases List.mem_or_eq_of_mem_set hx with h1 | h1
 ·exact h x h1
 ·rw [h1]; exact hv
theorem StOk.sealed {g : LG} (h : StOk g) : StOk (sealG g) := by
 unfold sealG
 split
 ·exact h
 ·exact st_set h (.inr (.inr rfl))
theorem Deeds.st {s : Int × Int × Int} {k : Nat} {D : PD} {g : LG} {ps : List Pg} (h : Deeds s k D g ps) : StOk g := by
 induction h with
 | new => exact fun x hx => .inl (List.eq_of_mem_replicate hx)
 | put h _ _ _ _ _ _ hp ih =>
  cases hp with
  | head => exact ih
  | big => exact ih
  | full => exact ih
  | app => exact ih
  | turn => exact st_set ih.sealed (.inr (.inl rfl))
 | erase h _ _ a ih =>
  unfold lEraseG
  split
  ·exact st_set ih (.inl rfl)
  ·exact ih
 | sealed h _ _ ih => exact ih.sealed
 | sync h _ _ ih => exact ih
theorem filt_take (l : List Int) (q : Nat → Bool) (hq : ∀ i : Nat, i < l.length → q i = decide (l[i]? ≠ some 0)) : ∀ k, k ≤ l.length → ((List.range k).filter q).length = ((l.take k).filter (fun x => decide (x ≠ 0))).length
 | 0, _ => rfl
 | k + 1, hk => by
  have ih := filt_take l q hq k (by omega)
  obtain ⟨x, hx⟩ : ∃ x, l[k]? = some x := ⟨_, List.getElem?_eq_getElem (by omega)⟩
  rw [List.range_succ, List.filter_append, List.length_append, ih, List.take_add_one, hx, List.filter_append, List.length_append]
  congr 1
  have h1 : q k = decide (x ≠ 0) := by
   rw [hq k (by omega), hx, decide_eq_decide]
   exact ⟨fun h e => h (by rw [e]), fun h e => h (by injection e)⟩
  show ([k].filter q).length = ([x].filter (fun x => decide (x ≠ 0))).length
  rw [List.filter_cons, List.filter_cons, h1]
  split <;> rfl
theorem cnt_parts {l : List Int} (h : ∀ x ∈ l, x = 0 ∨ x = 1 ∨ x = 2) : (l.filter (fun x => decide (x ≠ 0))).length = cnt 1 l + cnt 2 l ∧ l.length = cnt 0 l + cnt 1 l + cnt 2 l := by
 induction l with
 | nil => exact ⟨rfl, rfl⟩
 | cons x l ih =>
  obtain ⟨h1, h2⟩ := ih (fun y hy => h y (List.mem_cons_of_mem _ hy))
  unfold cnt at *
  simp only [ne_eq] at h1
  simp only [List.filter_cons, List.length_cons]
  rcases h x List.mem_cons_self with rfl | rfl | rfl
  ·simp only [show ((0 : Int) == 0) = true from rfl, show ((0 : Int) == 1) = false from rfl, show ((0 : Int) == 2) = false from rfl, ne_eq, not_true_eq_false, decide_false, if_true, Bool.false_eq_true, if_false, List.length_cons]
   omega
  ·simp only [show ((1 : Int) == 0) = false from rfl, show ((1 : Int) == 1) = true from rfl, show ((1 : Int) == 2) = false from rfl, ne_eq, show ¬ (1 : Int) = 0 by decide, not_false_eq_true, decide_true, if_true, Bool.false_eq_true, if_false, List.length_cons]
   omega
  ·simp only [show ((2 : Int) == 0) = false from rfl, show ((2 : Int) == 1) = false from rfl, show ((2 : Int) == 2) = true from rfl, ne_eq, show ¬ (2 : Int) = 0 by decide, not_false_eq_true, decide_true, if_true, Bool.false_eq_true, if_false, List.length_cons]
   omega
theorem FoundOf.states {D : PD} {g : LG} {zs : List (FV En)} (h : FoundOf D zs) (hi : LInv D g) (hst : StOk g) (hh : ∀ i : Nat, i < D.s.1.toNat → (headB D i = true ↔ g.st[i]? ≠ some 0)) :
  zs.length = cnt 1 (grOf D.s g).st + cnt 2 (grOf D.s g).st ∧ (cnt 0 (grOf D.s g).st : Int) = D.s.1 - zs.length := by
 have ha0 := hi.sh.a0
 have ha1 := hi.sh.a1
 have hl : (grOf D.s g).st.length = D.s.1.toNat := by
  show (g.st.take D.s.1.toNat).length = _
  rw [List.length_take, hi.len]; omega
 have hq : ∀ i : Nat, i < (grOf D.s g).st.length → headB D i = decide ((grOf D.s g).st[i]? ≠ some 0) := fun i hi2 => by
  have h1 : (grOf D.s g).st[i]? = g.st[i]? := by
   show (g.st.take D.s.1.toNat)[i]? = _
   rw [List.getElem?_take_of_lt (by omega)]
  rw [h1]
  have h2 := hh i (by omega)
  cases hb : headB D i with
  | true => exact (decide_eq_true (h2.1 hb)).symm
  | false =>
   symm
   refine decide_eq_false (fun h3 => ?_)
   have := h2.2 h3
   rw [hb] at this
   cases this
 have h1 := filt_take _ _ hq _ (Nat.le_refl _)
 rw [hl, ← h.num, ← hl, List.take_length] at h1
 have h2 := cnt_parts (l := (grOf D.s g).st) (fun x hx => hst x (List.mem_of_mem_take hx))
 rw [h1]
 constructor
 ·exact h2.1
 ·rw [hl] at h2
  omega
theorem FoundOf.seqs {D : PD} {zs : List (FV En)} (h : FoundOf D zs) (hb : BytD D) : ∀ z ∈ zs, 0 ≤ z.seq ∧ z.seq ≤ 18446744073709551615 := fun z hz => by
 obtain ⟨i, _, _, _, e, _⟩ := h.mem hz
 rw [e]
 exact scan_seq hb _
theorem maxL_ge (l : List Int) : ∀ x ∈ l, x ≤ maxL l := by
 have h : ∀ (l : List Int) (m : Int), m ≤ l.foldl (fun m x => if m < x then x else m) m ∧ ∀ x ∈ l, x ≤ l.foldl (fun m x => if m < x then x else m) m := by
  intro l
  induction l with
  | nil => intro m; exact ⟨Int.le_refl _, fun x hx => by simp at hx⟩
  | cons y l ih =>
   intro m
   obtain ⟨h1, h2⟩ := ih (if m < y then y else m)
   rw [List.foldl_cons]
   have h3 : m ≤ (if m < y then y else m) ∧ y ≤ (if m < y then y else m) := by split <;> omega
   refine ⟨by omega, fun x hx => ?_⟩
   rcases List.mem_cons.1 hx with rfl | hx
   ·omega
   ·exact h2 x hx
 exact (h l 0).2
theorem maxL_in (l : List Int) : maxL l = 0 ∨ maxL l ∈ l := by
 have h : ∀ (l : List Int) (m : Int), l.foldl (fun m x => if m < x then x else m) m = m ∨ l.foldl (fun m x => if m < x then x else m) m ∈ l := by
  intro l
  induction l with
  | nil => intro m; exact .inl rfl
  | cons y l ih =>
   intro m
   rw [List.foldl_cons]
   rcases ih (if m < y then y else m) with h1 | h1
   ·rw [h1]
    split
    ·exact .inr List.mem_cons_self
    ·exact .inl rfl
   ·exact .inr (List.mem_cons_of_mem _ h1)
 exact h l 0
theorem maxL_same {l l' : List Int} (h : ∀ x, x ∈ l ↔ x ∈ l') (h0 : ∀ x ∈ l, 0 ≤ x) : maxL l = maxL l' := by
 have h1 : maxL l ≤ maxL l' := by
  rcases maxL_in l with e | e
  ·rw [e]
   rcases maxL_in l' with e2 | e2
   ·omega
   ·exact h0 _ ((h _).2 e2)
  ·exact maxL_ge _ _ ((h _).1 e)
 have h2 : maxL l' ≤ maxL l := by
  rcases maxL_in l' with e | e
  ·rw [e]
   rcases maxL_in l with e2 | e2
   ·omega
   ·exact h0 _ e2
  ·exact maxL_ge _ _ ((h _).2 e)
 omega
theorem FoundOf.seq_iff {D : PD} {zs zs' : List (FV En)} (h : FoundOf D zs) (h' : FoundOf D zs') (x : Int) : x ∈ zs.map (·.seq) → x ∈ zs'.map (·.seq) := fun hx => by
 obtain ⟨z, hz, rfl⟩ := List.mem_map.1 hx
 obtain ⟨i, i0, i1, i2, i3, i4⟩ := h.mem hz
 obtain ⟨y, hy, y1, y2, y3⟩ := h'.of i0 i1
 exact List.mem_map.2 ⟨y, hy, by rw [y2, i3]⟩
theorem FoundOf.next {D : PD} {zs zs' : List (FV En)} (h : FoundOf D zs) (h' : FoundOf D zs') (hb : BytD D) : nextV (zs'.map (·.seq)) = nextV (zs.map (·.seq)) := by
 unfold nextV
 rw [maxL_same (l := zs'.map (·.seq)) (l' := zs.map (·.seq)) (fun x => ⟨h'.seq_iff h x, h.seq_iff h' x⟩) (fun x hx => by
  obtain ⟨z, hz, rfl⟩ := List.mem_map.1 hx
  exact (h'.seqs hb z hz).1)]
theorem FoundOf.maxlt {D : PD} {g : LG} {zs : List (FV En)} {sq : Int → Int} {rs : Int → List (Int × List Int)} {e : Int → Int} (h : FoundOf D zs) (hl : LLay D g sq rs e) (hi : LInv D g) (hs : Sound D) (hb : BytD D) (hh : ∀ i : Nat, i < D.s.1.toNat → (headB D i = true ↔ g.st[i]? ≠ some 0)) : ∀ z ∈ zs, 1 ≤ z.seq ∧ z.seq < g.nx := fun z hz => by
 obtain ⟨i, i0, i1, i2, i3, i4⟩ := h.mem hz
 have h3 := (hh i i0).1 i1
 rw [i3, hl.scan hs hb (by omega) h3]
 exact (hl.laid i (by omega) h3).2
theorem Solo.copied {N0 p' : Nat} {D : PD} {ok : Nat → Prop} {w w' : World} (hok : ∀ k, ok k → N0 ≤ k) (hsz : N0 ≤ w.heap.size) (hD : DevIs N0 p' D (CopyOk ok w) w') (hb : Below w.heap.size w w') : Solo N0 p' (fun k => k < w.heap.size) D w' := by
 refine ⟨_, hD, fun k hk => ?_, Nat.le_trans hsz hb.size, fun k hk => ⟨Nat.lt_of_lt_of_le hk hb.size, ?_⟩⟩
 ·rcases hk with h | h
  ·omega
  ·exact hok k h.1
 ·by_cases h : CopyOk ok w k
  ·rcases h with h | ⟨_, cs, fr, e⟩
   ·have hk : k < w.heap.size := hk; omega
   ·exact .inr ⟨cs, fr, (hb.block k hk).trans e⟩
  ·exact .inl h
theorem below_kept {N0 : Nat} {w w1 w2 : World} (hb : Below w.heap.size w w1) (hk : Kept (fun k => k < w.heap.size) w1 w2) (hb2 : Below N0 w1 w2) : Below w.heap.size w w2 :=
 ⟨hb2.os.trans hb.os, hb2.tape.trans hb.tape, hb2.output.trans hb.output, Nat.le_trans hb.size hb2.size, fun k hlt => (hk k hlt).trans (hb.block k hlt)⟩
theorem ref_row {N0 x : Nat} {s : Int × Int × Int} {ps : List Pg} {ok : Nat → Prop} {w : World} (h : RefIs N0 x s ps ok w) : ∃ A c, w.cell? ⟨x, 3, none⟩ = some (.slice A ps.length c) := by
 obtain ⟨_, _, v, hx, hR⟩ := h
 obtain ⟨A, c, rfl⟩ := Kd.R_slice hR
 exact ⟨A, c, bcell hx 3⟩
end Go.Proofs.YtmbiebdcnadhkaaGreat.Fl
namespace Go.Proofs.YtmbiebdcnadhkaaGreat.Fl
open Go.RowKit Go.Proofs.YtmbiebdcnadhkaaGreatW.PrintWords Go.Proofs.YtmbiebdcnadhkaaGreatW.PrintMore Go.Maps
section
variable {N0 p : Nat} {D : PD} {w : World} {ok : Nat → Prop}
set_option maxHeartbeats 4000000 in
set_option maxRecDepth 100000 in
theorem ScUsed_any (hD : DevIs N0 p D ok w) : Calls Tryz.prog 39 #[.pointer (some ⟨p, 0, none⟩)] w fun e w' => e = .returned (.int .i64 (usedN D D.s.2.1.toNat D.s.1.toNat : Int)) ∧ Below w.heap.size w w' := by
 have hs := hD.sound.sh
 obtain ⟨n, hn⟩ := Int.eq_ofNat_of_zero_le (show 0 ≤ D.s.1 by have := hs.a0; omega)
 obtain ⟨m, hm⟩ := Int.eq_ofNat_of_zero_le (show 0 ≤ D.s.2.1 by have := hs.b0; omega)
 have n2 : n ≤ 16 := by have := hs.a1; omega
 have m2 : m ≤ 64 := by have := hs.b1; omega
 have hus := fun (X : World) (hX : Below w.heap.size w X) (a b : Int) => Used_any (hD.below hX) a b
 have hsh := Shape_any hD
 have hle := fun a => usedN_le D m2 a
 have hlr := fun a b => usedR_le D a b
 rw [hn, hm] at hsh
 have rs := fun (X : World) => run_shape1 X (n : Int) (m : Int) D.s.2.2
 have HUS := Lib.hid hus
 have HSH := Lib.hid hsh
 have HLE := Lib.hid hle
 have HLR := Lib.hid hlr
 rw [hn, hm, Int.toNat_natCast, Int.toNat_natCast]
 clear hD hs hus hsh hn hm hle hlr
 go_enter Tryz.func39, Tryz.ntmps39
 go_wp2_with (first
  | (rw [← HW1.out])
  | (go_at_call 58; (with_reducible refine HSH.out.mono ?_); rintro e w1 ⟨rfl, hb⟩; obtain ⟨W1, hW1⟩ : ∃ W1, W1 = w1.alloc (.cells #[.int .i64 (n : Int), .int .i64 (m : Int), .int .i64 D.s.2.2] 23) := ⟨_, rfl⟩; have t1 : W1.heap[w1.heap.size]? = some (.cells #[.int .i64 (n : Int), .int .i64 (m : Int), .int .i64 D.s.2.2] 23 (0, 0)) := (by rw [hW1]; exact blk_new _ _); have c0 : W1.cell? ⟨w1.heap.size, 0, none⟩ = some (.int .i64 (n : Int)) := bcell t1 0; have hbx := (show ∀ V : World, Below W1.heap.size W1 V → V.cell? ⟨w1.heap.size, 1, none⟩ = some (.int .i64 (m : Int)) from fun V hV => bcell ((hV.block w1.heap.size (blt t1)).trans t1) 1); have HBX := Lib.hid hbx; have HB1 := Aside0.mk (show Below w.heap.size w W1 from by rw [hW1]; exact below_alloc hb _); have HW1 := Lib.hid hW1; clear hb hW1 t1 hbx)
  | fail)
 go_loopw [3, 11] (fun v3 v11 wr => ∃ (k : Nat), k ≤ n ∧ v11 = .int .i64 (k : Int) ∧ v3 = .int .i64 (usedN D m k : Int) ∧ Below W1.heap.size W1 wr) (fun _ v11 _ => n - (intOf v11).toNat)
 case atStart => exact ⟨0, Nat.zero_le _, rfl, rfl, Below.refl _ _⟩
 case round =>
  obtain ⟨k, hk, rfl, rfl, hb⟩ := hrel
  have hle := HLE.out k
  obtain ⟨u, hu⟩ : ∃ u, u = usedN D m k := ⟨_, rfl⟩
  rw [← hu] at hle ⊢
  have HU := Lib.hid hu
  have c1 := HBX.out wr hb
  have HB := Aside0.mk hb
  clear hb hu
  by_cases hlt : k < n
  ·have q1 : (k : Int) < (n : Int) := by omega
   go_wp2
   go_loopw [3, 16] (fun v3 v16 wr' => ∃ (j : Nat), j ≤ m ∧ v16 = .int .i64 (j : Int) ∧ v3 = .int .i64 ((u + usedR D (k : Int) j : Nat) : Int) ∧ Below W1.heap.size W1 wr') (fun _ v16 _ => m - (intOf v16).toNat)
   case atStart => exact ⟨0, Nat.zero_le _, rfl, rfl, HB.out⟩
   case round =>
    obtain ⟨j, hj, rfl, rfl, hb2⟩ := hrel
    have hlr := HLR.out (k : Int) j
    obtain ⟨x, hx⟩ : ∃ x, x = u + usedR D (k : Int) j := ⟨_, rfl⟩
    rw [← hx]
    have hx2 : x ≤ 2000 := by omega
    have HX := Lib.hid hx
    have HB2 := Aside0.mk hb2
    have huw := HUS.out wr (HB1.out.trans (hb2.mono HB1.out.size)) (k : Int) (j : Int)
    clear hb2 hx hlr
    by_cases hlj : j < m
    ·have q2 : (j : Int) < (m : Int) := by omega
     cases hub : usedB D (k : Int) (j : Int) with
     | true =>
      rw [hub] at huw
      have HUW := Lib.hid huw
      have HUB := Lib.hid hub
      clear huw hub
      go_wp2_with (first
       | (go_at_call 63; (with_reducible refine HUW.out.mono ?_); rintro e w4 ⟨rfl, rfl⟩)
       | fail)
      exact ⟨⟨j + 1, by omega, by go_num, by rw [usedR, if_pos HUB.out, HX.out]; go_num, HB2.out⟩, by simp [intOf]; omega⟩
     | false =>
      rw [hub] at huw
      have HUW := Lib.hid huw
      have HUB := Lib.hid hub
      clear huw hub
      go_wp2_with (first
       | (go_at_call 63; (with_reducible refine HUW.out.mono ?_); rintro e w4 ⟨rfl, rfl⟩)
       | fail)
      exact ⟨⟨j + 1, by omega, by go_num, by rw [usedR, if_neg (by rw [HUB.out]; decide), HX.out]; rfl, HB2.out⟩, by simp [intOf]; omega⟩
    ·obtain rfl : j = m := by omega
     go_wp2
     exact ⟨⟨k + 1, by omega, by go_num, by rw [usedN, ← HU.out, HX.out], HB2.out⟩, by simp [intOf]; omega⟩
  ·obtain rfl : k = n := by omega
   go_wp2
   go_ret
   exact ⟨by rw [HU.out]; rfl, HB1.out.trans (HB.out.mono HB1.out.size)⟩
end
end Go.Proofs.YtmbiebdcnadhkaaGreat.Fl
namespace Go.Proofs.YtmbiebdcnadhkaaGreat.Fl
open Go.RowKit Go.Proofs.YtmbiebdcnadhkaaGreatW.PrintWords Go.Proofs.YtmbiebdcnadhkaaGreatW.PrintMore Go.Maps
structure Mkd (D : PD) (g : LG) (ps : List Pg) : Prop where
 sim : Sim D D.s ps
 inv : LInv D g
 bytP : BytP ps
 byt : BytD D
 len : ps.length < 1000000
 st : StOk g
 dist : DistS D
 hd : ∀ i : Nat, i < D.s.1.toNat → (headB D i = true ↔ g.st[i]? ≠ some 0)
 nx : g.nx < 100000
 sq : ∀ zs, FoundOf D zs → ∀ z ∈ zs, 1 ≤ z.seq ∧ z.seq < g.nx
 sound : Sound D
theorem Mkd.of {s : Int × Int × Int} {D : PD} {g : LG} {ps : List Pg} {k : Nat} (hsh : ShapeOk s) (hd : Deeds s k D g ps) (hs : Sound D) (hk : k ≤ 100) : Mkd D g ps := by
 obtain ⟨h1, h2, h3, h4, h5⟩ := hd.keep hsh (by omega)
 obtain ⟨sq, rs, e, hl⟩ := hd.lay hsh (by omega)
 have hsim := h1
 obtain rfl := h1.sh
 have hb := hsim.byt h3
 obtain ⟨h6, h7⟩ := hl.dist h2 hs hb
 exact ⟨hsim, h2, h3, hb, by omega, hd.st, h6, h7, by omega, fun zs hz => hz.maxlt hl h2 hs hb h7, hs⟩
theorem scanD_bd {D : PD} {ps : List Pg} (h : Sim D D.s ps) (a : Int) : (scanD D a).2.1.length ≤ 64 ∧ ∀ e ∈ (scanD D a).2.1, e.data.length < 1000000 := by
 rw [h.scan]
 exact scanP_bd _ _ _
section
variable {K : Nat → Prop} {N0 : Nat} {P : Pl} {D : PD} {g : LG} {ps : List Pg} {gr : LG} {X : World} {zs : List (FV En)}
theorem Mkd.joinLen (h : Mkd D g ps) (hz : FoundOf D zs) : (joinL zs).length ≤ 1000000 ∧ ∀ e ∈ joinL zs, e.data.length < 1000000 := by
 constructor
 ·have h1 := joinL_len hz.small
  have h2 := hz.len h.sound.sh
  omega
 ·intro e he
  unfold joinL at he
  rw [List.mem_flatMap] at he
  obtain ⟨z, hz1, hz2⟩ := he
  obtain ⟨i, _, _, _, _, i4⟩ := hz.mem hz1
  rw [i4] at hz2
  exact (scanD_bd h.sim _).2 e hz2
theorem Mkd.joinAll (h : Mkd D g ps) (hz : FoundOf D zs) : (allF (fun i => if i < D.s.1.toNat then scanD D (i : Int) else (0, [], false)) D.s.1.toNat D.s.1.toNat).2 = joinL zs :=
 allF_all hz h.dist rfl (fun i hi => if_pos hi) (fun i hi => by rw [if_neg (by omega)])
theorem Mkd.same (h : Mkd D g ps) {zs' : List (FV En)} (hz : FoundOf D zs) (hz' : FoundOf D zs') : joinL zs' = joinL zs := by rw [← h.joinAll hz, ← h.joinAll hz']
theorem Mkd.all (h : Mkd D g ps) (hz : FoundOf D zs) (hX : LT K N0 P D.s D g ps gr X) : Calls Tryz.prog 28 #[.pointer (some ⟨P.p, 0, none⟩)] X (JoinPost X (joinL zs)) := by
 obtain ⟨ok, hD⟩ := (two_frame _ _ _ _ _).dev hX.two
 exact (All_any hD h.byt).mono fun e w' ⟨v, zs', h1, h2, h3, h4⟩ => ⟨v, h1, by rw [← h.same hz h2]; exact h3, h4⟩
theorem Mkd.rscan (h : Mkd D g ps) (hX : LT K N0 P D.s D g ps gr X) (a : Int) : Calls Tryz.prog 40 #[.pointer (some ⟨P.x, 0, none⟩), .int .i64 a] X (ScanPost X (scanD D a)) := by
 obtain ⟨ok, hR⟩ := (two_refFrame _ _ _ _ _).ref hX.two
 have := RScan_ent hR h.sound.sh h.len h.sim.len h.bytP a
 rw [← h.sim.scan] at this
 exact this
theorem Mkd.rall (h : Mkd D g ps) (hz : FoundOf D zs) (hX : LT K N0 P D.s D g ps gr X) : Calls Tryz.prog 27 #[.pointer (some ⟨P.x, 0, none⟩)] X (JoinPost X (joinL zs)) := by
 obtain ⟨ok, hR⟩ := (two_refFrame _ _ _ _ _).ref hX.two
 rw [← h.joinAll hz]
 refine RAll_any (s := D.s) (by have := h.sound.sh.a0; omega) (by have := h.sound.sh.a1; omega) (fun i => ?_) hR (fun Y i hY hi => ?_)
 ·show (if i < D.s.1.toNat then scanD D (i : Int) else (0, [], false)).2.1.length ≤ 64
  split
  ·exact (scanD_bd h.sim _).1
  ·simp
 ·rw [if_pos hi]
  exact h.rscan (hX.below hY) _
theorem Mkd.used (h : Mkd D g ps) (hX : LT K N0 P D.s D g ps gr X) : Calls Tryz.prog 39 #[.pointer (some ⟨P.p, 0, none⟩)] X fun e w' => e = .returned (.int .i64 (ps.length : Int)) ∧ Below X.heap.size X w' := by
 obtain ⟨ok, hD⟩ := (two_frame _ _ _ _ _).dev hX.two
 have := ScUsed_any hD
 rw [h.sim.usedN] at this
 exact this
theorem Mkd.rcount (h : Mkd D g ps) (hX : LT K N0 P D.s D g ps (grOf D.s g) X) (a : Int) : Calls Tryz.prog 38 #[.pointer (some ⟨P.r, 0, none⟩), .int .i64 a] X fun e w' => e = .returned (.int .i64 (cnt a (grOf D.s g).st : Int)) ∧ Below X.heap.size X w' :=
 RCount_any hX.rlog (by have := (GSim.of D.s g).len h.inv; have := h.sound.sh.a1; omega) a
theorem LT.pages (hX : LT K N0 P D.s D g ps gr X) : ∃ A c, X.cell? ⟨P.x, 3, none⟩ = some (.slice A ps.length c) := by
 obtain ⟨ok, hR⟩ := (two_refFrame _ _ _ _ _).ref hX.two
 exact ref_row hR
end
theorem FEnt.row {b : Nat} {w : World} {a q : Int} {A : Option Addr} {c : Nat} {l : List En} (h : FEnt b w ⟨a, q, A, c, l⟩) : kEnt.R TE w b (fun k => b ≤ k) (.slice A l.length c) l := h
theorem SameRows {X : World} {A B : Option Addr} {n m c d b b' : Nat} {ok ok' : Nat → Prop} {L : List En} (h1 : kEnt.R TE X b ok (.slice A n c) L) (h2 : kEnt.R TE X b' ok' (.slice B m d) L) (hl : L.length ≤ 1000000 ∧ ∀ e ∈ L, e.data.length < 1000000) :
  Calls Tryz.prog 37 #[.slice A n c, .slice B m d] X fun r w' => r = .returned (.bool true) ∧ Below X.heap.size X w' := by
 obtain ⟨A1, c1, e1, _, r1⟩ := ERow.ofR h1
 obtain ⟨A2, c2, e2, _, r2⟩ := ERow.ofR h2
 injection e1 with e1 e3 e4
 injection e2 with e2 e5 e6
 subst e1 e3 e4 e2 e5 e6
 exact SameEntries_ok r1 r2 hl.1 hl.2
end Go.Proofs.YtmbiebdcnadhkaaGreat.Fl
namespace Go.Proofs.YtmbiebdcnadhkaaGreat.Fl
open Go.RowKit Go.Proofs.YtmbiebdcnadhkaaGreatW.PrintWords Go.Proofs.YtmbiebdcnadhkaaGreatW.PrintMore Go.Maps
set_option maxHeartbeats 8000000 in
set_option maxRecDepth 100000 in
theorem ScanReads_any {w : World} {A : Option Addr} {c : Nat} (s : Int × Int × Int) {ds : List SDeed} (hr : LRow w A ds) (h0 : ds.length ≤ 9223372036854775807) (hp : ∀ d ∈ ds, SDeedOk d) :
  Calls Tryz.prog 5 #[.agg #[.int .i64 s.1, .int .i64 s.2.1, .int .i64 s.2.2], .slice A ds.length c] w fun e w' => e = .returned (.bool true) ∧ Below w.heap.size w w' := by
 obtain ⟨n, hn⟩ : ∃ n, n = ds.length := ⟨_, rfl⟩
 obtain ⟨W, hW⟩ : ∃ W, W = w.alloc (.cells #[.int .i64 s.1, .int .i64 s.2.1, .int .i64 s.2.2] 23) := ⟨_, rfl⟩
 have q0 : W.heap[w.heap.size]? = some (.cells #[.int .i64 s.1, .int .i64 s.2.1, .int .i64 s.2.2] 23 (0, 0)) := by rw [hW]; exact blk_new w _
 have qb : Below w.heap.size w W := by rw [hW]; exact below_alloc (Below.refl _ _) _
 have hbox : ∀ V : World, Below W.heap.size W V → V.cell? ⟨w.heap.size, 0, none⟩ = some (.int .i64 s.1) ∧ V.cell? ⟨w.heap.size, 1, none⟩ = some (.int .i64 s.2.1) ∧ V.cell? ⟨w.heap.size, 2, none⟩ = some (.int .i64 s.2.2) := fun V hV => by
  have := (hV.block w.heap.size (blt q0)).trans q0
  exact ⟨bcell this 0, bcell this 1, bcell this 2⟩
 have hfew : ∀ V : World, Below W.heap.size W V → Calls Tryz.prog 20 #[.slice A n c] V fun e w' => e = .returned (.bool (fewS ds)) ∧ Below W.heap.size W w' := fun V hV => by
  rw [hn]
  exact (Few15_any ((hr.below qb).below hV) h0).mono fun e w' ⟨h1, h2⟩ => ⟨h1, hV.trans (h2.mono hV.size)⟩
 have hmade : mayB s = true → fewS ds = true → ∀ V : World, Below W.heap.size W V → Calls Tryz.prog 22 #[.agg #[.int .i64 s.1, .int .i64 s.2.1, .int .i64 s.2.2], .slice A n c] V (MadePost V s ds.length) := fun hs hf V hV => by
  rw [hn]
  exact Made15_any hs ((hr.below qb).below hV) hf hp
 have hlen : fewS ds = true → ds.length ≤ 60 := fun h => (fewS_ok h).1
 have HBOX := Lib.hid hbox
 have HFEW := Lib.hid hfew
 have HMADE := Lib.hid hmade
 have HLEN := Lib.hid hlen
 have HW := Lib.hid hW
 have QB := Aside0.mk qb
 have HN := Lib.hid hn
 rw [← hn] at h0
 rw [← hn]
 clear hr hn hp hbox hfew hmade hW q0 qb hlen
 cases hf : fewS ds with
 | false =>
  have HF := Lib.hid hf
  clear hf
  go_enter Tryz.func5, Tryz.ntmps5
  go_wp2_with fail
  rw [← HW.out]
  go_wp2_with (first
   | (go_at_call 26; (with_reducible refine (Awake16_any _).mono ?_); rintro e w1 ⟨rfl, hb⟩; have HB1 := Aside0.mk hb; clear hb)
   | (go_at_call 20; (with_reducible refine (HFEW.out _ HB1.out).mono ?_); rw [HF.out]; rintro e w2 ⟨rfl, hb⟩; obtain ⟨k1, k2, k3⟩ := HBOX.out _ hb; have HB2 := Aside0.mk hb; clear hb)
   | fail)
  go_ret
  exact ⟨rfl, QB.out.trans (HB2.out.mono QB.out.size)⟩
 | true =>
  have HF := Lib.hid hf
  clear hf
  cases hm : mayB s with
  | false =>
   have HM := Lib.hid hm
   clear hm
   go_enter Tryz.func5, Tryz.ntmps5
   go_wp2_with fail
   rw [← HW.out]
   go_wp2_with (first
    | (go_at_call 26; (with_reducible refine (Awake16_any _).mono ?_); rintro e w1 ⟨rfl, hb⟩; have HB1 := Aside0.mk hb; clear hb)
    | (go_at_call 20; (with_reducible refine (HFEW.out _ HB1.out).mono ?_); rw [HF.out]; rintro e w2 ⟨rfl, hb⟩; obtain ⟨k1, k2, k3⟩ := HBOX.out _ hb; have HB2 := Aside0.mk hb; clear hb)
    | (go_at_call 21; (with_reducible refine (May_any _ _).mono ?_); rw [HM.out]; rintro e w3 ⟨rfl, hb⟩; have HB3 := Aside0.mk (HB2.out.trans (hb.mono HB2.out.size)); clear hb)
    | fail)
   go_ret
   exact ⟨rfl, QB.out.trans (HB3.out.mono QB.out.size)⟩
  | true =>
   have hmd := HMADE.out hm HF.out
   have HMD := Lib.hid hmd
   have HM := Lib.hid hm
   have hsh : ShapeOk s := by
    unfold mayB at hm
    rw [Bool.and_eq_true] at hm
    exact shapeB_ok hm.1
   have h4 : 4 ≤ s.1 := by
    unfold mayB at hm
    rw [Bool.and_eq_true] at hm
    have := hm.2
    simp at this
    omega
   have HSH := Lib.hid hsh
   have H4 := Lib.hid h4
   clear hm hmd HMADE hsh h4
   go_enter Tryz.func5, Tryz.ntmps5
   go_wp2_with fail
   rw [← HW.out]
   go_wp2_with (first
    | (go_at_call 26; (with_reducible refine (Awake16_any _).mono ?_); rintro e w1 ⟨rfl, hb⟩; have HB1 := Aside0.mk hb; clear hb)
    | (go_at_call 20; (with_reducible refine (HFEW.out _ HB1.out).mono ?_); rw [HF.out]; rintro e w2 ⟨rfl, hb⟩; obtain ⟨k1, k2, k3⟩ := HBOX.out _ hb; have HB2 := Aside0.mk hb; clear hb)
    | (go_at_call 21; (with_reducible refine (May_any _ _).mono ?_); rw [HM.out]; rintro e w3 ⟨rfl, hb⟩; have HB3 := Aside0.mk (HB2.out.trans (hb.mono HB2.out.size)); clear hb k1 k2 k3; obtain ⟨j1, j2, j3⟩ := HBOX.out _ HB3.out)
    | (go_at_call 22; (with_reducible refine (HMD.out _ HB3.out).mono ?_); clear j1 j2 j3; rintro e w4 ⟨P, D, g, ps, rfl, hat⟩; have hmk := Mkd.of HSH.out hat.ds hat.lt.sound (by have := HLEN.out HF.out; omega); obtain rfl : D.s = s := (hat.ds.keep HSH.out (by have := HLEN.out HF.out; omega)).sim.sh; have HMK := Aside0.mk hmk; have HT4 := Aside0.mk hat.lt; have HB4 := Aside0.mk (HB3.out.trans (hat.bel.mono HB3.out.size)); clear hat hmk)
    | (go_at_call 18; (with_reducible refine (LDevice_any HT4.out.log).mono ?_); rintro e w5 ⟨rfl, rfl⟩)
    | fail)
   obtain ⟨okD, hD⟩ := (two_frame _ _ _ _ _).dev HT4.out.two
   have hsg := Segments_any hD HMK.out.byt
   have HSG := Lib.hid hsg
   clear hsg hD
   go_wp2_with (first
    | (go_at_call 36; (with_reducible refine HSG.out.mono ?_); rintro e w5 ⟨A5, c5, zs, rfl, hp, hs, hFR, hE, hb, hlo⟩; have HP := Lib.hid (show FoundOf D zs from ⟨hp, hs⟩); have HFR := Lib.hid hFR; have HE := Lib.hid hE; have HT5 := Aside0.mk (HT4.out.below hb); have HB5 := Aside0.mk (HB4.out.trans (hb.mono HB4.out.size)); have r0 := HT5.out.rlog.c0; clear hp hs hFR hE hb hlo)
    | (go_at_call 27; (with_reducible refine (HMK.out.rall HP.out HT5.out).mono ?_); clear r0; rintro e w6 ⟨v6, rfl, hR, hb⟩; obtain ⟨A6, c6, hv6⟩ := Kd.R_slice hR; have HT6 := Aside0.mk (HT5.out.below hb); have HFR6 := Lib.hid (HFR.out.below hb); have HE6 := Lib.hid (fun z hz => (HE.out z hz).below hb); have HB6 := Aside0.mk (HB5.out.trans (hb.mono HB5.out.size)); subst hv6; have HR6 := Aside0.mk hR; clear hR hb)
    | fail)
   have hzl := HP.out.len HSH.out
   obtain ⟨m, hm⟩ : ∃ m, m = zs.length := ⟨_, rfl⟩
   obtain ⟨L, hL⟩ : ∃ L, L = joinL zs := ⟨_, rfl⟩
   have hjl := HMK.out.joinLen HP.out
   have hR6 := HR6.out
   have hcn := HP.out.states HMK.out.inv HMK.out.st HMK.out.hd
   have hall := fun (X : World) (h : LT (K3 P) w3.heap.size P D.s D g ps (grOf D.s g) X) => HMK.out.all HP.out h
   rw [← hL] at hjl hR6 ⊢
   simp only [← hL] at hall
   rw [← hm] at hzl hcn ⊢
   obtain ⟨a1, ha1⟩ : ∃ a, a = cnt 1 (grOf D.s g).st := ⟨_, rfl⟩
   obtain ⟨a2, ha2⟩ : ∃ a, a = cnt 2 (grOf D.s g).st := ⟨_, rfl⟩
   have hrc := fun (X : World) (h : LT (K3 P) w3.heap.size P D.s D g ps (grOf D.s g) X) (a : Int) => HMK.out.rcount h a
   have hr1 := fun (X : World) (h : LT (K3 P) w3.heap.size P D.s D g ps (grOf D.s g) X) => hrc X h 1
   have hr2 := fun (X : World) (h : LT (K3 P) w3.heap.size P D.s D g ps (grOf D.s g) X) => hrc X h 2
   have hr0 := fun (X : World) (h : LT (K3 P) w3.heap.size P D.s D g ps (grOf D.s g) X) => hrc X h 0
   rw [← ha1, ← ha2] at hcn
   rw [← ha1] at hr1
   rw [← ha2] at hr2
   rw [hcn.2] at hr0
   have HMZ := Lib.hid hm
   have HLJ := Lib.hid hL
   have HJL := Lib.hid hjl
   have HR7 := Aside0.mk hR6
   have HALL := Lib.hid hall
   have HR1 := Lib.hid hr1
   have HR2 := Lib.hid hr2
   have HR0 := Lib.hid hr0
   have hus := fun (X : World) (h : LT (K3 P) w3.heap.size P D.s D g ps (grOf D.s g) X) => HMK.out.used h
   obtain ⟨pn, hpn⟩ : ∃ p, p = ps.length := ⟨_, rfl⟩
   have hpg := fun (X : World) (h : LT (K3 P) w3.heap.size P D.s D g ps (grOf D.s g) X) => h.pages
   rw [← hpn] at hus hpg
   have HUS := Lib.hid hus
   have HPG := Lib.hid hpg
   obtain ⟨mm, hmm⟩ : ∃ mm : Int, mm = D.s.1 - (m : Int) := ⟨_, rfl⟩
   have hc12 : IntKind.i64.wrap ((a1 : Int) + (a2 : Int)) = (m : Int) := by rw [hcn.1]; exact IntWalk.i64_in _ (by omega)
   have e_1 : ((m : Int) == (m : Int)) = true := by simp
   have e_2 : ((pn : Int) == (pn : Int)) = true := by simp
   clear hm hL hjl hR6 hall hrc hr1 hr2 hr0 ha1 ha2 hus hpg hpn hcn
   have HTD := Aside0.mk HT6.out.drew
   have HBD := Aside0.mk ((Below.refl w6.heap.size w6).drew)
   have a0 := HTD.out.rlog.c0
   obtain ⟨A9, c9, a3⟩ := HPG.out _ HTD.out
   go_region_held3 (fun w' => w'.cell? ⟨P.r, 0, none⟩ = some (.pointer (some ⟨P.x, 0, none⟩)) ∧ w'.cell? ⟨P.x, 3, none⟩ = some (.slice A9 pn c9)) (first | go_keep | exact ⟨a0, a3⟩)
    (first
     | (go_at_call 28; (with_reducible refine (HALL.out _ HTD.out).mono ?_); rintro e w7 ⟨v7, rfl, hR, hb⟩; obtain ⟨A7, c7, hv7⟩ := Kd.R_slice hR; subst hv7; have HV7 := Aside0.mk hR; have HT7 := Aside0.mk (HTD.out.below hb); have HB7 := Aside0.mk (HBD.out.trans (hb.mono HBD.out.size)); have a3' := (hb.cell (blt_of_cell a3)).trans a3; clear a0 a3; have a0 := HT7.out.rlog.c0; have a3 := a3'; clear hR hb a3')
     | (go_at_call 37; (with_reducible refine (SameRows HV7.out (Kd.R_below HR7.out HB7.out) HJL.out).mono ?_); rintro e w8 ⟨rfl, hb⟩; have HT8 := Aside0.mk (HT7.out.below hb); have HB8 := Aside0.mk (HB7.out.trans (hb.mono HB7.out.size)); have a3' := (hb.cell (blt_of_cell a3)).trans a3; clear a0 a3; have a0 := HT8.out.rlog.c0; have a3 := a3'; clear hb a3')
     | (go_at_call 38; (with_reducible refine (HR1.out _ HT8.out).mono ?_); rintro e w9 ⟨rfl, hb⟩; have HT9 := Aside0.mk (HT8.out.below hb); have HB9 := Aside0.mk (HB8.out.trans (hb.mono HB8.out.size)); have a3' := (hb.cell (blt_of_cell a3)).trans a3; clear a0 a3; have a0 := HT9.out.rlog.c0; have a3 := a3'; clear hb a3')
     | (go_at_call 38; (with_reducible refine (HR2.out _ HT9.out).mono ?_); rintro e w10 ⟨rfl, hb⟩; have HT10 := Aside0.mk (HT9.out.below hb); have HB10 := Aside0.mk (HB9.out.trans (hb.mono HB9.out.size)); have a3' := (hb.cell (blt_of_cell a3)).trans a3; clear a0 a3; have a0 := HT10.out.rlog.c0; have a3 := a3'; clear hb a3')
     | (go_at_call 39; (with_reducible refine (HUS.out _ HT10.out).mono ?_); rintro e w11 ⟨rfl, hb⟩; have HT11 := Aside0.mk (HT10.out.below hb); have HB11 := Aside0.mk (HB10.out.trans (hb.mono HB10.out.size)); have a3' := (hb.cell (blt_of_cell a3)).trans a3; clear a0 a3; have a0 := HT11.out.rlog.c0; have a3 := a3'; clear hb a3')
     | fail)
   go_wp2
   go_loopw [11, 78] (fun v11 v78 wr => ∃ (k : Nat), k ≤ m ∧ v78 = .int .i64 (k : Int) ∧ v11 = .int .u64 (maxL ((zs.take k).map (·.seq))) ∧ Below w11.heap.size w11 wr) (fun _ v78 _ => m - (intOf v78).toNat)
   case atStart => exact ⟨0, Nat.zero_le _, rfl, rfl, Below.refl _ _⟩
   case round =>
    obtain ⟨k, hk, rfl, rfl, hb⟩ := hrel
    obtain ⟨M, hM⟩ : ∃ M, M = maxL ((zs.take k).map (·.seq)) := ⟨_, rfl⟩
    rw [← hM]
    have HMM := Lib.hid hM
    have HB := Aside0.mk hb
    have HT := Aside0.mk (HT11.out.below hb)
    have HC6 := Aside0.mk (HB11.out.trans (hb.mono HB11.out.size))
    clear hb hM a0 a3
    by_cases hlt : k < m
    ·obtain ⟨z, hz⟩ : ∃ z, zs[k]? = some z := ⟨_, List.getElem?_eq_getElem (by have := HMZ.out; omega)⟩
     obtain ⟨g1, hA, hc⟩ := (HFR6.out.below HC6.out) k z hz
     subst hA
     have d0 := hc.c0; have d1 := hc.c1; have d2 := hc.c2
     obtain ⟨i, i0, i1, i2, i3, i4⟩ := HP.out.mem (List.mem_of_getElem? hz)
     have hze := (HE6.out z (List.mem_of_getElem? hz)).below HC6.out
     have hprev : ∀ j y, zs[j]? = some y → j < k → y.seq < z.seq := fun j y hy hjk => by
      have h1 := List.pairwise_iff_getElem.1 (HP.out.strict HMK.out.dist) j k (List.getElem?_eq_some_iff.1 hy).1 (List.getElem?_eq_some_iff.1 hz).1 hjk
      rw [(List.getElem?_eq_some_iff.1 hy).2, (List.getElem?_eq_some_iff.1 hz).2] at h1
      exact h1
     have hnx : maxL ((zs.take (k + 1)).map (·.seq)) = if M < z.seq then z.seq else M := by
      rw [List.take_add_one, hz, List.map_append, HMM.out]
      exact maxL_snoc _ _
     have hjl := fun e he => (scanD_bd HMK.out.sim (i : Int)).2 e he
     have hjl2 := (scanD_bd HMK.out.sim (i : Int)).1
     obtain ⟨zseg, zseq, zA, zc, zl⟩ := z
     simp only at i2 i3 i4 hprev hnx d0 d1 d2 hze
     rw [← i4] at hjl hjl2
     have hsc := fun (X : World) (h : LT (K3 P) w3.heap.size P D.s D g ps (grOf D.s g) X) => HMK.out.rscan h (i : Int)
     rw [show scanD D (i : Int) = (zseq, zl, true) from by rw [i3, i4, ← show headB D i = true from i1]; rfl] at hsc
     rw [← i2] at hsc
     have HSC := Lib.hid hsc
     have HJZ := Lib.hid (show zl.length ≤ 1000000 ∧ ∀ e ∈ zl, e.data.length < 1000000 from ⟨by omega, hjl⟩)
     obtain ⟨M2, hM2⟩ : ∃ M2, M2 = maxL ((zs.take (k + 1)).map (·.seq)) := ⟨_, rfl⟩
     rw [← hM2] at hnx
     have HM2 := Lib.hid hM2
     have emx : (if M < zseq then zseq else M) = M2 := hnx.symm
     have emx2 : max M zseq = M2 := by rw [hnx]; split <;> omega
     obtain ⟨Y, hY⟩ : ∃ Y, Y = wr.alloc (.cells #[.int .i64 zseg, .int .u64 zseq, .slice zA zl.length zc] TFo) := ⟨_, rfl⟩
     have y0 : Y.heap[wr.heap.size]? = some (.cells #[.int .i64 zseg, .int .u64 zseq, .slice zA zl.length zc] TFo (0, 0)) := by rw [hY]; exact blk_new wr _
     have yb : Below wr.heap.size wr Y := by rw [hY]; exact below_alloc (Below.refl _ _) _
     have hyc : ∀ V : World, Below Y.heap.size Y V → V.cell? ⟨wr.heap.size, 0, none⟩ = some (.int .i64 zseg) ∧ V.cell? ⟨wr.heap.size, 1, none⟩ = some (.int .u64 zseq) ∧ V.cell? ⟨wr.heap.size, 2, none⟩ = some (.slice zA zl.length zc) := fun V hV => by
      have := (hV.block wr.heap.size (blt y0)).trans y0
      exact ⟨bcell this 0, bcell this 1, bcell this 2⟩
     have HTY := Aside0.mk (HT.out.below yb)
     have HZE := Aside0.mk (hze.below yb)
     have YB := Aside0.mk (HB.out.trans (yb.mono HB.out.size))
     have HFRY := Lib.hid (HFR6.out.below (HC6.out.trans (yb.mono HC6.out.size)))
     have HYC := Lib.hid hyc
     have HY := Lib.hid hY
     have HPV := Lib.hid hprev
     have k0 : (0 : Int) ≤ (k : Int) := by omega
     have k2 : (k : Int) < (m : Int) := by omega
     have e_q : (zseq == zseq) = true := by simp
     clear hz hc hY y0 yb hze i0 i1 i2 i3 i4 hjl hjl2 hprev hnx hM2 hsc hyc i
     go_wp2_with (first
      | (rw [← HY.out])
      | fail)
     have HYD := Aside0.mk ((Below.refl Y.heap.size Y).drew)
     have HTD2 := Aside0.mk HTY.out.drew
     have b0 := HTD2.out.rlog.c0
     obtain ⟨f0, f1, f2⟩ := HYC.out _ HYD.out
     clear d0 d1 d2
     go_region_held3 (fun w' => w'.cell? ⟨P.r, 0, none⟩ = some (.pointer (some ⟨P.x, 0, none⟩)) ∧ w'.cell? ⟨wr.heap.size, 0, none⟩ = some (.int .i64 zseg)) (first | go_keep | exact ⟨b0, f0⟩)
      (first
       | (go_at_call 40; (with_reducible refine (HSC.out _ HTD2.out).mono ?_); rintro e z1 ⟨v1, rfl, hR, hb⟩; obtain ⟨A1, c1, hv1⟩ := Kd.R_slice hR; subst hv1; have HV1 := Aside0.mk hR; have HT1 := Aside0.mk (HTD2.out.below hb); have HZ1 := Aside0.mk (HYD.out.trans (hb.mono HYD.out.size)); clear b0 f0 f1 f2; have b0 := HT1.out.rlog.c0; obtain ⟨f0, f1, f2⟩ := HYC.out _ HZ1.out; clear hR hb)
       | fail)
     have HZD := Aside0.mk HZ1.out.drew
     have HTZ := Aside0.mk HT1.out.drew
     have HV2 := Aside0.mk (Kd.R_below HV1.out ((Below.refl z1.heap.size z1).drew))
     have HZE2 := Aside0.mk (HZE.out.below HZD.out)
     clear b0 f0 f1 f2
     obtain ⟨f0, f1, f2⟩ := HYC.out _ HZD.out
     go_wp2_with fail
     by_cases hk0 : k = 0
     ·subst hk0
      refine wp_region_held_drew (S := (fun w' => w'.cell? ⟨wr.heap.size, 1, none⟩ = some (.int .u64 zseq) ∧ w'.cell? ⟨wr.heap.size, 2, none⟩ = some (.slice zA zl.length zc))) (by kernel_rfl) ?_ (fun hHeld => ?_)
      ·(first | go_keep | exact ⟨f1, f2⟩)
      first | refine tkY 0 ?_ | refine tkN 0 ?_
      try simp only [Act.put, tk1, tk2, tk3]
      first | refine tkY 1 ?_ | refine tkN 1 ?_
      try simp only [Act.put, tk1, tk2, tk3]
      first | refine tkY 2 ?_ | refine tkN 2 ?_
      try simp only [Act.put, tk1, tk2, tk3]
      first | refine tkY 3 ?_ | refine tkN 3 ?_
      try simp only [Act.put, tk1, tk2, tk3]
      first | refine tkY 4 ?_ | refine tkN 4 ?_
      try simp only [Act.put, tk1, tk2, tk3]
      first | refine tkY 5 ?_ | refine tkN 5 ?_
      try simp only [Act.put, tk1, tk2, tk3]
      first | refine tkY 6 ?_ | refine tkN 6 ?_
      try simp only [Act.put, tk1, tk2, tk3]
      first | refine tkY 7 ?_ | refine tkN 7 ?_
      try simp only [Act.put, tk1, tk2, tk3]
      first | refine tkY 8 ?_ | refine tkN 8 ?_
      try simp only [Act.put, tk1, tk2, tk3]
      first | refine tkY 9 ?_ | refine tkN 9 ?_
      try simp only [Act.put, tk1, tk2, tk3]
      first | refine tkY 10 ?_ | refine tkN 10 ?_
      try simp only [Act.put, tk1, tk2, tk3]
      first | refine tkY 11 ?_ | refine tkN 11 ?_
      try simp only [Act.put, tk1, tk2, tk3]
      refine wpAnyH_ready (rs := [12]) (by kernel_rfl) (by simp) ?_
      refine AllReadyH.cons (by (simp only [List.getElem?_toArray, List.getElem?_cons_succ, List.getElem?_cons_zero]; rfl)) (fun K hK => ?_) AllReadyH.nil
      go_simp
      ((go_at_call 37; (with_reducible refine (SameRows HZE2.out.row HV2.out HJZ.out).mono ?_); rintro e z2 ⟨rfl, hb⟩; have HT2 := Aside0.mk (HTZ.out.below hb); have HZ2 := Aside0.mk (HZD.out.trans (hb.mono HZD.out.size)); clear f0 f1 f2; obtain ⟨f0, f1, f2⟩ := HYC.out _ HZ2.out; clear hb))
      (try dsimp only)
      refine hK.out _ _ ?_ (fun hHeld => ?_)
      ·(first | go_keep | exact ⟨f1, f2⟩)
      clear hK K
      try simp only [Act.put, tk1, tk2, tk3]
      first | refine tkY 13 ?_ | refine tkN 13 ?_
      try simp only [Act.put, tk1, tk2, tk3]
      first | refine tkY 14 ?_ | refine tkN 14 ?_
      try simp only [Act.put, tk1, tk2, tk3]
      first | refine tkY 15 ?_ | refine tkN 15 ?_
      try simp only [Act.put, tk1, tk2, tk3]
      first | refine tkY 16 ?_ | refine tkN 16 ?_
      try simp only [Act.put, tk1, tk2, tk3]
      first | refine tkY 17 ?_ | refine tkN 17 ?_
      try simp only [Act.put, tk1, tk2, tk3]
      first | refine tkY 18 ?_ | refine tkN 18 ?_
      try simp only [Act.put, tk1, tk2, tk3]
      first | refine tkY 19 ?_ | refine tkN 19 ?_
      try simp only [Act.put, tk1, tk2, tk3]
      first | refine tkY 20 ?_ | refine tkN 20 ?_
      try simp only [Act.put, tk1, tk2, tk3]
      first | refine tkY 21 ?_ | refine tkN 21 ?_
      try simp only [Act.put, tk1, tk2, tk3]
      first | refine tkY 22 ?_ | refine tkN 22 ?_
      try simp only [Act.put, tk1, tk2, tk3]
      first | refine tkY 23 ?_ | refine tkN 23 ?_
      try simp only [Act.put, tk1, tk2, tk3]
      first | refine tkY 24 ?_ | refine tkN 24 ?_
      try simp only [Act.put, tk1, tk2, tk3]
      first | refine tkY 25 ?_ | refine tkN 25 ?_
      try simp only [Act.put, tk1, tk2, tk3]
      first | refine tkY 26 ?_ | refine tkN 26 ?_
      try simp only [Act.put, tk1, tk2, tk3]
      first | refine tkY 27 ?_ | refine tkN 27 ?_
      try simp only [Act.put, tk1, tk2, tk3]
      first | refine tkY 28 ?_ | refine tkN 28 ?_
      try simp only [Act.put, tk1, tk2, tk3]
      first | refine tkY 29 ?_ | refine tkN 29 ?_
      try simp only [Act.put, tk1, tk2, tk3]
      refine wpAnyH_done (by kernel_rfl) ?_ _
      go_wp2
      exact ⟨⟨0 + 1, by omega, by go_num, by rw [HM2.out], YB.out.trans (HZ2.out.mono YB.out.size)⟩, by simp [intOf]; omega⟩
     ·obtain ⟨j, hj⟩ : ∃ j, k = j + 1 := ⟨k - 1, by omega⟩
      obtain ⟨y, hy⟩ : ∃ y, zs[j]? = some y := ⟨_, List.getElem?_eq_getElem (by have := HMZ.out; omega)⟩
      have hlt2 := HPV.out j y hy (by omega)
      obtain ⟨g2, hg2, hcy⟩ := (HFRY.out.below HZD.out) j y hy
      injection hg2 with hg2
      injection hg2 with hg2
      subst hg2
      have f4 := hcy.c1
      obtain ⟨yq, hyq⟩ : ∃ q, q = y.seq := ⟨_, rfl⟩
      rw [← hyq] at f4 hlt2
      have e_g : decide ((k : Int) > 0) = true := decide_eq_true (by omega)
      have e_g2 : decide ((0 : Int) < (k : Int)) = true := decide_eq_true (by omega)
      have e_g3 : decide (0 < k) = true := decide_eq_true (by omega)
      have e_g4 : 0 < k := by omega
      have e_g5 : (0 : Int) < (k : Int) := by omega
      have e_s : IntKind.i64.wrap ((k : Int) - 1) = (j : Int) := by
       have : (k : Int) - 1 = (j : Int) := by omega
       rw [this]
       exact IntWalk.i64_in _ (by omega)
      have e_ge : decide (yq ≥ zseq) = false := decide_eq_false (by omega)
      have j0 : (0 : Int) ≤ (j : Int) := by omega
      have j2 : (j : Int) < (m : Int) := by omega
      clear hk0 hj hy hlt2 hcy hyq
      go_region_held3 (fun w' => w'.cell? ⟨wr.heap.size, 1, none⟩ = some (.int .u64 zseq) ∧ w'.cell? ⟨wr.heap.size, 2, none⟩ = some (.slice zA zl.length zc) ∧ w'.cell? ⟨g1, j * 3 + 1, none⟩ = some (.int .u64 yq)) (first | go_keep | exact ⟨f1, f2, f4⟩)
       (first
        | (go_at_call 37; (with_reducible refine (SameRows HZE2.out.row HV2.out HJZ.out).mono ?_); rintro e z2 ⟨rfl, hb⟩; have HT2 := Aside0.mk (HTZ.out.below hb); have f4' := (hb.cell (blt_of_cell f4)).trans f4; have HZ2 := Aside0.mk (HZD.out.trans (hb.mono HZD.out.size)); clear f0 f1 f2 f4; obtain ⟨f0, f1, f2⟩ := HYC.out _ HZ2.out; have f4 := f4'; clear hb f4')
        | fail)
      go_wp2
      exact ⟨⟨k + 1, by omega, by go_num, by rw [HM2.out], YB.out.trans (HZ2.out.mono YB.out.size)⟩, by simp [intOf]; omega⟩
    ·obtain rfl : k = m := by omega
     have htk : zs.take k = zs := List.take_of_length_le (by have := HMZ.out; omega)
     have hMM := HMM.out
     rw [htk] at hMM
     have hM0 : 0 ≤ M ∧ M < 100000 := by
      have h1 := HMK.out.nx
      have h2 := HMK.out.inv.nx
      rcases maxL_in (zs.map (·.seq)) with e | e
      ·omega
      ·obtain ⟨z, hz, hze⟩ := List.mem_map.1 e
       have h3 := HMK.out.sq zs HP.out z hz
       omega
     have hnv : nextV (zs.map (·.seq)) = M + 1 := by
      unfold nextV
      rw [← hMM, if_neg (by omega)]
     have em : IntKind.u64.wrap (M + 1) = M + 1 := IntWalk.u64_in _ (by omega)
     have e_m : (M + 1 == M + 1) = true := by simp
     have hdl : D.dirty.length < 1000000 := by
      rw [HMK.out.sim.dirty, List.length_map]
      exact Nat.lt_of_le_of_lt (List.length_filter_le _ _) HMK.out.len
     have hcp : Calls Tryz.prog 41 #[.pointer (some ⟨P.p, 0, none⟩)] wr fun e w' => ∃ p', e = .returned (.pointer (some ⟨p', 0, none⟩)) ∧ Solo w3.heap.size p' (fun k => k < wr.heap.size) D w' ∧ Below wr.heap.size wr w' := by
      obtain ⟨okD, okX, hD, hX, hdis, hlo, _⟩ := HT.out.two
      exact (Copy_any hD hdl).mono fun e w' ⟨p', h1, h2, h3, h4⟩ => ⟨p', h1, Solo.copied hlo HT.out.size h3 h4, h4⟩
     have hnx := fun (X : World) (hX : Below wr.heap.size wr X) => Next_any (c := c5) (HFR6.out.below (HC6.out.trans (hX.mono HC6.out.size))) (by have := HMZ.out; omega) (HP.out.seqs HMK.out.byt)
     simp only [hnv, ← HMZ.out] at hnx
     have HCP := Lib.hid hcp
     have HDL := Lib.hid hdl
     have HNV := Lib.hid hnv
     have HNX := Lib.hid hnx
     clear htk hMM hM0 hnv hdl hcp hnx
     go_wp2_with (first
      | (go_at_call 41; (with_reducible refine HCP.out.mono ?_); rintro e z3 ⟨p', rfl, hS, hb⟩; have HS3 := Aside0.mk hS; have HZ3 := Aside0.mk hb; clear hS hb)
      | (go_at_call 33; (with_reducible refine (Recover_F (solo_frame _ _) HS3.out HMK.out.byt H4.out HDL.out).mono ?_); rintro e z4 ⟨q4, v4, zs2, rfl, hf, hS, hl, hR, hb, hk⟩; (rw [HMK.out.same HP.out hf, ← HLJ.out] at hR); obtain ⟨A4, c4, hv4⟩ := Kd.R_slice hR; subst hv4; have HF4 := Lib.hid hf; have HS4 := Aside0.mk hS; (rw [HP.out.next hf HMK.out.byt, HNV.out] at hl); have HL4 := Aside0.mk hl; have HR4 := Aside0.mk hR; have HZ4 := Aside0.mk (below_kept HZ3.out hk hb); clear hf hS hl hR hb hk)
      | fail)
     have hn2 : zs2.length = k := by rw [HF4.out.num, ← HP.out.num, HMZ.out]
     have hct := HF4.out.counts HSH.out (M + 1)
     rw [hn2] at hct
     obtain ⟨g9, hg9⟩ : ∃ g, g = loadG (zs2.map (·.seg)) D.s.1.toNat (M + 1) := ⟨_, rfl⟩
     rw [← hg9] at hct
     have hl9 := HL4.out
     rw [← hg9] at hl9
     have hgn : g9.nx = M + 1 := by rw [hg9]; rfl
     have hcn := fun (X : World) (hX : Below z4.heap.size z4 X) (a v : Int) (hv : (cnt a (g9.st.take D.s.1.toNat) : Int) = v) => (show Calls Tryz.prog 15 #[.pointer (some ⟨q4, 0, none⟩), .int .i64 a] X fun e w' => e = .returned (.int .i64 v) ∧ Below X.heap.size X w' from by
      obtain ⟨ok, hD⟩ := (solo_frame _ _).dev HS4.out
      have := LCount_any (hl9.below hX) (hD.below hX) a
      rw [recD_s, hv] at this
      exact this)
     have hc2 := fun (X : World) (hX : Below z4.heap.size z4 X) => hcn X hX 2 (k : Int) (by rw [hct.1])
     have hc0 := fun (X : World) (hX : Below z4.heap.size z4 X) => hcn X hX 0 (D.s.1 - (k : Int)) hct.2.1
     have hnxt := fun (X : World) (hX : Below z4.heap.size z4 X) => LNext_any (hl9.below hX)
     simp only [hgn] at hnxt
     have HC2 := Lib.hid hc2
     have HC0 := Lib.hid hc0
     have HNT := Lib.hid hnxt
     have e_d : (D.s.1 - (k : Int) == D.s.1 - (k : Int)) = true := by simp
     have HT4b := Aside0.mk (HT.out.below HZ4.out)
     have HZ4b := Aside0.mk (HC6.out.trans (HZ4.out.mono HC6.out.size))
     clear hn2 hct hg9 hl9 hgn hcn hc2 hc0 hnxt
     go_wp2_with (first
      | (go_at_call 42; (with_reducible refine (HNX.out _ HZ4.out).mono ?_); rintro e z5 ⟨rfl, hb⟩; have HZ5 := Aside0.mk hb; clear hb)
      | (go_at_call 16; (with_reducible refine (HNT.out _ HZ5.out).mono ?_); rintro e z6 ⟨rfl, rfl⟩)
      | (go_at_call 37; (with_reducible refine (SameRows (Kd.R_below HR4.out HZ5.out) (Kd.R_below HR7.out (HZ4b.out.trans (HZ5.out.mono HZ4b.out.size))) HJL.out).mono ?_); rintro e z7 ⟨rfl, hb⟩; have HZ7 := Aside0.mk (HZ5.out.trans (hb.mono HZ5.out.size)); clear hb)
      | (go_at_call 15; (with_reducible refine (HC0.out _ HZ7.out).mono ?_); rintro e z8 ⟨rfl, hb⟩; have HZ8 := Aside0.mk (HZ7.out.trans (hb.mono HZ7.out.size)); clear hb)
      | (go_at_call 38; (with_reducible refine (HR0.out _ (HT4b.out.below HZ8.out)).mono ?_); rintro e z9 ⟨rfl, hb⟩; have HZ9 := Aside0.mk (HZ8.out.trans (hb.mono HZ8.out.size)); clear hb)
      | (go_at_call 15; (with_reducible refine (HC2.out _ HZ9.out).mono ?_); rintro e z10 ⟨rfl, hb⟩; have HZ10 := Aside0.mk (HZ9.out.trans (hb.mono HZ9.out.size)); clear hb)
      | fail)
     go_ret
     have hfin := HC6.out.trans ((HZ4.out.trans (HZ10.out.mono HZ4.out.size)).mono HC6.out.size)
     exact ⟨rfl, QB.out.trans ((HB6.out.trans (hfin.mono HB6.out.size)).mono QB.out.size)⟩
end Go.Proofs.YtmbiebdcnadhkaaGreat.Fl
namespace Go.Proofs.YtmbiebdcnadhkaaGreat.Fl
open Go.RowKit Go.Proofs.YtmbiebdcnadhkaaGreatW.PrintWords
theorem scan_reads_walk (a b c : Int) (A : Option Addr) (d : Nat) (ds : List SDeed) (W : World) (_ : (Lit.int .i64 a).wf = true) (_ : (Lit.int .i64 b).wf = true) (_ : (Lit.int .i64 c).wf = true) (hr : LRow W A ds) (h0 : ds.length ≤ 9223372036854775807) (hp : ∀ d ∈ ds, SDeedOk d) :
  Calls Tryz.prog 5 #[.agg #[.int .i64 a, .int .i64 b, .int .i64 c], .slice A ds.length d] W fun e w' => e = .returned (.bool true) ∧ Below W.heap.size W w' := ScanReads_any (a, b, c) hr h0 hp
end Go.Proofs.YtmbiebdcnadhkaaGreat.Fl
