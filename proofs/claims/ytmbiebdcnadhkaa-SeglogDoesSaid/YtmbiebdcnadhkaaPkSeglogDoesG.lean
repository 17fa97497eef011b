/- The parts of this proof, one after the other (wip/tools/packfl.py). -/
import Derived.Test.YtmbiebdcnadhkaaPkSeglogDoesF
import Derived.Test.YtmbiebdcnadhkaaPkSeglogDoesB
import Derived.Deep.Slices
import Derived.Test.YtmbiebdcnadhkaaPkSeglogDoesD
/- How a slice of deeds is opened. -/
namespace Go.Proofs.Ytmbiebdcnadhkaa.Fl
open Go.ChangeShapes Go.WideShapes Go.ChangeAt Go.RowKit Go.Joins Go.Deep Go.Proofs.YtmbiebdcnadhkaaW.PrintWords Go.Proofs.Ytmbiebdcnadhkaa.Opens
section
variable {H : Type} {enc : TypeId × Value → H} {P : Program} {w : World} {base : Nat} {spare : Nat → Bool} {held : Bool}
theorem byt_of {l : List Int} (h : ∀ x ∈ l, (Lit.int .u8 x).wf = true) : Byt l := fun x hx => by
  have h1 := h x hx
  unfold Lit.wf at h1
  rw [Bool.and_eq_true, decide_eq_true_eq, decide_eq_true_eq] at h1
  have e1 : IntKind.min .u8 = 0 := by decide
  have e2 : IntKind.max .u8 = 255 := by decide
  rw [e1, e2] at h1
  exact h1
end
end Go.Proofs.Ytmbiebdcnadhkaa.Fl

/- How a slice of records is opened. -/
namespace Go.Proofs.Ytmbiebdcnadhkaa.Fl
open Go.ChangeShapes Go.WideShapes Go.ChangeAt Go.RowKit Go.Joins Go.Deep Go.Proofs.YtmbiebdcnadhkaaW.PrintWords Go.Proofs.Ytmbiebdcnadhkaa.Opens
section
variable {H : Type} {enc : TypeId × Value → H} {P : Program} {w : World} {base : Nat} {spare : Nat → Bool} {held : Bool}
theorem kind_of {k : Int} (h : (Lit.int .u8 k).wf = true) : KindOk k := by
  unfold Lit.wf at h
  rw [Bool.and_eq_true, decide_eq_true_eq, decide_eq_true_eq] at h
  have e1 : IntKind.min .u8 = 0 := by decide
  have e2 : IntKind.max .u8 = 255 := by decide
  rw [e1, e2] at h
  exact ⟨h.1, h.2⟩
end
end Go.Proofs.Ytmbiebdcnadhkaa.Fl

/- How a slice of a log's deeds is opened. -/
namespace Go.Proofs.Ytmbiebdcnadhkaa.Fl
open Go.ChangeShapes Go.WideShapes Go.ChangeAt Go.RowKit Go.Joins Go.Deep Go.Proofs.YtmbiebdcnadhkaaW.PrintWords Go.Proofs.Ytmbiebdcnadhkaa.Opens
section
variable {H : Type} {enc : TypeId × Value → H} {P : Program} {w : World} {base : Nat} {spare : Nat → Bool} {held : Bool}
theorem sdeed_cells {e te : TypeId} {f0 f1 f2 f3 : Field} {n : Nat} {cs : List Value} {y : DataW H × List MemPlace} (he : P.underlying e = some (.struct #[f0, f1, f2, f3]))
    (o0 : f0.offset = 0) (o1 : f1.offset = 1) (o2 : f2.offset = 2) (o3 : f3.offset = 3)
    (k0 : P.cellsOf f0.type = 1) (k1 : P.cellsOf f1.type = 1) (k2 : P.cellsOf f2.type = 1) (k3 : P.cellsOf f3.type = 1)
    (u0 : P.underlying f0.type = some (.int .i64)) (u1 : P.underlying f1.type = some (.int .u8)) (u2 : P.underlying f2.type = some (.slice te)) (u3 : P.underlying f3.type = some (.int .i64)) (ue : P.underlying te = some (.int .u8)) (ke : P.cellsOf te = 1)
    (hl : cs.length = 4) (h : DataW.trod enc P w base spare held n e cs = some y) :
    ∃ (r : SDeed) (A : Option Addr) (c : Nat), cs = [.int .i64 r.kd, .int .u8 r.wh, .slice A r.l.length c, .int .i64 r.sg] ∧ kB.C w A r.l.length r.l ∧ r.l.length ≤ c ∧ SDeedOk r := by
  obtain ⟨xs, m, _, _, _, hlen, hg⟩ := DataW.trod_struct he h
  match cs, hl, xs, hlen with
  | [c0, c1, c2, c3], _, [y0, y1, y2, y3], _ =>
    have s0 : DataW.trod enc P w base spare held m f0.type [c0] = some y0 := by simpa [o0, k0] using hg 0 f0 rfl
    have s1 : DataW.trod enc P w base spare held m f1.type [c1] = some y1 := by simpa [o1, k1] using hg 1 f1 rfl
    have s2 : DataW.trod enc P w base spare held m f2.type [c2] = some y2 := by simpa [o2, k2] using hg 2 f2 rfl
    have s3 : DataW.trod enc P w base spare held m f3.type [c3] = some y3 := by simpa [o3, k3] using hg 3 f3 rfl
    obtain ⟨a0, z0, _, _⟩ := DataW.trod_int u0 s0
    obtain ⟨a1, z1, _, w1⟩ := DataW.trod_int u1 s1
    obtain ⟨A, c, l, z2, hr, hc, _, hw⟩ := cell_ints u2 ue ke s2
    obtain ⟨a3, z3, _, _⟩ := DataW.trod_int u3 s3
    refine ⟨⟨a0, a1, l, a3⟩, A, c, ?_, hr, hc, ⟨kind_of w1, byt_of hw⟩⟩
    rw [List.head_eq_of_cons_eq z0, List.head_eq_of_cons_eq z1, List.head_eq_of_cons_eq z2, List.head_eq_of_cons_eq z3]
theorem row_sdeeds {t e te : TypeId} {f0 f1 f2 f3 : Field} {A : Option Addr} {len c : Nat} {d : DataW H} {p : List MemPlace} (ht : P.underlying t = some (.slice e)) (he : P.underlying e = some (.struct #[f0, f1, f2, f3])) (hC : P.cellsOf e = 4)
    (o0 : f0.offset = 0) (o1 : f1.offset = 1) (o2 : f2.offset = 2) (o3 : f3.offset = 3)
    (k0 : P.cellsOf f0.type = 1) (k1 : P.cellsOf f1.type = 1) (k2 : P.cellsOf f2.type = 1) (k3 : P.cellsOf f3.type = 1)
    (u0 : P.underlying f0.type = some (.int .i64)) (u1 : P.underlying f1.type = some (.int .u8)) (u2 : P.underlying f2.type = some (.slice te)) (u3 : P.underlying f3.type = some (.int .i64)) (ue : P.underlying te = some (.int .u8)) (ke : P.cellsOf te = 1)
    (h : DataW.Trod enc P w base spare held t (.slice A len c) d p) : ∃ rs : List SDeed, len = rs.length ∧ LRow w A rs ∧ rs.length ≤ 9223372036854775807 ∧ ∀ r ∈ rs, SDeedOk r := by
  obtain ⟨fuel, hf⟩ := h
  rcases open_slice ht hf with ⟨hcs, _⟩ | ⟨a, len', cap, m, n, D, Pl, hcs, hb, hl, hm, hmm, _, hel⟩
  · simp [Value.cells] at hcs
    obtain ⟨rfl, rfl, rfl⟩ := hcs
    exact ⟨[], rfl, fun i d hi => by simp at hi, by simp, by simp⟩
  · simp [Value.cells] at hcs
    obtain ⟨rfl, rfl, rfl⟩ := hcs
    have hlm : len ≤ m := by rw [hmm]; split <;> omega
    have each : ∀ i, ∃ x : SDeed, i < len → SDeedOk x ∧ ∃ A1 c1, kB.C w A1 x.l.length x.l ∧ x.l.length ≤ c1 ∧ w.cells? base (a.add (i * 4)) 4 = some [.int .i64 x.kd, .int .u8 x.wh, .slice A1 x.l.length c1, .int .i64 x.sg] := by
      intro i
      by_cases hi : i < len
      · obtain ⟨cs', h1, h2⟩ := hel i (by omega)
        rw [hC] at h1
        obtain ⟨x, A1, c1, rfl, h3, h4, h5⟩ := sdeed_cells he o0 o1 o2 o3 k0 k1 k2 k3 u0 u1 u2 u3 ue ke (World.cells?_some h1).2.1 h2
        exact ⟨x, fun _ => ⟨h5, A1, c1, h3, h4, h1⟩⟩
      · exact ⟨⟨0, 0, [], 0⟩, fun h => absurd h hi⟩
    refine ⟨(List.range len).map (fun i => Classical.choose (each i)), by simp, fun i d hi => ?_, by simp; unfold maxLen at hm; omega, fun d hd => ?_⟩
    · have hil : i < len := by
        have := (List.getElem?_eq_some_iff.1 hi).1
        simpa using this
      have hx : d = Classical.choose (each i) := by simpa [hil] using hi.symm
      obtain ⟨_, A1, c1, h1, h2, h3⟩ := Classical.choose_spec (each i) hil
      rw [← hx] at h1 h2 h3
      have h3 := (World.cells?_some h3).2.2
      have g0 := h3 0 (by omega)
      refine ⟨a, A1, c1, rfl, ?_, h3 1 (by omega), h3 2 (by omega), h3 3 (by omega), h1, h2⟩
      simpa [Addr.add] using g0
    · rw [List.mem_map] at hd
      obtain ⟨i, hi, rfl⟩ := hd
      exact (Classical.choose_spec (each i) (by simpa using hi)).1
end
end Go.Proofs.Ytmbiebdcnadhkaa.Fl

/- What holds of a log between its deeds, so that what it appends always fits. No program in sight. -/
namespace Go.Proofs.Ytmbiebdcnadhkaa.Fl
set_option linter.unusedSimpArgs false
set_option linter.unusedVariables false
structure LInv (D : PD) (g : LG) : Prop where
  sh : ShapeOk D.s
  len : g.st.length = 16
  hi : g.op < D.s.1
  zero : g.op < 0 → g.op = -1 ∧ g.pg = 0
  one : 0 ≤ g.op → g.st[g.op.toNat]? = some 1 ∧ 1 ≤ g.pg ∧ g.pg ≤ D.s.2.1
  free : ∀ i : Nat, (i : Int) < D.s.1 → g.st[i]? = some 0 → ∀ b, usedB D (i : Int) b = false
  opn : 0 ≤ g.op → ∀ b, g.pg ≤ b → usedB D g.op b = false
  nx : 1 ≤ g.nx
theorem fits_iff {s : Int × Int × Int} {pg : Int} {n : Nat} (hn : n ≤ 4096) (h0 : 0 ≤ pg) (h1 : pg ≤ s.2.1) : fitsS s pg n = true ↔ pg + (kpg s n : Int) ≤ s.2.1 := by
  unfold fitsS
  rw [decide_eq_true_iff]
  constructor
  · rintro ⟨_, _, _, h⟩; omega
  · intro h; exact ⟨hn, h0, h1, by omega⟩
theorem app_ok {D : PD} {a b : Int} {n : Nat} (hs : ShapeOk D.s) (ha : 0 ≤ a) (ha1 : a < D.s.1) (hb : 0 ≤ b) (hn : n ≤ 4096) (hf : b + (kpg D.s n : Int) ≤ D.s.2.1) (hu : ∀ c, b ≤ c → usedB D a c = false) : appE D a b n = ((kpg D.s n : Int), 0) :=
  appE_one ((appE_zero a b n).2 ⟨(hasB_iff _ _ _).2 ⟨ha, ha1, hb, by have := (kpg_bd hs hn).1; omega⟩, hn, hf, anyUsedD_false (fun i _ => hu _ (by omega))⟩)
section
variable {D : PD} {g : LG} {l : List Int}
theorem LInv.fit (h : LInv D g) (ho : 0 ≤ g.op) (hn : l.length ≤ 4096) (hf : fitsS D.s g.pg l.length = true) : appE D g.op g.pg l.length = ((kpg D.s l.length : Int), 0) ∧ g.pg + (kpg D.s l.length : Int) ≤ D.s.2.1 := by
  obtain ⟨h1, h2, h3⟩ := h.one ho
  have h4 := (fits_iff hn (by omega) h3).1 hf
  exact ⟨app_ok h.sh ho h.hi (by omega) hn h4 (h.opn ho), h4⟩
theorem LInv.app (h : LInv D g) (ho : 0 ≤ g.op) (hn : l.length ≤ 4096) (hf : fitsS D.s g.pg l.length = true) (kd sq : Int) : LInv (appD D g.op g.pg l.length (Fl.rec kd sq l)) { g with pg := g.pg + (kpg D.s l.length : Int) } := by
  obtain ⟨h1, h2⟩ := h.fit ho hn hf
  obtain ⟨h3, h4, h5⟩ := h.one ho
  have h6 := app_used h.sh (kd := kd) (sq := sq) (l := l) (by rw [h1])
  have hst := appD_s D g.op g.pg l.length (Fl.rec kd sq l)
  refine ⟨by rw [hst]; exact h.sh, h.len, by rw [hst]; exact h.hi, fun h' => absurd h' (by show ¬ g.op < 0; omega), fun _ => ⟨h3, by show 1 ≤ g.pg + _; omega, by rw [hst]; exact h2⟩, fun i hi h0 b => ?_, fun _ b hb => ?_, h.nx⟩
  · rw [hst] at hi
    rw [h6, h.free i hi h0, Bool.or_false]
    refine decide_eq_false (fun hh => ?_)
    have : g.op.toNat = i := by omega
    rw [this, h0] at h3
    simp at h3
  · show usedB _ g.op b = false
    have hb2 : g.pg + (kpg D.s l.length : Int) ≤ b := hb
    rw [h6, h.opn ho b (by omega), Bool.or_false]
    exact decide_eq_false (fun hh => by omega)
theorem seal_get (g : LG) (i : Nat) : (sealG g).st[i]? = some 0 → g.st[i]? = some 0 := by
  unfold sealG
  split
  · exact id
  · intro h
    rw [List.getElem?_set] at h
    split at h
    · split at h <;> simp at h
    · exact h
theorem LInv.sealed (h : LInv D g) : LInv D (sealG g) := by
  refine ⟨h.sh, ?_, ?_, ?_, ?_, fun i hi h0 b => h.free i hi (seal_get g i h0) b, ?_, by rw [sealG_nx]; exact h.nx⟩
  · unfold sealG; split
    · exact h.len
    · simp [h.len]
  · have := h.sh.a0
    unfold sealG; split
    · exact h.hi
    · show (-1 : Int) < D.s.1; omega
  · intro h'
    by_cases h0 : g.op < 0
    · have e : sealG g = g := if_pos h0
      rw [e]; exact h.zero h0
    · have e : sealG g = { st := g.st.set g.op.toNat 2, op := -1, pg := 0, nx := g.nx } := if_neg h0
      rw [e]; exact ⟨rfl, rfl⟩
  · intro h'
    exfalso
    revert h'
    unfold sealG; split
    · omega
    · show 0 ≤ (-1 : Int) → False; omega
  · intro h'
    exfalso
    revert h'
    unfold sealG; split
    · omega
    · show 0 ≤ (-1 : Int) → False; omega
theorem LInv.start (h : LInv D g) {m : Nat} (hm : (m : Int) < D.s.1) (h0 : (sealG g).st[m]? = some 0) : appE D (m : Int) 0 0 = (1, 0) := by
  have := app_ok (n := 0) h.sh (a := (m : Int)) (b := 0) (by omega) hm (Int.le_refl _) (by omega) (by rw [kpg_zero h.sh]; have := h.sh.b0; omega) (fun c _ => h.sealed.free m hm h0 c)
  rw [this, kpg_zero h.sh]
  rfl
theorem LInv.turn (h : LInv D g) {m : Nat} (hm : (m : Int) < D.s.1) (h0 : (sealG g).st[m]? = some 0) : LInv (appD D (m : Int) 0 0 (Fl.rec 1 g.nx [])) ⟨(sealG g).st.set m 1, (m : Int), 1, g.nx + 1⟩ := by
  have h1 := h.start hm h0
  have h2 := app_used h.sh (a := (m : Int)) (b := 0) (kd := 1) (sq := g.nx) (l := []) (by rw [List.length_nil, h1])
  simp only [List.length_nil, kpg_zero h.sh] at h2
  have hst := appD_s D (m : Int) 0 0 (Fl.rec 1 g.nx [])
  have hl := h.sealed.len
  have hn := h.nx
  have hml : m < (sealG g).st.length := (List.getElem?_eq_some_iff.1 h0).1
  refine ⟨by rw [hst]; exact h.sh, by simp [hl], by rw [hst]; exact hm, fun h' => absurd h' (by show ¬ (m : Int) < 0; omega), fun _ => ⟨?_, Int.le_refl _, by rw [hst]; exact h.sh.b0⟩, fun i hi hi0 b => ?_, fun _ b hb => ?_, by show 1 ≤ g.nx + 1; omega⟩
  · show ((sealG g).st.set m 1)[(m : Int).toNat]? = some 1
    rw [Int.toNat_natCast, List.getElem?_set, if_pos rfl, if_pos hml]
  · rw [hst] at hi
    have hi0 : ((sealG g).st.set m 1)[i]? = some 0 := hi0
    rw [List.getElem?_set] at hi0
    split at hi0
    · simp at hi0
    · rename_i hne
      rw [h2, h.sealed.free i hi hi0, Bool.or_false]
      exact decide_eq_false (fun hh => hne (by omega))
  · show usedB _ (m : Int) b = false
    have hb2 : (1 : Int) ≤ b := hb
    rw [h2, h.sealed.free m hm h0, Bool.or_false]
    exact decide_eq_false (fun hh => by omega)
theorem LInv.get_seal (h : LInv D g) {i : Nat} (hi : g.st[i]? = some 0) : (sealG g).st[i]? = some 0 := by
  unfold sealG
  split
  · exact hi
  · rename_i ho
    show (g.st.set g.op.toNat 2)[i]? = some 0
    rw [List.getElem?_set]
    split
    · rename_i he
      have := (h.one (by omega)).1
      rw [he, hi] at this
      simp at this
    · exact hi
theorem first_zero : ∀ (l : List Int), 0 < cnt 0 l → ∃ m : Nat, l[m]? = some 0 ∧ ∀ i, i < m → l[i]? ≠ some 0
  | [], h => by simp [cnt] at h
  | y :: l, h => by
    by_cases hy : y = 0
    · exact ⟨0, by rw [hy]; rfl, fun i hi => by omega⟩
    · have h2 : 0 < cnt 0 l := by
        unfold cnt at h ⊢
        rw [List.filter_cons, if_neg (by simpa using hy)] at h
        exact h
      obtain ⟨m, h3, h4⟩ := first_zero l h2
      refine ⟨m + 1, by simpa using h3, fun i hi => ?_⟩
      cases i with
      | zero => simpa using hy
      | succ i => simpa using h4 i (by omega)
theorem firstAt_is {l : List Int} {m : Nat} (h0 : l[m]? = some 0) (h1 : ∀ i, i < m → l[i]? ≠ some 0) (r : Int) (h : FirstAt l 0 r) : r = (m : Int) := by
  have hml := (List.getElem?_eq_some_iff.1 h0).1
  rcases h with ⟨_, h⟩ | ⟨n, rfl, hn, h2, h3⟩
  · exact absurd h0 (h m hml)
  · have : n = m := by
      rcases Nat.lt_trichotomy n m with h4 | h4 | h4
      · exact absurd h2 (h1 n h4)
      · exact h4
      · exact absurd h0 (h3 m h4)
    rw [this]
/-- There is a free segment: the first one, in the driver's states and in the document's. -/
theorem LInv.first (h : LInv D g) (hc : 0 < cnt 0 (g.st.take D.s.1.toNat)) : ∃ m : Nat, (m : Int) < D.s.1 ∧ g.st[m]? = some 0 ∧ (sealG g).st[m]? = some 0 ∧ (∀ i, i < m → (sealG g).st[i]? ≠ some 0) ∧ ∀ r, FirstAt (sealG g).st 0 r → r = (m : Int) := by
  obtain ⟨m, h0, h1⟩ := first_zero _ hc
  have hm := (List.getElem?_eq_some_iff.1 h0).1
  rw [List.length_take] at hm
  have h2 : g.st[m]? = some 0 := by rw [List.getElem?_take_of_lt (by omega)] at h0; exact h0
  have h3 : ∀ i, i < m → (sealG g).st[i]? ≠ some 0 := fun i hi hh => h1 i hi (by rw [List.getElem?_take_of_lt (by omega)]; exact seal_get g i hh)
  exact ⟨m, by have := h.sh.a0; omega, h2, h.get_seal h2, h3, firstAt_is (h.get_seal h2) h3⟩
end
end Go.Proofs.Ytmbiebdcnadhkaa.Fl

/- The driver's log and the document's say the same. No program in sight. -/
namespace Go.Proofs.Ytmbiebdcnadhkaa.Fl
set_option linter.unusedSimpArgs false
set_option linter.unusedVariables false
structure GSim (s : Int × Int × Int) (g gr : LG) : Prop where
  st : gr.st = g.st.take s.1.toNat
  op : gr.op = g.op
  pg : gr.pg = g.pg
  nx : gr.nx = g.nx
section
variable {D : PD} {g gr : LG}
theorem GSim.len (h : GSim D.s g gr) (hi : LInv D g) : (gr.st.length : Int) = D.s.1 := by
  have := hi.sh.a0
  have := hi.sh.a1
  have := hi.len
  rw [h.st, List.length_take]
  omega
theorem GSim.get (h : GSim D.s g gr) (hi : LInv D g) {i : Nat} (hlt : (i : Int) < D.s.1) : gr.st[i]? = g.st[i]? := by
  rw [h.st, List.getElem?_take_of_lt (by omega)]
theorem GSim.set (h : GSim D.s g gr) (i : Nat) (y : Int) : gr.st.set i y = (g.st.set i y).take D.s.1.toNat := by
  rw [h.st, List.take_set]
theorem GSim.sealed (h : GSim D.s g gr) (hi : LInv D g) : GSim D.s (sealG g) (rsealG gr) := by
  by_cases h0 : g.op < 0
  · have e1 : sealG g = g := if_pos h0
    obtain ⟨z1, z2⟩ := hi.zero h0
    rw [e1]
    exact ⟨by unfold rsealG; rw [h.op, if_pos h0]; exact h.st, z1.symm, z2.symm, h.nx⟩
  · have e1 : sealG g = { st := g.st.set g.op.toNat 2, op := -1, pg := 0, nx := g.nx } := if_neg h0
    rw [e1]
    exact ⟨by unfold rsealG; rw [h.op, if_neg h0]; exact h.set _ _, rfl, rfl, h.nx⟩
theorem GSim.eraseE (h : GSim D.s g gr) (hi : LInv D g) (a : Int) : rEraseE gr a = lEraseE D.s g a := by
  have hl := h.len hi
  unfold rEraseE lEraseE
  cases hf : fitsB a 0 (D.s.1 - 1) with
  | false =>
    rw [if_pos rfl, if_pos]
    unfold fitsB at hf
    rw [decide_eq_false_iff_not] at hf
    omega
  | true =>
    unfold fitsB at hf
    rw [decide_eq_true_iff] at hf
    rw [if_neg (show ¬ (a < 0 ∨ (gr.st.length : Int) ≤ a) by omega), if_neg (show ¬ (true = false) by decide), List.getD_eq_getElem?_getD, List.getD_eq_getElem?_getD, h.get hi (by omega)]
theorem GSim.erase (h : GSim D.s g gr) (hi : LInv D g) (a : Int) : GSim D.s (lEraseG D.s g a) (rEraseG gr a) := by
  unfold lEraseG rEraseG
  rw [h.eraseE hi]
  split
  · exact ⟨h.set _ _, h.op, h.pg, h.nx⟩
  · exact h
theorem LInv.sync (h : LInv D g) : LInv { D with dirty := [] } g := ⟨h.sh, h.len, h.hi, h.zero, h.one, h.free, h.opn, h.nx⟩
theorem LInv.new {s : Int × Int × Int} (hs : ShapeOk s) : LInv ⟨s, [], []⟩ (newG 1) := by
  refine ⟨hs, by simp [newG], ?_, fun _ => ⟨rfl, rfl⟩, fun h' => ?_, fun i hi h0 b => by simp [usedB, look], fun h' b hb => by simp [usedB, look], by decide⟩
  · have := hs.a0
    show (-1 : Int) < s.1
    omega
  · exfalso
    revert h'
    show 0 ≤ (-1 : Int) → False
    omega
theorem used_erased (hnd : Nodup D.mp) {n : Int} (hh : hasB D.s n 0 = true) (a b : Int) : usedB (erasedD D n) a b = (decide (a ≠ n) && usedB D a b) := by
  unfold erasedD
  rw [if_pos hh]
  unfold eraseD usedB
  simp only
  rw [look_delTo _ _ _ hnd]
  cases hb : hasB D.s a b with
  | false => simp
  | true =>
    have h1 := (hasB_iff _ _ _).1 hb
    by_cases ha : a = n
    · rw [if_pos ⟨ha, h1.2.2.1, by simp only; omega⟩]
      simp [ha]
    · rw [if_neg (fun h => ha h.1)]
      simp [ha]
theorem LInv.erase (h : LInv D g) (hnd : Nodup D.mp) (a : Int) : LInv (lEraseD D g a) (lEraseG D.s g a) := by
  unfold lEraseD lEraseG
  split
  · rename_i he
    have hf : fitsB a 0 (D.s.1 - 1) = true := by
      cases hf : fitsB a 0 (D.s.1 - 1) with
      | true => rfl
      | false => unfold lEraseE at he; rw [if_pos hf] at he; exact absurd he (by decide)
    have hx : g.st.getD a.toNat 0 ≠ 1 := fun hx => by
      unfold lEraseE at he
      rw [if_neg (by rw [hf]; decide), if_pos hx] at he
      exact absurd he (by decide)
    unfold fitsB at hf
    rw [decide_eq_true_iff] at hf
    have hh : hasB D.s a 0 = true := (hasB_iff _ _ _).2 ⟨by omega, by omega, Int.le_refl _, by have := h.sh.b0; omega⟩
    have hs : (erasedD D a).s = D.s := by unfold erasedD; rw [if_pos hh]; rfl
    have hu := used_erased hnd hh
    refine ⟨by rw [hs]; exact h.sh, by simp [h.len], by rw [hs]; exact h.hi, h.zero, fun ho => ?_, fun i hi h0 b => ?_, fun ho b hb => ?_, h.nx⟩
    · obtain ⟨h1, h2, h3⟩ := h.one ho
      refine ⟨?_, h2, by rw [hs]; exact h3⟩
      show (g.st.set a.toNat 0)[g.op.toNat]? = some 1
      rw [List.getElem?_set, if_neg (fun e => hx (by rw [e, List.getD_eq_getElem?_getD, h1]; rfl))]
      exact h1
    · rw [hs] at hi
      rw [hu]
      by_cases hia : (i : Int) = a
      · simp [hia]
      · have h0 : (g.st.set a.toNat 0)[i]? = some 0 := h0
        rw [List.getElem?_set, if_neg (by omega)] at h0
        rw [h.free i hi h0 b, Bool.and_false]
    · show usedB _ g.op b = false
      rw [hu, h.opn ho b hb, Bool.and_false]
  · exact h
end
end Go.Proofs.Ytmbiebdcnadhkaa.Fl

/- May: walked. -/
namespace Go.Proofs.Ytmbiebdcnadhkaa.Fl
open Go.RowKit Go.Proofs.YtmbiebdcnadhkaaW.PrintWords Go.Proofs.YtmbiebdcnadhkaaW.PrintMore Go.Maps
set_option linter.unusedSimpArgs false
set_option linter.unusedVariables false
def mayB (s : Int × Int × Int) : Bool := shapeB s && decide (4 ≤ s.1)
set_option maxHeartbeats 1000000 in
set_option maxRecDepth 100000 in
theorem May_any (s : Int × Int × Int) (w : World) : Calls Try.prog 24 #[.agg #[.int .i64 s.1, .int .i64 s.2.1, .int .i64 s.2.2]] w fun e w' => e = .returned (.bool (mayB s)) ∧ Below w.heap.size w w' := by
  obtain ⟨W, hW⟩ : ∃ W, W = w.alloc (.cells #[.int .i64 s.1, .int .i64 s.2.1, .int .i64 s.2.2] 23) := ⟨_, rfl⟩
  have q0 : W.heap[w.heap.size]? = some (.cells #[.int .i64 s.1, .int .i64 s.2.1, .int .i64 s.2.2] 23 (0, 0)) := by rw [hW]; exact blk_new w _
  have qb : Below w.heap.size w W := by rw [hW]; exact below_alloc (Below.refl _ _) _
  have k0 := bcell q0 0
  have k1 := bcell q0 1
  have k2 := bcell q0 2
  have HW := Lib.hid hW
  have Q0 := Lib.hid q0
  have QB := Aside0.mk qb
  clear hW q0 qb
  cases hs : shapeB s with
  | false =>
    have HS := Lib.hid hs
    have hm : mayB s = false := by unfold mayB; rw [hs]; rfl
    have HM := Lib.hid hm
    rw [hm]
    clear hs hm
    go_enter Try.func24, Try.ntmps24
    go_wp2_with (first
      | (rw [← HW.out])
      | (go_at_call 10; (with_reducible refine (RShape_any _ _).mono ?_); rw [HS.out]; rintro e w3 ⟨rfl, hb⟩; have HB := Aside0.mk hb; clear hb)
      | fail)
    go_ret
    exact ⟨rfl, QB.out.trans (HB.out.mono QB.out.size)⟩
  | true =>
    have HS := Lib.hid hs
    have hm : mayB s = decide (s.1 ≥ 4) := by unfold mayB; rw [hs]; rfl
    have HM := Lib.hid hm
    rw [hm]
    clear hs hm
    go_enter Try.func24, Try.ntmps24
    go_wp2_with (first
      | (rw [← HW.out])
      | (go_at_call 10; (with_reducible refine (RShape_any _ _).mono ?_); rw [HS.out]; rintro e w3 ⟨rfl, hb⟩; have HB := Aside0.mk hb; have j0 : w3.cell? ⟨w.heap.size, 0, none⟩ = some (.int .i64 s.1) := bcell ((hb.block _ (blt Q0.out)).trans Q0.out) 0; clear hb)
      | fail)
    go_ret
    exact ⟨rfl, QB.out.trans (HB.out.mono QB.out.size)⟩
end Go.Proofs.Ytmbiebdcnadhkaa.Fl

/- What a put does to the driver's log and to the document's, told once for both. -/
namespace Go.Proofs.Ytmbiebdcnadhkaa.Fl
open Go.RowKit Go.Proofs.YtmbiebdcnadhkaaW.PrintWords Go.Proofs.YtmbiebdcnadhkaaW.PrintMore Go.Maps
set_option linter.unusedSimpArgs false
set_option linter.unusedVariables false
/-- The document's log, out of the driver's. -/
def grOf (s : Int × Int × Int) (g : LG) : LG := ⟨g.st.take s.1.toNat, g.op, g.pg, g.nx⟩
theorem GSim.of (s : Int × Int × Int) (g : LG) : GSim s g (grOf s g) := ⟨rfl, rfl, rfl, rfl⟩
theorem GSim.eq {s : Int × Int × Int} {g gr : LG} (h : GSim s g gr) : gr = grOf s g := by
  obtain ⟨a, b, c, d⟩ := gr
  obtain ⟨h1, h2, h3, h4⟩ := h
  simp only at h1 h2 h3 h4
  subst h1 h2 h3 h4
  rfl
def headD (D : PD) (g : LG) (m : Nat) : PD := appD D (m : Int) 0 0 (Fl.rec 1 g.nx [])
def headP (s : Int × Int × Int) (ps : List Pg) (g : LG) (m : Nat) : List Pg := appP s ps (m : Int) 0 0 (Fl.rec 1 g.nx [])
inductive PutStep (D : PD) (g : LG) (ps : List Pg) (kind : Int) (l : List Int) (need : Int) : Adr → Int → PD → LG → List Pg → Prop
  | head (hk : kind = 1) : PutStep D g ps kind l need (0, 0) 1 D g ps
  | big (hk : kind ≠ 1) (h1 : fitsS D.s 1 l.length = false) : PutStep D g ps kind l need (0, 0) 10 D g ps
  | full (hk : kind ≠ 1) (h1 : fitsS D.s 1 l.length = true) (h2 : g.op < 0 ∨ 0 ≤ g.op ∧ fitsS D.s g.pg l.length = false) (h3 : (cnt 0 (g.st.take D.s.1.toNat) : Int) < need) : PutStep D g ps kind l need (0, 0) 5 D g ps
  | app (hk : kind ≠ 1) (h1 : fitsS D.s 1 l.length = true) (h2 : 0 ≤ g.op) (h3 : fitsS D.s g.pg l.length = true) : PutStep D g ps kind l need (g.op, g.pg) 0 (appD D g.op g.pg l.length (Fl.rec kind (g.nx - 1) l)) { g with pg := g.pg + (kpg D.s l.length : Int) } (appP D.s ps g.op g.pg l.length (Fl.rec kind (g.nx - 1) l))
  | turn (m : Nat) (hk : kind ≠ 1) (h1 : fitsS D.s 1 l.length = true) (h2 : g.op < 0 ∨ 0 ≤ g.op ∧ fitsS D.s g.pg l.length = false) (h3 : ¬ (cnt 0 (g.st.take D.s.1.toNat) : Int) < need) (h4 : (m : Int) < D.s.1) (h5 : g.st[m]? = some 0) (h6 : (sealG g).st[m]? = some 0) (h7 : ∀ i, i < m → (sealG g).st[i]? ≠ some 0) (h8 : ∀ r, FirstAt (sealG g).st 0 r → r = (m : Int)) :
    PutStep D g ps kind l need ((m : Int), 1) 0 (appD (headD D g m) (m : Int) 1 l.length (Fl.rec kind g.nx l)) { st := (sealG g).st.set m 1, op := (m : Int), pg := 1 + (kpg D.s l.length : Int), nx := g.nx + 1 } (appP D.s (headP D.s ps g m) (m : Int) 1 l.length (Fl.rec kind g.nx l))
section
variable {N0 p q r t x cap : Nat} {rest : List Value} {F : (Nat → Prop) → PD → World → Prop} {G : (Nat → Prop) → List Pg → World → Prop} {K : Nat → Prop} {D D2 : PD} {g g2 : LG} {ps ps2 : List Pg} {w : World} {A : Option Addr} {c : Nat} {l : List Int} {kind need er : Int} {at_ : Adr}
theorem put_total (hi : LInv D g) (hn : 1 ≤ need) (ps : List Pg) (kind : Int) (l : List Int) : ∃ at_ er D2 g2 ps2, PutStep D g ps kind l need at_ er D2 g2 ps2 := by
  by_cases hk : kind = 1
  · exact ⟨_, _, _, _, _, .head hk⟩
  cases h1 : fitsS D.s 1 l.length with
  | false => exact ⟨_, _, _, _, _, .big hk h1⟩
  | true =>
    have hd : (0 ≤ g.op ∧ fitsS D.s g.pg l.length = true) ∨ (g.op < 0 ∨ 0 ≤ g.op ∧ fitsS D.s g.pg l.length = false) := by
      by_cases h0 : g.op < 0
      · exact .inr (.inl h0)
      · cases h2 : fitsS D.s g.pg l.length with
        | false => exact .inr (.inr ⟨by omega, rfl⟩)
        | true => exact .inl ⟨by omega, rfl⟩
    rcases hd with ⟨h2, h3⟩ | hd
    · exact ⟨_, _, _, _, _, .app hk h1 h2 h3⟩
    · by_cases h3 : (cnt 0 (g.st.take D.s.1.toNat) : Int) < need
      · exact ⟨_, _, _, _, _, .full hk h1 hd h3⟩
      · obtain ⟨m, h4, h5, h6, h7, h8⟩ := hi.first (by omega)
        exact ⟨_, _, _, _, _, .turn m hk h1 hd h3 h4 h5 h6 h7 h8⟩
theorem headD_s (D : PD) (g : LG) (m : Nat) : (headD D g m).s = D.s := appD_s _ _ _ _ _
/-- Behind a turn a record that fits behind a head fits. -/
theorem LInv.turn_fit (hi : LInv D g) {m : Nat} (h4 : (m : Int) < D.s.1) (h6 : (sealG g).st[m]? = some 0) (hn : l.length ≤ 4096) (h1 : fitsS D.s 1 l.length = true) : LInv (headD D g m) ⟨(sealG g).st.set m 1, (m : Int), 1, g.nx + 1⟩ ∧ appE (headD D g m) (m : Int) 1 l.length = ((kpg D.s l.length : Int), 0) := by
  have h := hi.turn h4 h6
  have h2 := h.fit (l := l) (by show (0 : Int) ≤ (m : Int); omega) hn (by show fitsS (appD D _ _ _ _).s 1 _ = true; rw [appD_s]; exact h1)
  refine ⟨h, ?_⟩
  have h3 := h2.1
  rw [appD_s] at h3
  exact h3
theorem PutStep.driver (hp : PutStep D g ps kind l need at_ er D2 g2 ps2) (hi : LInv D g) (hsim : Sim D D.s ps) (hpl : ps.length < 800000) (hn1 : g.nx < 900000) (hkk : KindOk kind) (hBl : Byt l) (hm : l.length ≤ 4096)
    (hF : DevFrame N0 p F) (hSt : ∀ D, Stays (fun K w => F K D w)) (h : F K D w) (hl : LogIs q p g w) (hq : K q) (hN : N0 ≤ q) (hc : l.length ≤ c) (hCx : ∀ X, Below N0 w X → Kept (fun k => K k ∧ k ≠ q) w X → kB.C X A l.length l) :
    Calls Try.prog 101 #[.pointer (some ⟨q, 0, none⟩), .int .u8 kind, .slice A l.length c, .int .i64 need] w (PutPost N0 q p F K w at_ er D2 g2) := by
  have hC := hCx w (Below.refl _ _) (fun _ _ => rfl)
  have hdl := hsim.dirtyLe
  have hnx := hi.nx
  have hm1 : l.length < 1000000 := by omega
  have hkp := kpg_bd hi.sh hm
  cases hp with
  | head hk => subst hk; exact LPut_head hF hSt h hl hq hN hC hc hm1
  | big hk h1 => exact LPut_big hF hSt h hl hq hN hC hc hm1 hk h1
  | full hk h1 h2 h3 =>
    rcases h2 with h2 | ⟨h2, h2'⟩
    · exact LPut_full0 hF hSt h hl hq hN hC hc hm1 hk h1 h2 h3
    · exact LPut_fullN hF hSt h hl hq hN hC hc hm1 hk h1 h2 h2' h3
  | app hk h1 h2 h3 =>
    obtain ⟨h4, h5, h6⟩ := hi.one h2
    obtain ⟨h7, h8⟩ := hi.fit h2 hm h3
    have hb1 := hi.sh.b1
    exact LPut_app hF hSt h hl hq hN hC hc hm1 hk h1 h2 h3 hkk hBl hCx (by omega) ⟨by omega, by omega⟩ hnx (by omega) (by omega) (by omega) h7
  | turn m hk h1 h2 h3 h4 h5 h6 h7 h8 =>
    obtain ⟨h9, h10⟩ := hi.turn_fit (l := l) h4 h6 hm h1
    have hhi := hi.hi
    have ha1 := hi.sh.a1
    have hdd : (appD D (m : Int) 0 0 (Fl.rec 1 g.nx [])).dirty.length < 900000 := by
      have e1 := (hsim.app (m : Int) 0 0 (Fl.rec 1 g.nx [])).dirtyLe
      have e2 := appP_len hi.sh ps (m : Int) 0 0 (bs := Fl.rec 1 g.nx []) (by rw [rec_len]; rfl)
      omega
    rcases h2 with h2 | ⟨h2, h2'⟩
    · exact LPut_turn0 hF hSt h hl hq hN hC hc hm1 hk h1 h2 hkk hBl hCx (by omega) hdd (by omega) ⟨by omega, by omega⟩ (by omega) (by omega) (by omega) h8 (by omega) h10 h3
    · exact LPut_turnN hF hSt h hl hq hN hC hc hm1 hk h1 h2 h2' hkk hBl hCx (by omega) hdd (by omega) ⟨by omega, by omega⟩ (by omega) (by omega) (by omega) h8 (by omega) h10 h3
theorem PutStep.ref (hp : PutStep D g ps kind l need at_ er D2 g2 ps2) (hi : LInv D g) (hpl : ps.length < 800000) (hn1 : g.nx < 900000) (hkk : KindOk kind) (hBl : Byt l) (hm : l.length ≤ 4096)
    (hG : RefFrame N0 x D.s G) (hSt : ∀ ps, Stays (fun K w => G K ps w)) (h : G K ps w) (hl : RLog r t x cap rest (grOf D.s g) w) (hr : K r) (ht : K t) (hNr : N0 ≤ r) (hNt : N0 ≤ t) (hc : l.length ≤ c) (hCx : ∀ X, Below N0 w X → kB.C X A l.length l) :
    Calls Try.prog 69 #[.pointer (some ⟨r, 0, none⟩), .int .u8 kind, .slice A l.length c, .int .i64 need] w (RPutPost N0 r t x cap rest G K w at_ er ps2 (grOf D.s g2)) := by
  have hsh := hi.sh
  have hnx := hi.nx
  have hkp := kpg_bd hi.sh hm
  have hb0 := hsh.b0
  have hb1 := hsh.b1
  have ha0 := hsh.a0
  have ha1 := hsh.a1
  have hsim := GSim.of D.s g
  have hsl := hsim.len hi
  have hhi := hi.hi
  have hss := hsim.sealed hi
  have hbig : fitsS D.s 1 l.length = true → (kpg D.s l.length : Int) + 1 ≤ D.s.2.1 := fun h1 => by
    have := (fits_iff hm (by omega) (by omega)).1 h1
    omega
  cases hp with
  | head hk => subst hk; exact RPut_head hG hSt h hl hr ht hNr hNt hsh hc hm
  | big hk h1 =>
    refine RPut_big hG hSt h hl hr ht hNr hNt hsh hc hm hk ?_
    have : ¬ (1 + (kpg D.s l.length : Int) ≤ D.s.2.1) := fun hh => by
      rw [(fits_iff hm (by omega) (by omega)).2 hh] at h1
      exact absurd h1 (by decide)
    omega
  | full hk h1 h2 h3 =>
    rcases h2 with h2 | ⟨h2, h2'⟩
    · exact RPut_full0 hG hSt h hl hr ht hNr hNt hsh hc hm hk (hbig h1) h2 (by omega) h3
    · obtain ⟨h4, h5, h6⟩ := hi.one h2
      refine RPut_fullN hG hSt h hl hr ht hNr hNt hsh hc hm hk (hbig h1) h2 (show 0 ≤ g.pg by omega) (show g.pg ≤ 100000 by omega) ?_ (by omega) h3
      have : ¬ (g.pg + (kpg D.s l.length : Int) ≤ D.s.2.1) := fun hh => by
        rw [(fits_iff hm (by omega) (by omega)).2 hh] at h2'
        exact absurd h2' (by decide)
      show D.s.2.1 < g.pg + _
      omega
  | app hk h1 h2 h3 =>
    obtain ⟨h4, h5, h6⟩ := hi.one h2
    have h8 : g.pg + (kpg D.s l.length : Int) ≤ D.s.2.1 := (fits_iff hm (by omega) (by omega)).1 h3
    exact RPut_app hG hSt h hl hr ht hNr hNt hsh hc hm hk (hbig h1) h2 (show 0 ≤ g.pg by omega) (show g.pg ≤ 100000 by omega) h8 hkk hBl hCx (by omega) ⟨show 0 ≤ g.nx - 1 by omega, show g.nx - 1 ≤ _ by omega⟩ hnx (show g.nx < 1000000 by omega)
  | turn m hk h1 h2 h3 h4 h5 h6 h7 h8 =>
    have e2 := appP_len hi.sh ps (m : Int) 0 0 (bs := Fl.rec 1 g.nx []) (by rw [rec_len]; rfl)
    have hm0 : (rsealG (grOf D.s g)).st[m]? = some 0 := by rw [hss.st, List.getElem?_take_of_lt (by omega)]; exact h6
    have hmf : ∀ i, i < m → (rsealG (grOf D.s g)).st[i]? ≠ some 0 := fun i him => by rw [hss.st, List.getElem?_take_of_lt (by omega)]; exact h7 i him
    have hfin : ({ st := (rsealG (grOf D.s g)).st.set m 1, op := (m : Int), pg := 1 + (kpg D.s l.length : Int), nx := (grOf D.s g).nx + 1 } : LG) = grOf D.s { st := (sealG g).st.set m 1, op := (m : Int), pg := 1 + (kpg D.s l.length : Int), nx := g.nx + 1 } := by
      unfold grOf at hss ⊢
      rw [hss.st]
      simp only [List.take_set]
    rw [← hfin]
    rcases h2 with h2 | ⟨h2, h2'⟩
    · exact RPut_turn0 hG hSt h hl hr ht hNr hNt hsh hc hm hk (hbig h1) h2 (by omega) (show g.op < _ by omega) h3 hkk hBl hCx (by omega) (show (appP D.s ps (m : Int) 0 0 (Fl.rec 1 g.nx [])).length < 900000 by omega) hm0 hmf ⟨show 0 ≤ g.nx by omega, show g.nx ≤ _ by omega⟩ (show 0 ≤ g.nx by omega) (show g.nx < 1000000 by omega)
    · obtain ⟨h14, h15, h16⟩ := hi.one h2
      refine RPut_turnN hG hSt h hl hr ht hNr hNt hsh hc hm hk (hbig h1) h2 (show 0 ≤ g.pg by omega) (show g.pg ≤ 100000 by omega) ?_ (by omega) (show g.op < _ by omega) h3 hkk hBl hCx (by omega) (show (appP D.s ps (m : Int) 0 0 (Fl.rec 1 g.nx [])).length < 900000 by omega) hm0 hmf ⟨show 0 ≤ g.nx by omega, show g.nx ≤ _ by omega⟩ (show 0 ≤ g.nx by omega) (show g.nx < 1000000 by omega)
      have : ¬ (g.pg + (kpg D.s l.length : Int) ≤ D.s.2.1) := fun hh => by
        rw [(fits_iff hm (by omega) (by omega)).2 hh] at h2'
        exact absurd h2' (by decide)
      show D.s.2.1 < g.pg + _
      omega
/-- What holds between deeds holds behind a put. -/
structure PutKeep (D : PD) (g : LG) (ps : List Pg) (D2 : PD) (g2 : LG) (ps2 : List Pg) : Prop where
  sh : D2.s = D.s
  inv : LInv D2 g2
  sim : Sim D2 D2.s ps2
  byt : BytP ps → BytP ps2
  len : ps2.length ≤ ps.length + 514
  nx1 : g.nx ≤ g2.nx
  nx2 : g2.nx ≤ g.nx + 1
theorem PutStep.keep (hp : PutStep D g ps kind l need at_ er D2 g2 ps2) (hi : LInv D g) (hsim : Sim D D.s ps) (hm : l.length ≤ 4096) (hkk : KindOk kind) (hBl : Byt l) (hn1 : g.nx < 900000) : PutKeep D g ps D2 g2 ps2 := by
  have hnx := hi.nx
  have stay : PutKeep D g ps D g ps := ⟨rfl, hi, hsim, id, by omega, by omega, by omega⟩
  cases hp with
  | head hk => exact stay
  | big hk h1 => exact stay
  | full hk h1 h2 h3 => exact stay
  | app hk h1 h2 h3 =>
    have h4 := appP_len hi.sh ps g.op g.pg l.length (bs := Fl.rec kind (g.nx - 1) l) (rec_len _ _ _)
    exact ⟨appD_s _ _ _ _ _, hi.app h2 hm h3 _ _, by rw [appD_s]; exact hsim.app _ _ _ _, fun hb => hb.app hi.sh _ _ _ (rec_byt hkk hBl), by omega, Int.le_refl _, by show g.nx ≤ g.nx + 1; omega⟩
  | turn m hk h1 h2 h3 h4 h5 h6 h7 h8 =>
    obtain ⟨h9, h10⟩ := hi.turn_fit (l := l) h4 h6 hm h1
    have e1 := appP_len hi.sh ps (m : Int) 0 0 (bs := Fl.rec 1 g.nx []) (by rw [rec_len]; rfl)
    have e2 := appP_len hi.sh (headP D.s ps g m) (m : Int) 1 l.length (bs := Fl.rec kind g.nx l) (rec_len _ _ _)
    have e3 : (headP D.s ps g m).length ≤ ps.length + 257 := e1
    have h11 := h9.app (l := l) (by show (0 : Int) ≤ (m : Int); omega) hm (by show fitsS (headD D g m).s 1 _ = true; rw [headD_s]; exact h1) kind g.nx
    have hk1 : KindOk 1 := ⟨by decide, by decide⟩
    refine ⟨(appD_s _ _ _ _ _).trans (headD_s _ _ _), ?_, ?_, fun hb => (hb.app hi.sh _ _ _ (rec_byt hk1 Byt.nil)).app hi.sh _ _ _ (rec_byt hkk hBl), by omega, by show g.nx ≤ g.nx + 1; omega, Int.le_refl _⟩
    · rw [headD_s] at h11
      exact h11
    · rw [appD_s, headD_s]
      exact (hsim.app _ _ _ _).app _ _ _ _
end
end Go.Proofs.Ytmbiebdcnadhkaa.Fl

/- The document's log: New walked. -/
namespace Go.Proofs.Ytmbiebdcnadhkaa.Fl
open Go.RowKit Go.Proofs.YtmbiebdcnadhkaaW.PrintWords Go.Proofs.YtmbiebdcnadhkaaW.PrintMore Go.Maps
set_option linter.unusedSimpArgs false
set_option linter.unusedVariables false
abbrev kI : Kd Int := Kd.int .i64
theorem info_int : (Try.prog.info? TNi).map (fun i => (i.zero, i.size, i.bytes)) = some (some (.int .i64 0), 1, 8) := by kernel_rfl
theorem kI_mk (w : World) (base : Nat) (okp : Nat → Prop) (x : Int) : kI.M w base okp x [.int .i64 x] := rfl
/-- A row of ints that is not empty: its block. -/
theorem row_blk {w : World} {base : Nat} {ok : Nat → Prop} {v : Value} {l : List Int} (h : kI.R TNi w base ok v l) (h0 : 0 < l.length) :
    ∃ g cap rest, v = .slice (some ⟨g, 0, none⟩) l.length cap ∧ base ≤ g ∧ ok g ∧ l.length ≤ cap ∧ w.heap[g]? = some (.cells (l.map (fun x => Value.int .i64 x) ++ rest).toArray TNi (0, 0)) := by
  have ho := Kd.own_of_R h
  rcases ho.2 with ⟨_, h2⟩ | ⟨g, cap, cur, rfl, hb, hg, h1, h2, h3, h4⟩
  · omega
  · refine ⟨g, cap, cur.toList.drop l.length, rfl, hb, h.1 g rfl, h1, ?_⟩
    rw [hg]
    have h5 : l.map (fun x => Value.int .i64 x) = cur.toList.take l.length := by rw [← Nat.mul_one l.length, h4]; rfl
    rw [h5, List.take_append_drop]
theorem rep_snoc (k : Nat) : List.replicate k (0 : Int) ++ [0] = List.replicate (k + 1) 0 := (List.replicate_succ' ..).symm
def RNewPost (w : World) (s : Int × Int × Int) (e : Ending) (w' : World) : Prop :=
  ∃ r t x cap rest, e = .returned (.pointer (some ⟨r, 0, none⟩)) ∧ RLog r t x cap rest (grOf s (newG 1)) w' ∧ w.heap.size ≤ r ∧ w.heap.size ≤ t ∧ w.heap.size ≤ x ∧ r ≠ x ∧ t ≠ x ∧ w'.heap[x]? = some (.cells #[.int .i64 s.1, .int .i64 s.2.1, .int .i64 s.2.2, .slice none 0 0] TX (0, 0)) ∧ Below w.heap.size w w'
set_option maxHeartbeats 2000000 in
set_option maxRecDepth 100000 in
theorem RNew_any (s : Int × Int × Int) (hs : ShapeOk s) (w : World) : Calls Try.prog 67 #[.agg #[.int .i64 s.1, .int .i64 s.2.1, .int .i64 s.2.2]] w (RNewPost w s) := by
  obtain ⟨n, hn⟩ := Int.eq_ofNat_of_zero_le (show 0 ≤ s.1 by have := hs.a0; omega)
  have n1 : 1 ≤ n := by have := hs.a0; omega
  have n2 : n ≤ 16 := by have := hs.a1; omega
  obtain ⟨W0, hW0⟩ : ∃ W0, W0 = w.alloc (.cells #[.int .i64 s.1, .int .i64 s.2.1, .int .i64 s.2.2] 23) := ⟨_, rfl⟩
  obtain ⟨W1, hW1⟩ : ∃ W1, W1 = W0.alloc (.cells #[.int .i64 s.1, .int .i64 s.2.1, .int .i64 s.2.2, .slice none 0 0] TX) := ⟨_, rfl⟩
  obtain ⟨W2, hW2⟩ : ∃ W2, W2 = W1.alloc (.cells #[.pointer (some ⟨W0.heap.size, 0, none⟩), .slice none 0 0, .int .i64 (-1), .int .i64 0, .int .u64 1] TRL) := ⟨_, rfl⟩
  have s0 : W0.heap.size = w.heap.size + 1 := by rw [hW0, size_alloc]
  have s1 : W1.heap.size = w.heap.size + 2 := by rw [hW1, size_alloc, s0]
  have b0 : W0.heap[w.heap.size]? = some (.cells #[.int .i64 s.1, .int .i64 s.2.1, .int .i64 s.2.2] 23 (0, 0)) := by rw [hW0]; exact blk_new w _
  have q01 : Below W0.heap.size W0 W1 := by rw [hW1]; exact below_alloc (Below.refl _ _) _
  have q12 : Below W1.heap.size W1 W2 := by rw [hW2]; exact below_alloc (Below.refl _ _) _
  have b1 : W1.heap[W0.heap.size]? = some (.cells #[.int .i64 s.1, .int .i64 s.2.1, .int .i64 s.2.2, .slice none 0 0] TX (0, 0)) := by rw [hW1]; exact blk_new _ _
  have b2 : W2.heap[W1.heap.size]? = some (.cells #[.pointer (some ⟨W0.heap.size, 0, none⟩), .slice none 0 0, .int .i64 (-1), .int .i64 0, .int .u64 1] TRL (0, 0)) := by rw [hW2]; exact blk_new _ _
  have a0 : W2.heap[w.heap.size]? = some (.cells #[.int .i64 s.1, .int .i64 s.2.1, .int .i64 s.2.2] 23 (0, 0)) := (q12.block _ (by omega)).trans ((q01.block _ (by omega)).trans b0)
  have a1 : W2.heap[W0.heap.size]? = some (.cells #[.int .i64 s.1, .int .i64 s.2.1, .int .i64 s.2.2, .slice none 0 0] TX (0, 0)) := (q12.block _ (by omega)).trans b1
  have bb : Below w.heap.size w W2 := by rw [hW2, hW1, hW0]; exact below_alloc (below_alloc (below_alloc (Below.refl _ _) _) _) _
  have k0 := bcell b0 0
  have k1 := bcell b0 1
  have k2 := bcell b0 2
  have HW0 := Lib.hid hW0
  have HW1 := Lib.hid hW1
  have HW2 := Lib.hid hW2
  have A0 := Lib.hid a0
  have A1 := Lib.hid a1
  have B2 := Lib.hid b2
  have BB := Aside0.mk bb
  have HN := Lib.hid hn
  have S0 := Lib.hid s0
  have S1 := Lib.hid s1
  clear hW0 hW1 hW2 s0 s1 b0 q01 q12 b1 b2 a0 a1 bb hs hn
  go_enter Try.func67, Try.ntmps67
  go_wp2_with (first
    | (rw [← HW0.out])
    | (rw [← HW1.out])
    | (rw [← HW2.out])
    | fail)
  go_loopw [4] (fun v4 wr => ∃ (k : Nat) (v : Value), k ≤ n ∧ v4 = .int .i64 (k : Int) ∧ wr.heap[w.heap.size]? = some (.cells #[.int .i64 s.1, .int .i64 s.2.1, .int .i64 s.2.2] 23 (0, 0)) ∧ wr.heap[W0.heap.size]? = some (.cells #[.int .i64 s.1, .int .i64 s.2.1, .int .i64 s.2.2, .slice none 0 0] TX (0, 0)) ∧ wr.heap[W1.heap.size]? = some (.cells #[.pointer (some ⟨W0.heap.size, 0, none⟩), v, .int .i64 (-1), .int .i64 0, .int .u64 1] TRL (0, 0)) ∧ kI.R TNi wr w.heap.size (fun j => w.heap.size ≤ j) v (List.replicate k 0) ∧ Below w.heap.size w wr) (fun v4 _ => n - (intOf v4).toNat)
  case atStart => exact ⟨0, _, Nat.zero_le _, rfl, A0.out, A1.out, B2.out, Kd.R_nil _ _ _ _ _, BB.out⟩
  case round =>
    obtain ⟨k, v, hk, rfl, h0, h1, h2, hR, hb⟩ := hrel
    have e0 := bcell h0 0
    have e1 := bcell h2 1
    have f1 := bfrozen h2 1
    have H0 := Lib.hid h0
    have H1 := Lib.hid h1
    have H2 := Lib.hid h2
    have HR := Aside0.mk hR
    have HB := Aside0.mk hb
    obtain ⟨g9, c9, rfl⟩ := Kd.R_slice hR
    rw [List.length_replicate] at *
    rw [HN.out] at e0
    clear h0 h1 h2 hR hb k0 k1 k2
    by_cases hlt : k < n
    · have q1 : (k : Int) < (n : Int) := by omega
      go_wp2_with (at_builtin; refine Kd.R_append kI (w0 := w) w.heap.size rfl (.tmp 20) (.tmp 21) 64 TNi (.int .i64 0) 8 rfl Try.underlying64 info_int rfl (by decide) (by decide) (.slice g9 k c9) (List.replicate k 0) 0 [.int .i64 0] (fun j => w.heap.size ≤ j) (fun _ => False) rfl rfl (kI_mk _ _ _ _) (fun _ h => h.elim) (fun j hj => Nat.le_trans HB.out.size hj) HR.out HB.out HB.out.size (by rw [List.length_replicate]; omega) ?_; intro v1 w3 hr1 hb2 hg hat; rw [rep_snoc] at hr1; obtain ⟨A8, c8, hv8⟩ := Kd.R_slice hr1; rw [List.length_replicate] at hv8; subst hv8; have n0 := (hg.block _ (blt H0.out) (Kd.R_ne HR.out H0.out (by decide))).trans H0.out; have n1 := (hg.block _ (blt H1.out) (Kd.R_ne HR.out H1.out (by decide))).trans H1.out; have n2 := (hg.block _ (blt H2.out) (Kd.R_ne HR.out H2.out (by decide))).trans H2.out; have z1 : w3.cell? ⟨W1.heap.size, 1, none⟩ = some (.slice g9 k c9) := bcell n2 1; have zf := bfrozen n2 1; have N0 := Lib.hid n0; have N1 := Lib.hid n1; have N2 := Lib.hid n2; have HR1 := Aside0.mk hr1; have HB2 := Aside0.mk hb2; clear hr1 hb2 hg hat n0 n1 n2)
      have u0 := S0.out
      have u1 := S1.out
      refine ⟨⟨k + 1, _, by omega, by go_num, (Below.heap_setCell _ ⟨W1.heap.size, 1, none⟩ _ w.heap.size (by show w.heap.size ≠ W1.heap.size; omega)).trans N0.out, (Below.heap_setCell _ ⟨W1.heap.size, 1, none⟩ _ W0.heap.size (by show W0.heap.size ≠ W1.heap.size; omega)).trans N1.out, (setCell_blk N2.out 1 _).trans rfl, Kd.R_set HR1.out N2.out (by decide) 1 _, HB2.out.setCell (p := ⟨W1.heap.size, 1, none⟩) (by show w.heap.size ≤ W1.heap.size; omega) _⟩, by simp [intOf]; omega⟩
    · obtain rfl : k = n := by omega
      go_wp2_with fail
      go_ret
      have u0 := S0.out
      have u1 := S1.out
      obtain ⟨g, cap, rest, hv, hgb, _, hcap, hgb2⟩ := row_blk HR.out (by rw [List.length_replicate]; omega)
      rw [List.length_replicate] at hv
      have hg : grOf s (newG 1) = ⟨List.replicate k 0, -1, 0, 1⟩ := by
        show (⟨(List.replicate 16 0).take s.1.toNat, -1, 0, 1⟩ : LG) = _
        rw [HN.out, Int.toNat_natCast, List.take_replicate, Nat.min_eq_left (by omega)]
      refine ⟨W1.heap.size, g, W0.heap.size, cap, rest, rfl, ?_, by omega, hgb, by omega, by omega, ?_, H1.out, HB.out⟩
      · rw [hg]
        refine ⟨?_, hgb2⟩
        rw [H2.out, hv]
        simp [rlogC]
      · rintro rfl
        have := H1.out
        rw [hgb2] at this
        injection this with this
        injection this with _ this _
        exact absurd this (by decide)
end Go.Proofs.Ytmbiebdcnadhkaa.Fl

/- What a log's deeds make of a new log: told as steps. No program in sight. -/
namespace Go.Proofs.Ytmbiebdcnadhkaa.Fl
open Go.RowKit Go.Proofs.YtmbiebdcnadhkaaW.PrintWords Go.Proofs.YtmbiebdcnadhkaaW.PrintMore Go.Maps
set_option linter.unusedSimpArgs false
set_option linter.unusedVariables false
/-- What some deeds make of a new log: the driver's device and log, and the document's pages. -/
inductive Deeds (s : Int × Int × Int) : Nat → PD → LG → List Pg → Prop
  | new : Deeds s 0 ⟨s, [], []⟩ (newG 1) []
  | put {k : Nat} {D : PD} {g : LG} {ps : List Pg} {kind : Int} {l : List Int} {need : Int} {at_ : Adr} {er : Int} {D2 : PD} {g2 : LG} {ps2 : List Pg} (h : Deeds s k D g ps) (hs : Sound D) (hd : Nodup D.mp) (hk : KindOk kind) (hb : Byt l) (hl : l.length ≤ 400) (hn : need = 1 ∨ need = 2) (hp : PutStep D g ps kind l need at_ er D2 g2 ps2) : Deeds s (k + 1) D2 g2 ps2
  | erase {k : Nat} {D : PD} {g : LG} {ps : List Pg} (h : Deeds s k D g ps) (hs : Sound D) (hd : Nodup D.mp) (a : Int) : Deeds s (k + 1) (lEraseD D g a) (lEraseG D.s g a) (rEraseP ps (grOf s g) a)
  | sealed {k : Nat} {D : PD} {g : LG} {ps : List Pg} (h : Deeds s k D g ps) (hs : Sound D) (hd : Nodup D.mp) : Deeds s (k + 1) D (sealG g) ps
  | sync {k : Nat} {D : PD} {g : LG} {ps : List Pg} (h : Deeds s k D g ps) (hs : Sound D) (hd : Nodup D.mp) : Deeds s (k + 1) { D with dirty := [] } g (syncP ps)
/-- What holds behind k deeds. -/
structure DInv (s : Int × Int × Int) (k : Nat) (D : PD) (g : LG) (ps : List Pg) : Prop where
  sim : Sim D s ps
  inv : LInv D g
  byt : BytP ps
  len : ps.length ≤ 514 * k
  nx : g.nx ≤ (k : Int) + 1
theorem erase_zero {D : PD} {g : LG} {a : Int} (he : lEraseE D.s g a = 0) (hs : ShapeOk D.s) : hasB D.s a 0 = true := by
  have hf : fitsB a 0 (D.s.1 - 1) = true := by
    cases hf : fitsB a 0 (D.s.1 - 1) with
    | true => rfl
    | false => unfold lEraseE at he; rw [if_pos hf] at he; exact absurd he (by decide)
  unfold fitsB at hf
  rw [decide_eq_true_iff] at hf
  have := hs.b0
  exact (hasB_iff _ _ _).2 ⟨by omega, by omega, Int.le_refl _, by omega⟩
theorem Sim.lerase {D : PD} {g : LG} {ps : List Pg} (h : Sim D D.s ps) (hi : LInv D g) (hd : Nodup D.mp) (a : Int) : Sim (lEraseD D g a) D.s (rEraseP ps (grOf D.s g) a) := by
  have he := (GSim.of D.s g).eraseE hi a
  unfold lEraseD rEraseP
  rw [he]
  split
  · rename_i h0
    exact h.erase hd a (erase_zero h0 hi.sh)
  · exact h
theorem Deeds.keep {s : Int × Int × Int} (hs : ShapeOk s) : ∀ {k : Nat} {D : PD} {g : LG} {ps : List Pg}, Deeds s k D g ps → k ≤ 1000 → DInv s k D g ps := by
  intro k D g ps h
  induction h with
  | new => exact fun _ => ⟨Sim.new s, LInv.new hs, BytP.nil, by simp, by show (1 : Int) ≤ _; omega⟩
  | @put k D g ps kind l need at_ er D2 g2 ps2 h _ hd hk hb hl hn hp ih =>
    intro hk2
    obtain ⟨h1, h2, h3, h4, h5⟩ := ih (by omega)
    have hsh := h1.sh
    subst hsh
    obtain ⟨k1, k2, k3, k4, k5, k6, k7⟩ := hp.keep h2 h1 (by omega) hk hb (by omega)
    rw [k1] at k3
    exact ⟨k3, k2, k4 h3, by omega, by omega⟩
  | @erase k D g ps h _ hd a ih =>
    intro hk2
    obtain ⟨h1, h2, h3, h4, h5⟩ := ih (by omega)
    have hsh := h1.sh
    subst hsh
    refine ⟨h1.lerase h2 hd a, h2.erase hd a, ?_, ?_, ?_⟩
    · unfold rEraseP; split
      · exact h3.erase a
      · exact h3
    · have : (rEraseP ps (grOf D.s g) a).length ≤ ps.length := by
        unfold rEraseP; split
        · exact List.length_filter_le _ _
        · exact Nat.le_refl _
      omega
    · have : (lEraseG D.s g a).nx = g.nx := by unfold lEraseG; split <;> rfl
      omega
  | @sealed k D g ps h _ _ ih =>
    intro hk2
    obtain ⟨h1, h2, h3, h4, h5⟩ := ih (by omega)
    exact ⟨h1, h2.sealed, h3, by omega, by rw [sealG_nx]; omega⟩
  | @sync k D g ps h _ _ ih =>
    intro hk2
    obtain ⟨h1, h2, h3, h4, h5⟩ := ih (by omega)
    exact ⟨h1.sync, h2.sync, h3.sync, by simp [syncP]; omega, by omega⟩
end Go.Proofs.Ytmbiebdcnadhkaa.Fl

/- The driver's log and the document's side by side in one memory: each deed on one leaves the other. -/
namespace Go.Proofs.Ytmbiebdcnadhkaa.Fl
open Go.RowKit Go.Proofs.YtmbiebdcnadhkaaW.PrintWords Go.Proofs.YtmbiebdcnadhkaaW.PrintMore Go.Maps
set_option linter.unusedSimpArgs false
set_option linter.unusedVariables false
/-- Where the two logs lie. -/
structure Pl where
  q : Nat
  p : Nat
  r : Nat
  t : Nat
  x : Nat
  cap : Nat
  rest : List Value
/-- Two logs in one memory: the driver's (D, g), the document's (ps, gr). -/
structure LT (K : Nat → Prop) (N0 : Nat) (P : Pl) (s : Int × Int × Int) (D : PD) (g : LG) (ps : List Pg) (gr : LG) (w : World) : Prop where
  two : Two K N0 P.p P.x D s ps w
  log : LogIs P.q P.p g w
  rlog : RLog P.r P.t P.x P.cap P.rest gr w
  kq : K P.q
  kr : K P.r
  kt : K P.t
  nq : N0 ≤ P.q
  nr : N0 ≤ P.r
  nt : N0 ≤ P.t
section
variable {K K' : Nat → Prop} {N0 : Nat} {P : Pl} {s : Int × Int × Int} {D D2 : PD} {g g2 gr gr2 : LG} {ps ps2 : List Pg} {w w' : World}
theorem LT.below (h : LT K N0 P s D g ps gr w) (hb : Below w.heap.size w w') : LT K N0 P s D g ps gr w' := ⟨h.two.below hb, h.log.below hb, h.rlog.below hb, h.kq, h.kr, h.kt, h.nq, h.nr, h.nt⟩
theorem LT.drew (h : LT K N0 P s D g ps gr w) : LT K N0 P s D g ps gr w.drew := h.below ((Below.refl _ w).drew)
theorem LT.keep (h : LT K N0 P s D g ps gr w) (hb : Below w.heap.size w w') : LT (fun k => K k ∨ (w.heap.size ≤ k ∧ k < w'.heap.size)) N0 P s D g ps gr w' := ⟨h.two.keep hb, h.log.below hb, h.rlog.below hb, .inl h.kq, .inl h.kr, .inl h.kt, h.nq, h.nr, h.nt⟩
theorem LT.less (h : LT K N0 P s D g ps gr w) (hk : ∀ k, K' k → K k) (k1 : K' P.q) (k2 : K' P.r) (k3 : K' P.t) : LT K' N0 P s D g ps gr w := ⟨h.two.less hk, h.log, h.rlog, k1, k2, k3, h.nq, h.nr, h.nt⟩
def K3 (P : Pl) (k : Nat) : Prop := k = P.q ∨ k = P.r ∨ k = P.t
theorem LT.three (h : LT K N0 P s D g ps gr w) : LT (K3 P) N0 P s D g ps gr w := h.less (fun k hk => hk.elim (fun e => by rw [e]; exact h.kq) (fun hk => hk.elim (fun e => by rw [e]; exact h.kr) (fun e => by rw [e]; exact h.kt))) (.inl rfl) (.inr (.inl rfl)) (.inr (.inr rfl))
theorem blk_ne {T T' : TypeId} {a b : Nat} {o o' : Array Value} {f f' : Nat × Nat} (h : w.heap[a]? = some (.cells o T f)) (h' : w.heap[b]? = some (.cells o' T' f')) (hT : T ≠ T') : a ≠ b := fun e => by
  rw [e, h'] at h
  injection h with h
  injection h with _ h _
  exact hT h.symm
theorem LT.qr (h : LT K N0 P s D g ps gr w) : P.q ≠ P.r := blk_ne h.log.blk h.rlog.blk (by decide)
theorem LT.qt (h : LT K N0 P s D g ps gr w) : P.q ≠ P.t := blk_ne h.log.blk h.rlog.row (by decide)
theorem LT.lt (h : LT K N0 P s D g ps gr w) : ∀ k, K k → k < w.heap.size := (two_frame N0 P.p P.x s ps).lt h.two
theorem LT.size (h : LT K N0 P s D g ps gr w) : N0 ≤ w.heap.size := h.two.size
theorem LT.sound (h : LT K N0 P s D g ps gr w) : Sound D := (two_frame N0 P.p P.x s ps).sound h.two
/-- The driver's log has changed. -/
theorem LT.drv (h : LT K N0 P s D g ps gr w) (h1 : Two K N0 P.p P.x D2 s ps w') (h2 : LogIs P.q P.p g2 w') (hk : Kept (fun k => K k ∧ k ≠ P.q) w w') : LT K N0 P s D2 g2 ps gr w' :=
  ⟨h1, h2, h.rlog.step (hk _ ⟨h.kr, h.qr.symm⟩) (hk _ ⟨h.kt, h.qt.symm⟩), h.kq, h.kr, h.kt, h.nq, h.nr, h.nt⟩
/-- The document's log has changed. -/
theorem LT.doc (h : LT K N0 P s D g ps gr w) (h1 : Two K N0 P.p P.x D s ps2 w') (h2 : RLog P.r P.t P.x P.cap P.rest gr2 w') (hk : Kept (fun k => K k ∧ k ≠ P.r ∧ k ≠ P.t) w w') : LT K N0 P s D g ps2 gr2 w' :=
  ⟨h1, ⟨h.log.len, (hk _ ⟨h.kq, h.qr, h.qt⟩).trans h.log.blk⟩, h2, h.kq, h.kr, h.kt, h.nq, h.nr, h.nt⟩
variable {A : Option Addr} {c : Nat} {l : List Int} {kind er : Int} {at_ : Adr} {need : Int}
/-- What a put of the driver's answers, the document's log beside it. -/
def DrvPost (K : Nat → Prop) (N0 : Nat) (P : Pl) (s : Int × Int × Int) (D : PD) (g : LG) (ps : List Pg) (gr : LG) (w : World) (v : Value) (e : Ending) (w' : World) : Prop :=
  e = .returned v ∧ LT K N0 P s D g ps gr w' ∧ Below N0 w w' ∧ Kept (fun k => K k ∧ k ≠ P.q) w w'
def DocPost (K : Nat → Prop) (N0 : Nat) (P : Pl) (s : Int × Int × Int) (D : PD) (g : LG) (ps : List Pg) (gr : LG) (w : World) (v : Value) (e : Ending) (w' : World) : Prop :=
  e = .returned v ∧ LT K N0 P s D g ps gr w' ∧ Below N0 w w' ∧ Kept (fun k => K k ∧ k ≠ P.r ∧ k ≠ P.t) w w'
def putV (at_ : Adr) (er : Int) : Value := .tuple #[.agg #[.int .i64 at_.1, .int .i64 at_.2], .int .i64 er]
theorem LT.append (h : LT K N0 P s D g ps gr w) {psx : List Pg} (hp : PutStep D g psx kind l 2 at_ er D2 g2 ps2) (hi : LInv D g) (hsim : Sim D D.s psx) (hpl : psx.length < 800000) (hn1 : g.nx < 900000) (hkk : KindOk kind) (hBl : Byt l) (hm : l.length ≤ 4096) (hc : l.length ≤ c) (hCx : ∀ X, Below N0 w X → kB.C X A l.length l) :
    Calls Try.prog 64 #[.pointer (some ⟨P.q, 0, none⟩), .int .u8 kind, .slice A l.length c] w (DrvPost K N0 P s D2 g2 ps gr w (putV at_ er)) :=
  (LAppend_F (two_frame N0 P.p P.x s ps) (fun D => two_stays N0 P.p P.x D s ps) h.two h.log h.kq (fun K2 X hK hX hlX hb => hp.driver hi hsim hpl hn1 hkk hBl hm (two_frame N0 P.p P.x s ps) (fun D => two_stays N0 P.p P.x D s ps) hX hlX (hK _ h.kq) h.nq hc (fun Y hY _ => hCx Y ((hb.mono h.size).trans hY)))).mono
    fun e w' ⟨h1, h2, h3, h4, h5⟩ => ⟨h1, h.drv h2 h3 h5, h4, h5⟩
theorem LT.move (h : LT K N0 P s D g ps gr w) {psx : List Pg} (hp : PutStep D g psx kind l 1 at_ er D2 g2 ps2) (hi : LInv D g) (hsim : Sim D D.s psx) (hpl : psx.length < 800000) (hn1 : g.nx < 900000) (hkk : KindOk kind) (hBl : Byt l) (hm : l.length ≤ 4096) (hc : l.length ≤ c) (hCx : ∀ X, Below N0 w X → kB.C X A l.length l) :
    Calls Try.prog 68 #[.pointer (some ⟨P.q, 0, none⟩), .int .u8 kind, .slice A l.length c] w (DrvPost K N0 P s D2 g2 ps gr w (putV at_ er)) :=
  (LMove_F (two_frame N0 P.p P.x s ps) (fun D => two_stays N0 P.p P.x D s ps) h.two h.log h.kq (fun K2 X hK hX hlX hb => hp.driver hi hsim hpl hn1 hkk hBl hm (two_frame N0 P.p P.x s ps) (fun D => two_stays N0 P.p P.x D s ps) hX hlX (hK _ h.kq) h.nq hc (fun Y hY _ => hCx Y ((hb.mono h.size).trans hY)))).mono
    fun e w' ⟨h1, h2, h3, h4, h5⟩ => ⟨h1, h.drv h2 h3 h5, h4, h5⟩
theorem LT.rput {Dx : PD} {gx : LG} (h : LT K N0 P D.s Dx gx ps (grOf D.s g) w) (hp : PutStep D g ps kind l need at_ er D2 g2 ps2) (hi : LInv D g) (hpl : ps.length < 800000) (hn1 : g.nx < 900000) (hkk : KindOk kind) (hBl : Byt l) (hm : l.length ≤ 4096) (hc : l.length ≤ c) (hCx : ∀ X, Below N0 w X → kB.C X A l.length l) :
    Calls Try.prog 69 #[.pointer (some ⟨P.r, 0, none⟩), .int .u8 kind, .slice A l.length c, .int .i64 need] w (DocPost K N0 P D.s Dx gx ps2 (grOf D.s g2) w (putV at_ er)) :=
  (hp.ref hi hpl hn1 hkk hBl hm (two_refFrame N0 P.p P.x D.s Dx) (fun ps => two_stays N0 P.p P.x Dx D.s ps) h.two h.rlog h.kr h.kt h.nr h.nt hc hCx).mono
    fun e w' ⟨h1, h2, h3, h4, h5⟩ => ⟨h1, h.doc h2 h3 h5, h4, h5⟩
theorem LT.erase (h : LT K N0 P s D g ps gr w) (hdl : D.dirty.length < 1000000) (a : Int) :
    Calls Try.prog 70 #[.pointer (some ⟨P.q, 0, none⟩), .int .i64 a] w (DrvPost K N0 P s (lEraseD D g a) (lEraseG D.s g a) ps gr w (.int .i64 (lEraseE D.s g a))) :=
  (LErase_F (two_frame N0 P.p P.x s ps) (fun D => two_stores N0 P.p P.x D s ps) h.two h.log h.kq h.nq hdl a).mono fun e w' ⟨h1, h2, h3, h4, h5⟩ => ⟨h1, h.drv h2 h3 h5, h4, h5⟩
theorem LT.rerase {Dx : PD} {gx : LG} (h : LT K N0 P D.s Dx gx ps (grOf D.s g) w) (hi : LInv D g) (hpl : ps.length < 1000000) (a : Int) :
    Calls Try.prog 71 #[.pointer (some ⟨P.r, 0, none⟩), .int .i64 a] w (DocPost K N0 P D.s Dx gx (rEraseP ps (grOf D.s g) a) (grOf D.s (lEraseG D.s g a)) w (.int .i64 (lEraseE D.s g a))) := by
  have hs := GSim.of D.s g
  have hl := hs.len hi
  have ha1 := hi.sh.a1
  have h0 := RLErase_G (two_refFrame N0 P.p P.x D.s Dx) (fun ps => two_stays N0 P.p P.x Dx D.s ps) h.two h.rlog h.kr h.kt h.nt (by omega) hpl a
  rw [hs.eraseE hi, (hs.erase hi a).eq] at h0
  exact h0.mono fun e w' ⟨h1, h2, h3, h4, h5⟩ => ⟨h1, h.doc h2 h3 h5, h4, h5⟩
theorem LT.sealed (h : LT K N0 P s D g ps gr w) (hi : LInv D g) :
    Calls Try.prog 72 #[.pointer (some ⟨P.q, 0, none⟩)] w (DrvPost K N0 P s D (sealG g) ps gr w (.tuple #[])) :=
  (LSeal_F (F := fun K D w => Two K N0 P.p P.x D s ps w) (fun D => two_stays N0 P.p P.x D s ps) h.two h.log h.kq h.nq h.size h.lt (by have := hi.hi; have := hi.sh.a1; omega)).mono fun e w' ⟨h1, h2, h3, h4, h5⟩ => ⟨h1, h.drv h2 h3 h5, h4, h5⟩
theorem LT.rseal {Dx : PD} {gx : LG} (h : LT K N0 P D.s Dx gx ps (grOf D.s g) w) (hi : LInv D g) :
    Calls Try.prog 73 #[.pointer (some ⟨P.r, 0, none⟩)] w (DocPost K N0 P D.s Dx gx ps (grOf D.s (sealG g)) w (.tuple #[])) := by
  have hs := GSim.of D.s g
  have hl := hs.len hi
  have hh := hi.hi
  have h0 := RSeal_G (two_refFrame N0 P.p P.x D.s Dx) (fun ps => two_stays N0 P.p P.x Dx D.s ps) h.two h.rlog h.kr h.kt h.nr h.nt (show g.op < _ by omega)
  rw [(hs.sealed hi).eq] at h0
  exact h0.mono fun e w' ⟨h1, h2, h3, h4, h5⟩ => ⟨h1, h.doc h2 h3 h5, h4, h5⟩
theorem LT.sync (h : LT K N0 P s D g ps gr w) :
    Calls Try.prog 74 #[.pointer (some ⟨P.q, 0, none⟩)] w (DrvPost K N0 P s { D with dirty := [] } g ps gr w (.tuple #[])) :=
  (LSync_F (two_frame N0 P.p P.x s ps) h.two h.log h.kq).mono fun e w' ⟨h1, h2, h3, h4, h5⟩ => ⟨h1, h.drv h2 h3 (fun k hk => h5 k hk.1), h4, fun k hk => h5 k hk.1⟩
theorem LT.rsync (h : LT K N0 P s D g ps gr w) (hpl : ps.length < 1000000) :
    Calls Try.prog 62 #[.pointer (some ⟨P.x, 0, none⟩)] w (DocPost K N0 P s D g (syncP ps) gr w (.tuple #[])) :=
  (h.two.rsync hpl).mono fun e w' ⟨h1, h2, h4, h5⟩ => ⟨h1, h.doc h2 (h.rlog.step (h5 _ h.kr) (h5 _ h.kt)) (fun k hk => h5 k hk.1), h4, fun k hk => h5 k hk.1⟩
end
end Go.Proofs.Ytmbiebdcnadhkaa.Fl

/- Made (layer 15): walked. No condition. -/
namespace Go.Proofs.Ytmbiebdcnadhkaa.Fl
open Go.RowKit Go.Proofs.YtmbiebdcnadhkaaW.PrintWords Go.Proofs.YtmbiebdcnadhkaaW.PrintMore Go.Maps
set_option linter.unusedSimpArgs false
set_option linter.unusedVariables false
abbrev TSD : TypeId := 121
/-- Behind k deeds. -/
structure MadeAt (w : World) (s : Int × Int × Int) (P : Pl) (k : Nat) (D : PD) (g : LG) (ps : List Pg) (w' : World) : Prop where
  lt : LT (K3 P) w.heap.size P s D g ps (grOf s g) w'
  ds : Deeds s k D g ps
  bel : Below w.heap.size w w'
def MadePost (w : World) (s : Int × Int × Int) (n : Nat) (e : Ending) (w' : World) : Prop :=
  ∃ P D g ps, e = .returned (.tuple #[.pointer (some ⟨P.q, 0, none⟩), .pointer (some ⟨P.r, 0, none⟩), .bool true]) ∧ MadeAt w s P n D g ps w'
theorem two_of {N0 p q r t x cap : Nat} {rest : List Value} {s : Int × Int × Int} {g : LG} {K : Nat → Prop} {w w' : World} (h : Solo N0 p (fun k => K k ∨ k = q) ⟨s, [], []⟩ w) (hl : LogIs q p g w) (hN : N0 ≤ q)
    (hr : RLog r t x cap rest (grOf s g) w') (h1 : w.heap.size ≤ r) (h2 : w.heap.size ≤ t) (h3 : w.heap.size ≤ x) (h4 : r ≠ x) (h5 : t ≠ x) (hx : w'.heap[x]? = some (.cells #[.int .i64 s.1, .int .i64 s.2.1, .int .i64 s.2.2, .slice none 0 0] TX (0, 0))) (hb : Below w.heap.size w w') :
    LT (K3 ⟨q, p, r, t, x, cap, rest⟩) N0 ⟨q, p, r, t, x, cap, rest⟩ s ⟨s, [], []⟩ g [] (grOf s g) w' := by
  obtain ⟨ok, hD, h0, hsz, hK⟩ := h
  have hq : q < w.heap.size := blt hl.blk
  refine ⟨⟨_, fun k => k = x, hD.bound.below hb, ⟨by show N0 ≤ x; omega, rfl, .slice none 0 0, hx, Kd.R_nil _ _ _ _ _⟩, fun k a b => ?_, fun k a => h0 k a.1, fun k a => ?_, Nat.le_trans hsz hb.size, fun k hk => ?_⟩, hl.below hb, hr, .inl rfl, .inr (.inl rfl), .inr (.inr rfl), hN, by show N0 ≤ r; omega, by show N0 ≤ t; omega⟩
  · have := a.2.2
    have b : k = x := b
    omega
  · have a : k = x := a
    omega
  · rcases hk with e | e | e
    · have e : k = q := e
      rw [e]
      refine ⟨Nat.lt_of_lt_of_le hq hb.size, .inl ⟨fun a => ?_, fun a => ?_⟩⟩
      · rcases (hK q (.inr rfl)).2 with h | ⟨cs, fr, e⟩
        · exact h a.1
        · exact not_byte hl.blk (by decide) e
      · have a : q = x := a
        omega
    · have e : k = r := e
      rw [e]
      exact ⟨blt hr.blk, .inl ⟨fun a => by have := a.2.2; omega, fun a => h4 a⟩⟩
    · have e : k = t := e
      rw [e]
      exact ⟨blt hr.row, .inl ⟨fun a => by have := a.2.2; omega, fun a => h5 a⟩⟩
set_option maxHeartbeats 8000000 in
set_option maxRecDepth 100000 in
theorem Made15_any {w : World} {A : Option Addr} {c : Nat} {s : Int × Int × Int} {ds : List SDeed} (hm : mayB s = true) (hr : LRow w A ds) (hf : fewS ds = true) (hp : ∀ d ∈ ds, SDeedOk d) :
    Calls Try.prog 26 #[.agg #[.int .i64 s.1, .int .i64 s.2.1, .int .i64 s.2.2], .slice A ds.length c] w (MadePost w s ds.length) := by
  obtain ⟨n, hn⟩ : ∃ n, n = ds.length := ⟨_, rfl⟩
  obtain ⟨hf1, hf2⟩ := fewS_ok hf
  have hsb : shapeB s = true := by
    unfold mayB at hm
    rw [Bool.and_eq_true] at hm
    exact hm.1
  have h4 : 4 ≤ s.1 := by
    unfold mayB at hm
    rw [Bool.and_eq_true, decide_eq_true_iff] at hm
    exact hm.2
  have hsh := shapeB_ok hsb
  have hnew : ∀ W : World, w.heap.size ≤ W.heap.size → Calls Try.prog 11 #[.agg #[.int .i64 s.1, .int .i64 s.2.1, .int .i64 s.2.2]] W fun e w' => ∃ p, e = .returned (.tuple #[.pointer (some ⟨p, 0, none⟩), .int .i64 0]) ∧ Solo w.heap.size p (fun k => k < W.heap.size) ⟨s, [], []⟩ w' ∧ Below W.heap.size W w' := fun W hW => (New_ok s hsb W _ hW).mono fun e w' ⟨p, h1, h2, h3⟩ => ⟨p, h1, ⟨_, h2, fun k hk => Nat.le_trans hW hk, Nat.le_trans hW h3.size, fun k hk => ⟨Nat.lt_of_lt_of_le hk h3.size, .inl (fun a => by omega)⟩⟩, h3⟩
  have hlog : ∀ (p : Nat) (K : Nat → Prop) (W : World), Solo w.heap.size p K ⟨s, [], []⟩ W → Calls Try.prog 25 #[.pointer (some ⟨p, 0, none⟩)] W fun e w' => ∃ q, e = .returned (.tuple #[.pointer (some ⟨q, 0, none⟩), .int .i64 0]) ∧ Solo w.heap.size p (fun k => K k ∨ k = q) ⟨s, [], []⟩ w' ∧ LogIs q p (newG 1) w' ∧ Below w.heap.size W w' ∧ Kept K W w' ∧ W.heap.size ≤ q := fun p K W h => LNew_any h hsh h4
  have hrn := fun W => RNew_any s hsh W
  have HR := Lib.hid hr
  have HN := Lib.hid hn
  have HS := Lib.hid hsh
  have HP := Lib.hid hp
  have HF := Lib.hid hf2
  have HNEW := Lib.hid hnew
  have HLOG := Lib.hid hlog
  have HRN := Lib.hid hrn
  rw [← hn] at hf1
  rw [← hn]
  clear hr hn hf hm hp hf2 hnew hlog hrn hsb hsh h4
  obtain ⟨W, hW⟩ : ∃ W, W = w.alloc (.cells #[.int .i64 s.1, .int .i64 s.2.1, .int .i64 s.2.2] 23) := ⟨_, rfl⟩
  have q0 : W.heap[w.heap.size]? = some (.cells #[.int .i64 s.1, .int .i64 s.2.1, .int .i64 s.2.2] 23 (0, 0)) := by rw [hW]; exact blk_new w _
  have qb : Below w.heap.size w W := by rw [hW]; exact below_alloc (Below.refl _ _) _
  have k1 : W.cell? ⟨w.heap.size, 0, none⟩ = some (.int .i64 s.1) := bcell q0 0
  have k2 : W.cell? ⟨w.heap.size, 1, none⟩ = some (.int .i64 s.2.1) := bcell q0 1
  have k3 : W.cell? ⟨w.heap.size, 2, none⟩ = some (.int .i64 s.2.2) := bcell q0 2
  have HW := Lib.hid hW
  have Q0 := Lib.hid q0
  have QB := Aside0.mk qb
  clear hW q0 qb
  go_enter Try.func26, Try.ntmps26
  go_wp2_with fail
  rw [← HW.out]
  go_wp2_with (first
    | (go_at_call 11; (with_reducible refine (HNEW.out _ QB.out.size).mono ?_); rintro e w1 ⟨p, rfl, hS, hb⟩; have hx1 := (hb.block _ (blt Q0.out)).trans Q0.out; have HX1 := Lib.hid hx1; have HS1 := Aside0.mk hS; have HB1 := Aside0.mk (QB.out.trans (hb.mono QB.out.size)); clear hS hb hx1)
    | (go_at_call 25; (with_reducible refine (HLOG.out _ _ _ HS1.out).mono ?_); rintro e w2 ⟨q, rfl, hS, hl, hb, hk, hq⟩; have hx2 := (hk _ (blt Q0.out)).trans HX1.out; have k1 : w2.cell? ⟨w.heap.size, 0, none⟩ = some (.int .i64 s.1) := bcell hx2 0; have k2 : w2.cell? ⟨w.heap.size, 1, none⟩ = some (.int .i64 s.2.1) := bcell hx2 1; have k3 : w2.cell? ⟨w.heap.size, 2, none⟩ = some (.int .i64 s.2.2) := bcell hx2 2; have HS2 := Aside0.mk hS; have HL2 := Aside0.mk hl; have HB2 := Aside0.mk (HB1.out.trans hb); have HQ2 := Lib.hid (Nat.le_trans HB1.out.size hq); clear hS hl hb hk hx2 hq)
    | (go_at_call 67; (with_reducible refine (HRN.out _).mono ?_); rintro e w3 ⟨r, t, x, cap, rest, rfl, hr, h1, h2, h3, h4, h5, hx, hb⟩; have HT3 := Aside0.mk (two_of HS2.out HL2.out HQ2.out hr h1 h2 h3 h4 h5 hx hb); have HB3 := Aside0.mk (HB2.out.trans (hb.mono HB2.out.size)); obtain ⟨P, hP⟩ : ∃ P : Pl, P = ⟨q, p, r, t, x, cap, rest⟩ := ⟨_, rfl⟩; obtain rfl : q = P.q := (by rw [hP]); obtain rfl : r = P.r := (by rw [hP]); have HT := Aside0.mk (show LT (K3 P) w.heap.size P s ⟨s, [], []⟩ (newG 1) [] (grOf s (newG 1)) w3 from by rw [hP]; exact HT3.out); clear HT3 hr h1 h2 h3 h4 h5 hx hb hP)
    | fail)
  clear k1 k2 k3 HS1 HS2 HL2 HQ2 HX1 HB1 HB2 Q0 QB HW HNEW HLOG HRN
  go_loopw [40] (fun v40 wr => ∃ (k : Nat) (D : PD) (g : LG) (ps : List Pg), k ≤ n ∧ v40 = .int .i64 (k : Int) ∧ MadeAt w s P k D g ps wr) (fun v40 _ => n - (intOf v40).toNat)
  case atStart => exact ⟨0, _, _, _, Nat.zero_le _, rfl, ⟨HT.out, .new, HB3.out⟩⟩
  case round =>
    clear HT HB3
    obtain ⟨k, D, g, ps, hk, rfl, ht, hds, hb⟩ := hrel
    obtain ⟨hsim, hinv, hbyt, hlen, hnx⟩ := hds.keep HS.out (by omega)
    obtain rfl : D.s = s := hsim.sh
    have HT := Aside0.mk ht
    have HDS := Lib.hid hds
    have HSIM := Aside0.mk hsim
    have HINV := Aside0.mk hinv
    have HBB := Aside0.mk hb
    have HLEN := Lib.hid (show ps.length < 800000 by omega)
    have HNX := Lib.hid (show g.nx < 900000 by omega)
    have HSND := Lib.hid ht.sound
    have HNDP := Lib.hid ht.two.nodup
    clear ht hds hsim hinv hbyt hlen hnx hb
    by_cases hlt : k < n
    · obtain ⟨d, hd⟩ : ∃ d, ds[k]? = some d := ⟨_, List.getElem?_eq_getElem (by have := HN.out; omega)⟩
      obtain ⟨ad, A1, c1, hA, hc⟩ := HR.out k d hd
      have ROWC := Lib.hid (show ∀ X, Below w.heap.size w X → kB.C X A1 d.l.length d.l from fun X hX => Kd.C_below hc.row hX)
      have HCAP := Lib.hid hc.cap
      have hc := hc.below HBB.out
      subst hA
      have d0 := hc.c0; have d1 := hc.c1; have d2 := hc.c2; have d3 := hc.c3
      have hdp := HP.out d (List.mem_of_getElem? hd)
      have hdl := HF.out d (List.mem_of_getElem? hd)
      have HDP := Lib.hid hdp
      have HDL := Lib.hid hdl
      have k0 : (0 : Int) ≤ (k : Int) := by omega
      have k2 : (k : Int) < (n : Int) := by omega
      clear hd hc hdp hdl
      obtain ⟨dop, dwh, dl, dsg⟩ := d
      simp only at d0 d1 d2 d3 ROWC HCAP HDL
      obtain ⟨Y, hY⟩ : ∃ Y, Y = wr.alloc (.cells #[.int .i64 dop, .int .u8 dwh, .slice A1 dl.length c1, .int .i64 dsg] TSD) := ⟨_, rfl⟩
      have y0 : Y.heap[wr.heap.size]? = some (.cells #[.int .i64 dop, .int .u8 dwh, .slice A1 dl.length c1, .int .i64 dsg] TSD (0, 0)) := by rw [hY]; exact blk_new wr _
      have yb : Below wr.heap.size wr Y := by rw [hY]; exact below_alloc (Below.refl _ _) _
      have hT2 := HT.out.keep yb
      have HKB := Lib.hid (show (K3 P wr.heap.size ∨ (wr.heap.size ≤ wr.heap.size ∧ wr.heap.size < Y.heap.size)) ∧ wr.heap.size ≠ P.q ∧ wr.heap.size ≠ P.r ∧ wr.heap.size ≠ P.t from ⟨.inr ⟨Nat.le_refl _, blt y0⟩, by have := HT.out.lt _ HT.out.kq; omega, by have := HT.out.lt _ HT.out.kr; omega, by have := HT.out.lt _ HT.out.kt; omega⟩)
      have HY := Lib.hid hY
      have Y0 := Lib.hid y0
      have YB := Aside0.mk (HBB.out.trans (yb.mono HBB.out.size))
      have HT2 := Aside0.mk hT2
      have q0 : Y.cell? ⟨wr.heap.size, 0, none⟩ = some (.int .i64 dop) := bcell y0 0
      have q1 : Y.cell? ⟨wr.heap.size, 1, none⟩ = some (.int .u8 dwh) := bcell y0 1
      have q2 : Y.cell? ⟨wr.heap.size, 2, none⟩ = some (.slice A1 dl.length c1) := bcell y0 2
      have q3 : Y.cell? ⟨wr.heap.size, 3, none⟩ = some (.int .i64 dsg) := bcell y0 3
      clear hY y0 yb hT2
      by_cases o1 : dop = 1
      · subst o1
        obtain ⟨⟨a1, a2⟩, er, D2, g2, ps2, hp⟩ := put_total HINV.out (show (1 : Int) ≤ 1 by decide) ps dwh dl
        have hkeep := hp.keep HINV.out HSIM.out (by have := HDL.out; omega) HDP.out.kd HDP.out.byt HNX.out
        have hap := fun (K : Nat → Prop) (X : World) (h : LT K w.heap.size P D.s D g ps (grOf D.s g) X) (hX : Below w.heap.size w X) => h.move hp HINV.out HSIM.out HLEN.out HNX.out HDP.out.kd HDP.out.byt (by have := HDL.out; omega) HCAP.out (fun Z hZ => ROWC.out Z (hX.trans hZ))
        have hpu := fun (K : Nat → Prop) (X : World) (h : LT K w.heap.size P D.s D2 g2 ps (grOf D.s g) X) (hX : Below w.heap.size w X) => h.rput hp HINV.out HLEN.out HNX.out HDP.out.kd HDP.out.byt (by have := HDL.out; omega) HCAP.out (fun Z hZ => ROWC.out Z (hX.trans hZ))
        unfold DrvPost putV at hap
        unfold DocPost putV at hpu
        have HAP := Lib.hid hap
        have HPU := Lib.hid hpu
        have HPP := Lib.hid hp
        clear hap hpu hp hkeep
        have en : (er != er) = false := by simp
        go_wp2_with (first
          | (rw [← HY.out])
          | (rw [← HW3.out])
          | (rw [← HW5.out])
          | (go_at_call 68; (with_reducible refine (HAP.out _ _ HT2.out YB.out).mono ?_); rintro e w2 ⟨rfl, ht, hb, hk⟩; have hx2 := (hk wr.heap.size ⟨HKB.out.1, HKB.out.2.1⟩).trans Y0.out; obtain ⟨W3, hW3⟩ : ∃ W3, W3 = w2.alloc (.cells #[.int .i64 a1, .int .i64 a2] TA) := ⟨_, rfl⟩; have b23 : Below w2.heap.size w2 W3 := (by rw [hW3]; exact below_alloc (Below.refl _ _) _); have t3 : W3.heap[w2.heap.size]? = some (.cells #[.int .i64 a1, .int .i64 a2] TA (0, 0)) := (by rw [hW3]; exact blk_new _ _); have hx3 := (b23.block _ (blt hx2)).trans hx2; have z1 : W3.cell? ⟨wr.heap.size, 1, none⟩ = some (.int .u8 dwh) := bcell hx3 1; have z2 : W3.cell? ⟨wr.heap.size, 2, none⟩ = some (.slice A1 dl.length c1) := bcell hx3 2; have HT3 := Aside0.mk (ht.keep b23); have HK3 := Lib.hid (show w2.heap.size ≠ P.r ∧ w2.heap.size ≠ P.t ∧ w2.heap.size < W3.heap.size from ⟨by have := ht.lt _ ht.kr; omega, by have := ht.lt _ ht.kt; omega, blt t3⟩); have T3 := Lib.hid t3; have HB3 := Aside0.mk ((YB.out.trans hb).trans (b23.mono (Nat.le_trans YB.out.size hb.size))); have HW3 := Lib.hid hW3; clear ht hb hk hx2 hx3 b23 t3 hW3)
          | (go_at_call 69; (with_reducible refine (HPU.out _ _ HT3.out HB3.out).mono ?_); rintro e w4 ⟨rfl, ht, hb, hk⟩; have x4 := (hk w2.heap.size ⟨.inr ⟨Nat.le_refl _, HK3.out.2.2⟩, HK3.out.1, HK3.out.2.1⟩).trans T3.out; obtain ⟨W5, hW5⟩ : ∃ W5, W5 = w4.alloc (.cells #[.int .i64 a1, .int .i64 a2] TA) := ⟨_, rfl⟩; have b45 : Below w4.heap.size w4 W5 := (by rw [hW5]; exact below_alloc (Below.refl _ _) _); have t5 : W5.heap[w4.heap.size]? = some (.cells #[.int .i64 a1, .int .i64 a2] TA (0, 0)) := (by rw [hW5]; exact blk_new _ _); have x5 := (b45.block _ (blt x4)).trans x4; have u0 : W5.cell? ⟨w2.heap.size, 0, none⟩ = some (.int .i64 a1) := bcell x5 0; have u1 : W5.cell? ⟨w2.heap.size, 1, none⟩ = some (.int .i64 a2) := bcell x5 1; have v0 : W5.cell? ⟨w4.heap.size, 0, none⟩ = some (.int .i64 a1) := bcell t5 0; have v1 : W5.cell? ⟨w4.heap.size, 1, none⟩ = some (.int .i64 a2) := bcell t5 1; have HT5 := Aside0.mk (ht.below b45).three; have HB5 := Aside0.mk ((HB3.out.trans hb).trans (b45.mono (Nat.le_trans HB3.out.size hb.size))); have HW5 := Lib.hid hW5; clear ht hb hk x4 x5 b45 t5 hW5)
          | fail)
        exact ⟨⟨k + 1, _, _, _, by omega, by go_num, ⟨HT5.out, HDS.out.put HSND.out HNDP.out HDP.out.kd HDP.out.byt HDL.out (.inl rfl) HPP.out, HB5.out⟩⟩, by simp [intOf]; omega⟩
      · have e1 : (dop == 1) = false := by simpa using o1
        by_cases o2 : dop = 2
        · subst o2
          have her := fun (K : Nat → Prop) (X : World) (h : LT K w.heap.size P D.s D g ps (grOf D.s g) X) => h.erase (by have := HSIM.out.dirtyLe; have := HLEN.out; omega) dsg
          have hre := fun (K : Nat → Prop) (X : World) (h : LT K w.heap.size P D.s (lEraseD D g dsg) (lEraseG D.s g dsg) ps (grOf D.s g) X) => h.rerase HINV.out (by have := HLEN.out; omega) dsg
          unfold DrvPost at her
          unfold DocPost at hre
          obtain ⟨er, her0⟩ : ∃ er, er = lEraseE D.s g dsg := ⟨_, rfl⟩
          rw [← her0] at her hre
          have HER := Lib.hid her
          have HRE := Lib.hid hre
          clear her hre her0
          have en : (er != er) = false := by simp
          have HTD := Aside0.mk HT2.out.drew
          go_wp2_with fail
          rw [← HY.out]
          go_wp2_with fail
          go_region_held3 (fun w' => w'.cell? ⟨wr.heap.size, 3, none⟩ = some (.int .i64 dsg)) (first | go_keep | exact z3 | exact z4)
            (first
              | (go_at_call 70; (with_reducible refine (HER.out _ _ HTD.out).mono ?_); rintro e w2 ⟨rfl, ht, hb, hk⟩; have hx2 := (hk wr.heap.size ⟨HKB.out.1, HKB.out.2.1⟩).trans Y0.out; have z3 : w2.cell? ⟨wr.heap.size, 3, none⟩ = some (.int .i64 dsg) := bcell hx2 3; have HT3 := Aside0.mk ht; have HX3 := Lib.hid hx2; have HB3 := Aside0.mk (YB.out.drew.trans hb); clear ht hb hk hx2)
              | (go_at_call 71; (with_reducible refine (HRE.out _ _ HT3.out).mono ?_); rintro e w4 ⟨rfl, ht, hb, hk⟩; have hx4 := (hk wr.heap.size ⟨HKB.out.1, HKB.out.2.2⟩).trans HX3.out; have z4 : w4.cell? ⟨wr.heap.size, 3, none⟩ = some (.int .i64 dsg) := bcell hx4 3; have HT5 := Aside0.mk ht.three; have HB5 := Aside0.mk (HB3.out.trans hb); clear ht hb hk hx4)
              | fail)
          go_wp2
          exact ⟨⟨k + 1, _, _, _, by omega, by go_num, ⟨HT5.out, HDS.out.erase HSND.out HNDP.out dsg, HB5.out⟩⟩, by simp [intOf]; omega⟩
        · have e2 : (dop == 2) = false := by simpa using o2
          by_cases o3 : dop = 3
          · subst o3
            have her := HT2.out.sealed HINV.out
            have hre := fun (K : Nat → Prop) (X : World) (h : LT K w.heap.size P D.s D (sealG g) ps (grOf D.s g) X) => h.rseal HINV.out
            unfold DrvPost at her
            unfold DocPost at hre
            have HER := Lib.hid her
            have HRE := Lib.hid hre
            clear her hre
            go_wp2_with (first
              | (rw [← HY.out])
              | (go_at_call 72; (with_reducible refine HER.out.mono ?_); rintro e w2 ⟨rfl, ht, hb, hk⟩; have HT3 := Aside0.mk ht; have HB3 := Aside0.mk (YB.out.trans hb); clear ht hb hk)
              | (go_at_call 73; (with_reducible refine (HRE.out _ _ HT3.out).mono ?_); rintro e w4 ⟨rfl, ht, hb, hk⟩; have HT5 := Aside0.mk ht.three; have HB5 := Aside0.mk (HB3.out.trans hb); clear ht hb hk)
              | fail)
            exact ⟨⟨k + 1, _, _, _, by omega, by go_num, ⟨HT5.out, HDS.out.sealed HSND.out HNDP.out, HB5.out⟩⟩, by simp [intOf]; omega⟩
          · have e3 : (dop == 3) = false := by simpa using o3
            by_cases o4 : dop = 4
            · subst o4
              have her := HT2.out.sync
              have hre := fun (K : Nat → Prop) (X : World) (h : LT K w.heap.size P D.s { D with dirty := [] } g ps (grOf D.s g) X) => h.rsync (by have := HLEN.out; omega)
              unfold DrvPost at her
              unfold DocPost at hre
              have HER := Lib.hid her
              have HRE := Lib.hid hre
              clear her hre
              go_wp2_with (first
                | (rw [← HY.out])
                | (go_at_call 74; (with_reducible refine HER.out.mono ?_); rintro e w2 ⟨rfl, ht, hb, hk⟩; have z0 := ht.rlog.c0; have HT3 := Aside0.mk ht; have HB3 := Aside0.mk (YB.out.trans hb); clear ht hb hk)
                | (go_at_call 62; (with_reducible refine (HRE.out _ _ HT3.out).mono ?_); rintro e w4 ⟨rfl, ht, hb, hk⟩; have HT5 := Aside0.mk ht.three; have HB5 := Aside0.mk (HB3.out.trans hb); clear ht hb hk)
                | fail)
              exact ⟨⟨k + 1, _, _, _, by omega, by go_num, ⟨HT5.out, HDS.out.sync HSND.out HNDP.out, HB5.out⟩⟩, by simp [intOf]; omega⟩
            · have e4 : (dop == 4) = false := by simpa using o4
              obtain ⟨⟨a1, a2⟩, er, D2, g2, ps2, hp⟩ := put_total HINV.out (show (1 : Int) ≤ 2 by decide) ps dwh dl
              have hkeep := hp.keep HINV.out HSIM.out (by have := HDL.out; omega) HDP.out.kd HDP.out.byt HNX.out
              have hap := fun (K : Nat → Prop) (X : World) (h : LT K w.heap.size P D.s D g ps (grOf D.s g) X) (hX : Below w.heap.size w X) => h.append hp HINV.out HSIM.out HLEN.out HNX.out HDP.out.kd HDP.out.byt (by have := HDL.out; omega) HCAP.out (fun Z hZ => ROWC.out Z (hX.trans hZ))
              have hpu := fun (K : Nat → Prop) (X : World) (h : LT K w.heap.size P D.s D2 g2 ps (grOf D.s g) X) (hX : Below w.heap.size w X) => h.rput hp HINV.out HLEN.out HNX.out HDP.out.kd HDP.out.byt (by have := HDL.out; omega) HCAP.out (fun Z hZ => ROWC.out Z (hX.trans hZ))
              unfold DrvPost putV at hap
              unfold DocPost putV at hpu
              have HAP := Lib.hid hap
              have HPU := Lib.hid hpu
              have HPP := Lib.hid hp
              clear hap hpu hp hkeep
              have en : (er != er) = false := by simp
              go_wp2_with (first
                | (rw [← HY.out])
                | (rw [← HW3.out])
                | (rw [← HW5.out])
                | (go_at_call 64; (with_reducible refine (HAP.out _ _ HT2.out YB.out).mono ?_); rintro e w2 ⟨rfl, ht, hb, hk⟩; have hx2 := (hk wr.heap.size ⟨HKB.out.1, HKB.out.2.1⟩).trans Y0.out; obtain ⟨W3, hW3⟩ : ∃ W3, W3 = w2.alloc (.cells #[.int .i64 a1, .int .i64 a2] TA) := ⟨_, rfl⟩; have b23 : Below w2.heap.size w2 W3 := (by rw [hW3]; exact below_alloc (Below.refl _ _) _); have t3 : W3.heap[w2.heap.size]? = some (.cells #[.int .i64 a1, .int .i64 a2] TA (0, 0)) := (by rw [hW3]; exact blk_new _ _); have hx3 := (b23.block _ (blt hx2)).trans hx2; have z1 : W3.cell? ⟨wr.heap.size, 1, none⟩ = some (.int .u8 dwh) := bcell hx3 1; have z2 : W3.cell? ⟨wr.heap.size, 2, none⟩ = some (.slice A1 dl.length c1) := bcell hx3 2; have HT3 := Aside0.mk (ht.keep b23); have HK3 := Lib.hid (show w2.heap.size ≠ P.r ∧ w2.heap.size ≠ P.t ∧ w2.heap.size < W3.heap.size from ⟨by have := ht.lt _ ht.kr; omega, by have := ht.lt _ ht.kt; omega, blt t3⟩); have T3 := Lib.hid t3; have HB3 := Aside0.mk ((YB.out.trans hb).trans (b23.mono (Nat.le_trans YB.out.size hb.size))); have HW3 := Lib.hid hW3; clear ht hb hk hx2 hx3 b23 t3 hW3)
                | (go_at_call 69; (with_reducible refine (HPU.out _ _ HT3.out HB3.out).mono ?_); rintro e w4 ⟨rfl, ht, hb, hk⟩; have x4 := (hk w2.heap.size ⟨.inr ⟨Nat.le_refl _, HK3.out.2.2⟩, HK3.out.1, HK3.out.2.1⟩).trans T3.out; obtain ⟨W5, hW5⟩ : ∃ W5, W5 = w4.alloc (.cells #[.int .i64 a1, .int .i64 a2] TA) := ⟨_, rfl⟩; have b45 : Below w4.heap.size w4 W5 := (by rw [hW5]; exact below_alloc (Below.refl _ _) _); have t5 : W5.heap[w4.heap.size]? = some (.cells #[.int .i64 a1, .int .i64 a2] TA (0, 0)) := (by rw [hW5]; exact blk_new _ _); have x5 := (b45.block _ (blt x4)).trans x4; have u0 : W5.cell? ⟨w2.heap.size, 0, none⟩ = some (.int .i64 a1) := bcell x5 0; have u1 : W5.cell? ⟨w2.heap.size, 1, none⟩ = some (.int .i64 a2) := bcell x5 1; have v0 : W5.cell? ⟨w4.heap.size, 0, none⟩ = some (.int .i64 a1) := bcell t5 0; have v1 : W5.cell? ⟨w4.heap.size, 1, none⟩ = some (.int .i64 a2) := bcell t5 1; have HT5 := Aside0.mk (ht.below b45).three; have HB5 := Aside0.mk ((HB3.out.trans hb).trans (b45.mono (Nat.le_trans HB3.out.size hb.size))); have HW5 := Lib.hid hW5; clear ht hb hk x4 x5 b45 t5 hW5)
                | fail)
              exact ⟨⟨k + 1, _, _, _, by omega, by go_num, ⟨HT5.out, HDS.out.put HSND.out HNDP.out HDP.out.kd HDP.out.byt HDL.out (.inr rfl) HPP.out, HB5.out⟩⟩, by simp [intOf]; omega⟩
    · obtain rfl : k = n := by omega
      go_wp2
      go_ret3
      exact ⟨P, D, g, ps, rfl, HT.out, HDS.out, HBB.out⟩
end Go.Proofs.Ytmbiebdcnadhkaa.Fl

/- Chapter 15's example: walked. No condition. -/
namespace Go.Proofs.Ytmbiebdcnadhkaa.Fl
open Go.RowKit Go.Proofs.YtmbiebdcnadhkaaW.PrintWords Go.Proofs.YtmbiebdcnadhkaaW.PrintMore Go.Maps
set_option linter.unusedSimpArgs false
set_option linter.unusedVariables false
def aS : Int × Int × Int := (4, 8, 16)
def aD : PD := ⟨aS, [], []⟩
theorem a_sh : ShapeOk aS := ⟨by decide, by decide, by decide, by decide, by decide, by decide⟩
theorem a_inv : LInv aD (newG 1) := LInv.new a_sh
theorem a_step : ∃ D2 g2 ps2, PutStep aD (newG 1) [] 2 [7] 2 (0, 1) 0 D2 g2 ps2 ∧ stateV aS g2 0 = 1 :=
  ⟨_, _, _, .turn 0 (by decide) (by decide) (.inl (by decide)) (by decide) (by decide) (by decide) (by decide) (fun i hi => absurd hi (by omega)) (firstAt_is (by decide) (fun i hi => absurd hi (by omega))), by decide⟩
set_option maxHeartbeats 2000000 in
set_option maxRecDepth 100000 in
theorem Awake15_any (w : World) : Calls Try.prog 22 #[] w fun e w' => e = .returned (.bool true) ∧ Below w.heap.size w w' := by
  have hnew : Calls Try.prog 11 #[.agg #[.int .i64 4, .int .i64 8, .int .i64 16]] w fun e w' => ∃ p, e = .returned (.tuple #[.pointer (some ⟨p, 0, none⟩), .int .i64 0]) ∧ DevIs w.heap.size p aD (fun k => w.heap.size ≤ k) w' ∧ Below w.heap.size w w' := New_ok aS rfl w w.heap.size (Nat.le_refl _)
  have hlog : ∀ (p : Nat) (W : World), Solo w.heap.size p (fun _ => False) aD W → Calls Try.prog 25 #[.pointer (some ⟨p, 0, none⟩)] W fun e w' => ∃ q, e = .returned (.tuple #[.pointer (some ⟨q, 0, none⟩), .int .i64 0]) ∧ Solo w.heap.size p (fun k => False ∨ k = q) aD w' ∧ LogIs q p (newG 1) w' ∧ Below w.heap.size W w' ∧ Kept (fun _ => False) W w' ∧ W.heap.size ≤ q := fun p W h => LNew_any h a_sh (by decide)
  obtain ⟨D2, g2, ps2, hp, hst⟩ := a_step
  have hkeep := hp.keep a_inv (Sim.new aS) (by decide) ⟨by decide, by decide⟩ (fun x hx => by simp at hx; omega) (by decide)
  have hs2 : D2.s = aS := hkeep.sh
  have hap : ∀ (p q g : Nat) (W : World) (K : Nat → Prop), Solo w.heap.size p K aD W → LogIs q p (newG 1) W → K q → w.heap.size ≤ q → K g → g ≠ q → W.cell? ⟨g, 0, none⟩ = some (.int .u8 7) → Calls Try.prog 64 #[.pointer (some ⟨q, 0, none⟩), .int .u8 2, .slice (some ⟨g, 0, none⟩) 1 1] W fun e w' => e = .returned (.tuple #[.agg #[.int .i64 0, .int .i64 1], .int .i64 0]) ∧ Solo w.heap.size p K D2 w' ∧ LogIs q p g2 w' ∧ Below w.heap.size W w' := fun p q g W K h hl hq hN hg hgq hc => by
    refine (LAppend_F (solo_frame _ _) (fun D => solo_stays _ _ D) h hl hq (fun K2 X hK hX hlX hb => hp.driver a_inv (Sim.new aS) (by decide) (by decide) ⟨by decide, by decide⟩ (fun x hx => by simp at hx; omega) (by decide) (solo_frame _ _) (fun D => solo_stays _ _ D) hX hlX (hK q hq) hN (Nat.le_refl _) (fun Y hY hkY => ?_))).mono fun e w' ⟨h1, h2, h3, h4, h5⟩ => ⟨h1, h2, h3, h4⟩
    refine C_one7 ?_
    have hlt := (solo_frame _ _).lt h g hg
    have e1 : Y.heap[g]? = W.heap[g]? := (hkY g ⟨hK g hg, hgq⟩).trans (hb.block g hlt)
    unfold World.cell? at hc ⊢
    rw [e1]
    exact hc
  have hstt : ∀ (p q : Nat) (W : World) (K : Nat → Prop), Solo w.heap.size p K D2 W → LogIs q p g2 W → Calls Try.prog 30 #[.pointer (some ⟨q, 0, none⟩), .int .i64 0] W fun e w' => e = .returned (.int .i64 1) ∧ Below W.heap.size W w' := fun p q W K h hl => by
    obtain ⟨ok, hD⟩ := (solo_frame _ _).dev h
    have := LState_any hl hD 0
    rw [hs2, hst] at this
    exact this
  have HNEW := Lib.hid hnew
  have HLOG := Lib.hid hlog
  have HAP := Lib.hid hap
  have HST := Lib.hid hstt
  clear hnew hlog hap hstt hkeep hs2 hst hp
  go_enter Try.func22, Try.ntmps22
  go_wp2_with (first
    | (rw [← HW3.out])
    | (rw [← HW5.out])
    | (go_at_call 11; (with_reducible refine HNEW.out.mono ?_); rintro e w1 ⟨p, rfl, hd, hb⟩; have HD1 := Aside0.mk (Solo.new (Nat.le_refl _) hd hb); have HB1 := Aside0.mk hb; clear hd hb)
    | (go_at_call 25; (with_reducible refine (HLOG.out _ _ HD1.out).mono ?_); rintro e w2 ⟨q, rfl, hS, hl, hb, hk, hq⟩; obtain ⟨W3, hW3⟩ : ∃ W3, W3 = w2.alloc (.cells #[.int .u8 7] TB) := ⟨_, rfl⟩; have b23 : Below w2.heap.size w2 W3 := (by rw [hW3]; exact below_alloc (Below.refl _ _) _); have t3 : W3.heap[w2.heap.size]? = some (.cells #[.int .u8 7] TB (0, 0)) := (by rw [hW3]; exact blk_new _ _); have HT3 := Lib.hid (bcell t3 0); have HK3 := Lib.hid (show w2.heap.size < W3.heap.size ∧ w2.heap.size ≠ q from ⟨blt t3, by have := blt hl.blk; omega⟩); have HS3 := Aside0.mk ((solo_frame _ _).keep hS b23); have HL3 := Aside0.mk (hl.below b23); have HQ3 := Lib.hid (Nat.le_trans HB1.out.size hq); have HB3 := Aside0.mk ((HB1.out.trans hb).trans (b23.mono (Nat.le_trans HB1.out.size hb.size))); have HW3 := Lib.hid hW3; clear hS hl hb hk hq b23 t3 hW3)
    | (go_at_call 64; (have hap3 := HAP.out _ _ w2.heap.size _ _ HS3.out HL3.out (.inl (.inr rfl)) HQ3.out (.inr ⟨Nat.le_refl _, HK3.out.1⟩) HK3.out.2 HT3.out); (with_reducible refine hap3.mono ?_); clear hap3; rintro e w4 ⟨rfl, hS, hl, hb⟩; obtain ⟨W5, hW5⟩ : ∃ W5, W5 = w4.alloc (.cells #[.int .i64 0, .int .i64 1] TA) := ⟨_, rfl⟩; have b45 : Below w4.heap.size w4 W5 := (by rw [hW5]; exact below_alloc (Below.refl _ _) _); have t5 : W5.heap[w4.heap.size]? = some (.cells #[.int .i64 0, .int .i64 1] TA (0, 0)) := (by rw [hW5]; exact blk_new _ _); have u0 : W5.cell? ⟨w4.heap.size, 0, none⟩ = some (.int .i64 0) := bcell t5 0; have u1 : W5.cell? ⟨w4.heap.size, 1, none⟩ = some (.int .i64 1) := bcell t5 1; have HS5 := Aside0.mk ((solo_frame _ _).below hS b45); have HL5 := Aside0.mk (hl.below b45); have HB5 := Aside0.mk ((HB3.out.trans hb).trans (b45.mono (Nat.le_trans HB3.out.size hb.size))); have HW5 := Lib.hid hW5; clear hS hl hb b45 t5 hW5)
    | (go_at_call 30; (with_reducible refine (HST.out _ _ _ _ HS5.out HL5.out).mono ?_); rintro e w6 ⟨rfl, hb⟩; have HB6 := Aside0.mk (HB5.out.trans (hb.mono HB5.out.size)); clear hb)
    | fail)
  go_ret
  exact ⟨rfl, HB6.out⟩
end Go.Proofs.Ytmbiebdcnadhkaa.Fl

/- A log of no device, and of one with too few segments: walked. No condition. -/
namespace Go.Proofs.Ytmbiebdcnadhkaa.Fl
open Go.RowKit Go.Proofs.YtmbiebdcnadhkaaW.PrintWords Go.Proofs.YtmbiebdcnadhkaaW.PrintMore Go.Maps
set_option linter.unusedSimpArgs false
set_option linter.unusedVariables false
set_option maxHeartbeats 1000000 in
set_option maxRecDepth 100000 in
theorem Shape_none (w : World) : Calls Try.prog 56 #[.pointer none] w fun e w' => e = .returned (.agg #[.int .i64 0, .int .i64 0, .int .i64 0]) ∧ Below w.heap.size w w' := by
  go_enter Try.func56, Try.ntmps56
  go_wp2_with (go_at_call 53; (with_reducible refine (ok_nil _).mono ?_); rintro e w' ⟨rfl, rfl⟩)
  exact bodyPost_ret (v := .agg #[.int .i64 0, .int .i64 0, .int .i64 0]) (by simp [results, Try.results56, go_sem]) rfl ⟨rfl, by repeat' (first | exact Below.refl _ _ | refine Below.setCell ?_ (Nat.le_refl _) _ | refine Below.alloc ?_ (Nat.le_refl _) _)⟩
section
variable {p N0 : Nat} {w : World} {D : PD} {ok : Nat → Prop}
set_option maxHeartbeats 1000000 in
set_option maxRecDepth 100000 in
theorem fresh_none (nx : Int) (w : World) : Calls Try.prog 65 #[.pointer none, .int .u64 nx] w fun e w' => e = .returned (.tuple #[.pointer none, .int .i64 2]) ∧ Below w.heap.size w w' := by
  have rs := fun (X : World) => run_shape1 X 0 0 0
  go_enter Try.func65, Try.ntmps65
  go_wp2_with (go_at_call 56; (with_reducible refine (Shape_none _).mono ?_); rintro e w2 ⟨rfl, hb⟩; have HB := Aside0.mk hb; clear hb)
  go_ret2
  exact ⟨rfl, HB.out⟩
set_option maxHeartbeats 1000000 in
set_option maxRecDepth 100000 in
theorem fresh_few (hD : DevIs N0 p D ok w) (h4 : D.s.1 < 4) (nx : Int) : Calls Try.prog 65 #[.pointer (some ⟨p, 0, none⟩), .int .u64 nx] w fun e w' => e = .returned (.tuple #[.pointer none, .int .i64 1]) ∧ Below w.heap.size w w' := by
  have hs := hD.sound.sh.a0
  have HS := Lib.hid (Shape_any hD)
  have rs := fun (X : World) => run_shape1 X D.s.1 D.s.2.1 D.s.2.2
  have e1 : (D.s.1 == 0) = false := by simp; omega
  have e2 : decide (D.s.1 < 4) = true := by simp; omega
  clear hD hs
  go_enter Try.func65, Try.ntmps65
  go_wp2_with (go_at_call 56; (with_reducible refine HS.out.mono ?_); rintro e w2 ⟨rfl, hb⟩; have HB := Aside0.mk hb; clear hb)
  go_ret2
  exact ⟨rfl, HB.out⟩
set_option maxHeartbeats 1000000 in
set_option maxRecDepth 100000 in
theorem LNew_none (w : World) : Calls Try.prog 25 #[.pointer none] w fun e w' => e = .returned (.tuple #[.pointer none, .int .i64 2]) ∧ Below w.heap.size w w' := by
  go_enter Try.func25, Try.ntmps25
  go_wp2_with (go_at_call 65; (with_reducible refine (fresh_none _ _).mono ?_); rintro e w2 ⟨rfl, hb⟩; have HB := Aside0.mk hb; clear hb)
  go_ret2
  exact ⟨rfl, HB.out⟩
set_option maxHeartbeats 1000000 in
set_option maxRecDepth 100000 in
theorem LNew_few (hD : DevIs N0 p D ok w) (h4 : D.s.1 < 4) : Calls Try.prog 25 #[.pointer (some ⟨p, 0, none⟩)] w fun e w' => e = .returned (.tuple #[.pointer none, .int .i64 1]) ∧ Below w.heap.size w w' := by
  have HF := Lib.hid (fresh_few hD h4 1)
  clear hD h4
  go_enter Try.func25, Try.ntmps25
  go_wp2_with (go_at_call 65; (with_reducible refine HF.out.mono ?_); rintro e w2 ⟨rfl, hb⟩; have HB := Aside0.mk hb; clear hb)
  go_ret2
  exact ⟨rfl, HB.out⟩
end
end Go.Proofs.Ytmbiebdcnadhkaa.Fl

/- SeglogDoes: walked. No condition but what every argument brings. -/
namespace Go.Proofs.Ytmbiebdcnadhkaa.Fl
open Go.RowKit Go.Proofs.YtmbiebdcnadhkaaW.PrintWords Go.Proofs.YtmbiebdcnadhkaaW.PrintMore Go.Maps
set_option linter.unusedSimpArgs false
set_option linter.unusedVariables false
theorem LInv.openV {D : PD} {g : LG} (h : LInv D g) : Fl.openV g = (g.op, g.pg) := by
  unfold Fl.openV
  split
  · rename_i h0
    obtain ⟨h1, h2⟩ := h.zero h0
    rw [h1, h2]
  · rfl
set_option maxHeartbeats 8000000 in
set_option maxRecDepth 100000 in
theorem SeglogDoes_any {w : World} {A : Option Addr} {c : Nat} (s : Int × Int × Int) {ds : List SDeed} (hr : LRow w A ds) (h0 : ds.length ≤ 9223372036854775807) (hp : ∀ d ∈ ds, SDeedOk d) (seg state : Int) :
    Calls Try.prog 4 #[.agg #[.int .i64 s.1, .int .i64 s.2.1, .int .i64 s.2.2], .slice A ds.length c, .int .i64 seg, .int .i64 state] w fun e w' => e = .returned (.bool true) ∧ Below w.heap.size w w' := by
  obtain ⟨n, hn⟩ : ∃ n, n = ds.length := ⟨_, rfl⟩
  obtain ⟨W, hW⟩ : ∃ W, W = w.alloc (.cells #[.int .i64 s.1, .int .i64 s.2.1, .int .i64 s.2.2] 23) := ⟨_, rfl⟩
  have q0 : W.heap[w.heap.size]? = some (.cells #[.int .i64 s.1, .int .i64 s.2.1, .int .i64 s.2.2] 23 (0, 0)) := by rw [hW]; exact blk_new w _
  have qb : Below w.heap.size w W := by rw [hW]; exact below_alloc (Below.refl _ _) _
  have hbox : ∀ V : World, Below W.heap.size W V → V.cell? ⟨w.heap.size, 0, none⟩ = some (.int .i64 s.1) ∧ V.cell? ⟨w.heap.size, 1, none⟩ = some (.int .i64 s.2.1) ∧ V.cell? ⟨w.heap.size, 2, none⟩ = some (.int .i64 s.2.2) := fun V hV => by
    have := (hV.block w.heap.size (blt q0)).trans q0
    exact ⟨bcell this 0, bcell this 1, bcell this 2⟩
  have hfew : ∀ V : World, Below W.heap.size W V → Calls Try.prog 23 #[.slice A n c] V fun e w' => e = .returned (.bool (fewS ds)) ∧ Below W.heap.size W w' := fun V hV => by
    rw [hn]
    exact (Few15_any ((hr.below qb).below hV) h0).mono fun e w' ⟨h1, h2⟩ => ⟨h1, hV.trans (h2.mono hV.size)⟩
  have hmade : mayB s = true → fewS ds = true → ∀ V : World, Below W.heap.size W V → Calls Try.prog 26 #[.agg #[.int .i64 s.1, .int .i64 s.2.1, .int .i64 s.2.2], .slice A n c] V (MadePost V s ds.length) := fun hs hf V hV => by
    rw [hn]
    exact Made15_any hs ((hr.below qb).below hV) hf hp
  have hlen : fewS ds = true → ds.length ≤ 60 := fun h => (fewS_ok h).1
  have HBOX := Lib.hid hbox
  have HFEW := Lib.hid hfew
  have HMADE := Lib.hid hmade
  have HLEN := Lib.hid hlen
  have HW := Lib.hid hW
  have QB := Aside0.mk qb
  have HN := Lib.hid hn
  rw [← hn] at h0
  rw [← hn]
  clear hr hn hp hbox hfew hmade hW q0 qb hlen
  cases hf : fewS ds with
  | false =>
    have HF := Lib.hid hf
    clear hf
    go_enter Try.func4, Try.ntmps4
    go_wp2_with fail
    rw [← HW.out]
    go_wp2_with (first
      | (go_at_call 22; (with_reducible refine (Awake15_any _).mono ?_); rintro e w1 ⟨rfl, hb⟩; have HB1 := Aside0.mk hb; clear hb)
      | (go_at_call 23; (with_reducible refine (HFEW.out _ HB1.out).mono ?_); rw [HF.out]; rintro e w2 ⟨rfl, hb⟩; obtain ⟨k1, k2, k3⟩ := HBOX.out _ hb; have HB2 := Aside0.mk hb; clear hb)
      | fail)
    go_ret
    exact ⟨rfl, QB.out.trans (HB2.out.mono QB.out.size)⟩
  | true =>
    have HF := Lib.hid hf
    clear hf
    cases hm : mayB s with
    | false =>
      have HM := Lib.hid hm
      cases hs : shapeB s with
      | false =>
        have hno := fun V => New_no s hs V
        have HNO := Lib.hid hno
        clear hs hno hm
        go_enter Try.func4, Try.ntmps4
        go_wp2_with fail
        rw [← HW.out]
        go_wp2_with (first
          | (go_at_call 22; (with_reducible refine (Awake15_any _).mono ?_); rintro e w1 ⟨rfl, hb⟩; have HB1 := Aside0.mk hb; clear hb)
          | (go_at_call 23; (with_reducible refine (HFEW.out _ HB1.out).mono ?_); rw [HF.out]; rintro e w2 ⟨rfl, hb⟩; obtain ⟨k1, k2, k3⟩ := HBOX.out _ hb; have HB2 := Aside0.mk hb; clear hb)
          | (go_at_call 24; (with_reducible refine (May_any _ _).mono ?_); rw [HM.out]; rintro e w3 ⟨rfl, hb⟩; have HB3 := Aside0.mk (HB2.out.trans (hb.mono HB2.out.size)); clear hb; obtain ⟨j1, j2, j3⟩ := HBOX.out _ HB3.out)
          | (go_at_call 11; (with_reducible refine (HNO.out _).mono ?_); rintro e w4 ⟨rfl, hb⟩; have HB4 := Aside0.mk (HB3.out.trans (hb.mono HB3.out.size)); clear hb)
          | (go_at_call 25; (with_reducible refine (LNew_none _).mono ?_); rintro e w5 ⟨rfl, hb⟩; have HB5 := Aside0.mk (HB4.out.trans (hb.mono HB4.out.size)); clear hb)
          | fail)
        go_ret
        exact ⟨rfl, QB.out.trans (HB5.out.mono QB.out.size)⟩
      | true =>
        have h4 : s.1 < 4 := by
          unfold mayB at hm
          rw [hs, Bool.true_and, decide_eq_false_iff_not] at hm
          omega
        have hok := fun V => New_ok s hs V V.heap.size (Nat.le_refl _)
        have HOK := Lib.hid hok
        have HFW := Lib.hid (fun (N0 p : Nat) (ok : Nat → Prop) (V : World) (hD : DevIs N0 p ⟨s, [], []⟩ ok V) => LNew_few hD h4)
        clear hs hok hm h4
        go_enter Try.func4, Try.ntmps4
        go_wp2_with fail
        rw [← HW.out]
        go_wp2_with (first
          | (go_at_call 22; (with_reducible refine (Awake15_any _).mono ?_); rintro e w1 ⟨rfl, hb⟩; have HB1 := Aside0.mk hb; clear hb)
          | (go_at_call 23; (with_reducible refine (HFEW.out _ HB1.out).mono ?_); rw [HF.out]; rintro e w2 ⟨rfl, hb⟩; obtain ⟨k1, k2, k3⟩ := HBOX.out _ hb; have HB2 := Aside0.mk hb; clear hb)
          | (go_at_call 24; (with_reducible refine (May_any _ _).mono ?_); rw [HM.out]; rintro e w3 ⟨rfl, hb⟩; have HB3 := Aside0.mk (HB2.out.trans (hb.mono HB2.out.size)); clear hb; obtain ⟨j1, j2, j3⟩ := HBOX.out _ HB3.out)
          | (go_at_call 11; (with_reducible refine (HOK.out _).mono ?_); rintro e w4 ⟨p, rfl, hD, hb⟩; have HD4 := Aside0.mk hD; have HB4 := Aside0.mk (HB3.out.trans (hb.mono HB3.out.size)); clear hb hD)
          | (go_at_call 25; (with_reducible refine (HFW.out _ _ _ _ HD4.out).mono ?_); rintro e w5 ⟨rfl, hb⟩; have HB5 := Aside0.mk (HB4.out.trans (hb.mono HB4.out.size)); clear hb)
          | fail)
        go_ret
        exact ⟨rfl, QB.out.trans (HB5.out.mono QB.out.size)⟩
    | true =>
      have hmd := HMADE.out hm HF.out
      have HMD := Lib.hid hmd
      have HM := Lib.hid hm
      have hsh : ShapeOk s := by
        unfold mayB at hm
        rw [Bool.and_eq_true] at hm
        exact shapeB_ok hm.1
      have HSH := Lib.hid hsh
      clear hm hmd HMADE hsh
      by_cases hin : 0 ≤ seg ∧ seg < s.1
      · obtain ⟨i, rfl⟩ := Int.eq_ofNat_of_zero_le hin.1
        have hi1 : (i : Int) < s.1 := hin.2
        have e_0 : decide ((i : Int) ≥ 0) = true := decide_eq_true (by omega)
        have e_1 : decide ((i : Int) < s.1) = true := decide_eq_true hi1
        clear hin
        go_enter Try.func4, Try.ntmps4
        go_wp2_with fail
        rw [← HW.out]
        go_wp2_with (first
          | (go_at_call 22; (with_reducible refine (Awake15_any _).mono ?_); rintro e w1 ⟨rfl, hb⟩; have HB1 := Aside0.mk hb; clear hb)
          | (go_at_call 23; (with_reducible refine (HFEW.out _ HB1.out).mono ?_); rw [HF.out]; rintro e w2 ⟨rfl, hb⟩; obtain ⟨k1, k2, k3⟩ := HBOX.out _ hb; have HB2 := Aside0.mk hb; clear hb)
          | (go_at_call 24; (with_reducible refine (May_any _ _).mono ?_); rw [HM.out]; rintro e w3 ⟨rfl, hb⟩; have HB3 := Aside0.mk (HB2.out.trans (hb.mono HB2.out.size)); clear hb; obtain ⟨j1, j2, j3⟩ := HBOX.out _ HB3.out)
          | (go_at_call 26; (with_reducible refine (HMD.out _ HB3.out).mono ?_); rintro e w4 ⟨P, D, g, ps, rfl, hat⟩; obtain ⟨hsim, hinv, hbyt, hlen, hnx⟩ := hat.ds.keep HSH.out (by have := HLEN.out HF.out; omega); obtain rfl : D.s = s := hsim.sh; have HT4 := Aside0.mk hat.lt; have HSIM := Aside0.mk hsim; have HINV := Aside0.mk hinv; have HPL := Lib.hid (show ps.length < 1000000 by have := HLEN.out HF.out; omega); have HB4 := Aside0.mk (HB3.out.trans (hat.bel.mono HB3.out.size)); obtain ⟨i1, i2, i3⟩ := HBOX.out _ HB4.out; obtain ⟨y, hy⟩ : ∃ y, (grOf D.s g).st[i]? = some y := ⟨_, List.getElem?_eq_getElem (by have := (GSim.of D.s g).len hinv; omega)⟩; have HWANT := Lib.hid (show stateV D.s g (i : Int) = y from (by have hg := (GSim.of D.s g).get hinv hi1; rw [hy] at hg; unfold stateV; rw [if_pos (by unfold fitsB; rw [decide_eq_true_iff]; omega), Int.toNat_natCast, List.getD_eq_getElem?_getD, ← hg]; rfl)); have HLS := Lib.hid ((GSim.of D.s g).len hinv); obtain ⟨m, hm⟩ : ∃ m, m = (grOf D.s g).st.length := ⟨_, rfl⟩; have q1 : (i : Int) < (m : Int) := (by have := HLS.out; omega); have q0 : (0 : Int) ≤ (i : Int) := (by omega); have z1 := hat.lt.rlog.c1; (rw [← hm] at z1); have z5 := hat.lt.rlog.cst hy; clear hy hm; clear hat hsim hinv hbyt hlen hnx)
          | (go_at_call 27; (have hop := LOpen_any HT4.out.log); (rw [HINV.out.openV] at hop); (with_reducible refine hop.mono ?_); clear hop; rintro e w5 ⟨rfl, hb⟩; have HT5 := Aside0.mk (HT4.out.below hb); have HB5 := Aside0.mk (HB4.out.trans (hb.mono HB4.out.size)); have r0 := HT5.out.rlog.c0; have r2 : w5.cell? ⟨P.r, 2, none⟩ = some (.int .i64 g.op) := HT5.out.rlog.c2; have r3 : w5.cell? ⟨P.r, 3, none⟩ = some (.int .i64 g.pg) := HT5.out.rlog.c3; have r4 : w5.cell? ⟨P.r, 4, none⟩ = some (.int .u64 g.nx) := HT5.out.rlog.c4; clear hb)
          | fail)
        have hstt := fun (X : World) (h : LT (K3 P) w3.heap.size P D.s D g ps (grOf D.s g) X) => (show Calls Try.prog 30 #[.pointer (some ⟨P.q, 0, none⟩), .int .i64 (i : Int)] X fun e w' => e = .returned (.int .i64 y) ∧ Below X.heap.size X w' from by
          obtain ⟨ok, hD⟩ := (two_frame _ _ _ _ _).dev h.two
          have := LState_any h.log hD (i : Int)
          rw [HWANT.out] at this
          exact this)
        have hcnt := fun (X : World) (h : LT (K3 P) w3.heap.size P D.s D g ps (grOf D.s g) X) => (show Calls Try.prog 31 #[.pointer (some ⟨P.q, 0, none⟩), .int .i64 state] X fun e w' => e = .returned (.int .i64 (cnt state (grOf D.s g).st : Int)) ∧ Below X.heap.size X w' from by
          obtain ⟨ok, hD⟩ := (two_frame _ _ _ _ _).dev h.two
          exact LCount_any h.log hD state)
        have hrcn := fun (X : World) (h : LT (K3 P) w3.heap.size P D.s D g ps (grOf D.s g) X) => RCount_any h.rlog (by have := (GSim.of D.s g).len HINV.out; have := HSH.out.a1; omega) state
        obtain ⟨cn, hcn⟩ : ∃ cn : Int, cn = (cnt state (grOf D.s g).st : Int) := ⟨_, rfl⟩
        rw [← hcn] at hcnt hrcn
        have HSTT := Lib.hid hstt
        have HCNT := Lib.hid hcnt
        have HRCN := Lib.hid hrcn
        clear hstt hcnt hrcn hcn
        have HTD := Aside0.mk HT5.out.drew
        have HBD := Aside0.mk HB5.out.drew
        go_region_held3 (fun w' => w'.cell? ⟨P.r, 0, none⟩ = some (.pointer (some ⟨P.x, 0, none⟩)) ∧ w'.cell? ⟨P.r, 2, none⟩ = some (.int .i64 g.op) ∧ w'.cell? ⟨P.r, 3, none⟩ = some (.int .i64 g.pg) ∧ w'.cell? ⟨P.r, 4, none⟩ = some (.int .u64 g.nx)) (first | go_keep | exact ⟨a0, a2, a3, a4⟩)
          (first
            | (go_at_call 29; (with_reducible refine (LDevice_any HTD.out.log).mono ?_); rintro e w6 ⟨rfl, rfl⟩; have a0 := HTD.out.rlog.c0; have a2 := HTD.out.rlog.c2; have a3 := HTD.out.rlog.c3; have a4 := HTD.out.rlog.c4)
            | (go_at_call 28; clear a0 a2 a3 a4; (with_reducible refine (Like_any HTD.out.two HSIM.out HPL.out).mono ?_); rintro e w7 ⟨rfl, hb⟩; have HT7 := Aside0.mk (HTD.out.below hb); have HB7 := Aside0.mk (HBD.out.trans (hb.mono HBD.out.size)); have a0 := HT7.out.rlog.c0; have a2 : w7.cell? ⟨P.r, 2, none⟩ = some (.int .i64 g.op) := HT7.out.rlog.c2; have a3 : w7.cell? ⟨P.r, 3, none⟩ = some (.int .i64 g.pg) := HT7.out.rlog.c3; have a4 : w7.cell? ⟨P.r, 4, none⟩ = some (.int .u64 g.nx) := HT7.out.rlog.c4; clear hb)
            | (go_at_call 30; clear a0 a2 a3 a4; (with_reducible refine (HSTT.out _ HT7.out).mono ?_); rintro e w8 ⟨rfl, hb⟩; have HT8 := Aside0.mk (HT7.out.below hb); have HB8 := Aside0.mk (HB7.out.trans (hb.mono HB7.out.size)); have a0 := HT8.out.rlog.c0; have a2 : w8.cell? ⟨P.r, 2, none⟩ = some (.int .i64 g.op) := HT8.out.rlog.c2; have a3 : w8.cell? ⟨P.r, 3, none⟩ = some (.int .i64 g.pg) := HT8.out.rlog.c3; have a4 : w8.cell? ⟨P.r, 4, none⟩ = some (.int .u64 g.nx) := HT8.out.rlog.c4; clear hb)
            | (go_at_call 31; clear a0 a2 a3 a4; (with_reducible refine (HCNT.out _ HT8.out).mono ?_); rintro e w9 ⟨rfl, hb⟩; have HT9 := Aside0.mk (HT8.out.below hb); have HB9 := Aside0.mk (HB8.out.trans (hb.mono HB8.out.size)); have a0 := HT9.out.rlog.c0; have a2 : w9.cell? ⟨P.r, 2, none⟩ = some (.int .i64 g.op) := HT9.out.rlog.c2; have a3 : w9.cell? ⟨P.r, 3, none⟩ = some (.int .i64 g.pg) := HT9.out.rlog.c3; have a4 : w9.cell? ⟨P.r, 4, none⟩ = some (.int .u64 g.nx) := HT9.out.rlog.c4; clear hb)
            | (go_at_call 32; clear a0 a2 a3 a4; (with_reducible refine (HRCN.out _ HT9.out).mono ?_); rintro e w10 ⟨rfl, hb⟩; have HT10 := Aside0.mk (HT9.out.below hb); have HB10 := Aside0.mk (HB9.out.trans (hb.mono HB9.out.size)); have a0 := HT10.out.rlog.c0; have a2 : w10.cell? ⟨P.r, 2, none⟩ = some (.int .i64 g.op) := HT10.out.rlog.c2; have a3 : w10.cell? ⟨P.r, 3, none⟩ = some (.int .i64 g.pg) := HT10.out.rlog.c3; have a4 : w10.cell? ⟨P.r, 4, none⟩ = some (.int .u64 g.nx) := HT10.out.rlog.c4; clear hb)
            | (go_at_call 33; clear a0 a2 a3 a4; (with_reducible refine (LNext_any HT10.out.log).mono ?_); rintro e w11 ⟨rfl, rfl⟩; have a0 := HT10.out.rlog.c0; have a2 := HT10.out.rlog.c2; have a3 := HT10.out.rlog.c3; have a4 := HT10.out.rlog.c4)
            | fail)
        go_wp2
        go_ret
        exact ⟨rfl, QB.out.trans (HB10.out.mono QB.out.size)⟩
      · by_cases h0s : 0 ≤ seg
        · have h1s : ¬ seg < s.1 := fun h => hin ⟨h0s, h⟩
          have e_0 : decide (seg ≥ 0) = true := decide_eq_true (by omega)
          have e_1 : decide (seg < s.1) = false := decide_eq_false h1s
          clear hin
          go_enter Try.func4, Try.ntmps4
          go_wp2_with fail
          rw [← HW.out]
          go_wp2_with (first
            | (go_at_call 22; (with_reducible refine (Awake15_any _).mono ?_); rintro e w1 ⟨rfl, hb⟩; have HB1 := Aside0.mk hb; clear hb)
            | (go_at_call 23; (with_reducible refine (HFEW.out _ HB1.out).mono ?_); rw [HF.out]; rintro e w2 ⟨rfl, hb⟩; obtain ⟨k1, k2, k3⟩ := HBOX.out _ hb; have HB2 := Aside0.mk hb; clear hb)
            | (go_at_call 24; (with_reducible refine (May_any _ _).mono ?_); rw [HM.out]; rintro e w3 ⟨rfl, hb⟩; have HB3 := Aside0.mk (HB2.out.trans (hb.mono HB2.out.size)); clear hb; obtain ⟨j1, j2, j3⟩ := HBOX.out _ HB3.out)
            | (go_at_call 26; (with_reducible refine (HMD.out _ HB3.out).mono ?_); rintro e w4 ⟨P, D, g, ps, rfl, hat⟩; obtain ⟨hsim, hinv, hbyt, hlen, hnx⟩ := hat.ds.keep HSH.out (by have := HLEN.out HF.out; omega); obtain rfl : D.s = s := hsim.sh; have HT4 := Aside0.mk hat.lt; have HSIM := Aside0.mk hsim; have HINV := Aside0.mk hinv; have HPL := Lib.hid (show ps.length < 1000000 by have := HLEN.out HF.out; omega); have HB4 := Aside0.mk (HB3.out.trans (hat.bel.mono HB3.out.size)); obtain ⟨i1, i2, i3⟩ := HBOX.out _ HB4.out; have HWANT := Lib.hid (show stateV D.s g seg = 2 from (by unfold stateV; rw [if_neg (by unfold fitsB; rw [decide_eq_true_iff]; omega)])); clear hat hsim hinv hbyt hlen hnx)
            | (go_at_call 27; (have hop := LOpen_any HT4.out.log); (rw [HINV.out.openV] at hop); (with_reducible refine hop.mono ?_); clear hop; rintro e w5 ⟨rfl, hb⟩; have HT5 := Aside0.mk (HT4.out.below hb); have HB5 := Aside0.mk (HB4.out.trans (hb.mono HB4.out.size)); have r0 := HT5.out.rlog.c0; have r2 : w5.cell? ⟨P.r, 2, none⟩ = some (.int .i64 g.op) := HT5.out.rlog.c2; have r3 : w5.cell? ⟨P.r, 3, none⟩ = some (.int .i64 g.pg) := HT5.out.rlog.c3; have r4 : w5.cell? ⟨P.r, 4, none⟩ = some (.int .u64 g.nx) := HT5.out.rlog.c4; clear hb)
            | fail)
          have hstt := fun (X : World) (h : LT (K3 P) w3.heap.size P D.s D g ps (grOf D.s g) X) => (show Calls Try.prog 30 #[.pointer (some ⟨P.q, 0, none⟩), .int .i64 seg] X fun e w' => e = .returned (.int .i64 2) ∧ Below X.heap.size X w' from by
            obtain ⟨ok, hD⟩ := (two_frame _ _ _ _ _).dev h.two
            have := LState_any h.log hD seg
            rw [HWANT.out] at this
            exact this)
          have hcnt := fun (X : World) (h : LT (K3 P) w3.heap.size P D.s D g ps (grOf D.s g) X) => (show Calls Try.prog 31 #[.pointer (some ⟨P.q, 0, none⟩), .int .i64 state] X fun e w' => e = .returned (.int .i64 (cnt state (grOf D.s g).st : Int)) ∧ Below X.heap.size X w' from by
            obtain ⟨ok, hD⟩ := (two_frame _ _ _ _ _).dev h.two
            exact LCount_any h.log hD state)
          have hrcn := fun (X : World) (h : LT (K3 P) w3.heap.size P D.s D g ps (grOf D.s g) X) => RCount_any h.rlog (by have := (GSim.of D.s g).len HINV.out; have := HSH.out.a1; omega) state
          obtain ⟨cn, hcn⟩ : ∃ cn : Int, cn = (cnt state (grOf D.s g).st : Int) := ⟨_, rfl⟩
          rw [← hcn] at hcnt hrcn
          have HSTT := Lib.hid hstt
          have HCNT := Lib.hid hcnt
          have HRCN := Lib.hid hrcn
          clear hstt hcnt hrcn hcn
          have HTD := Aside0.mk HT5.out.drew
          have HBD := Aside0.mk HB5.out.drew
          go_region_held3 (fun w' => w'.cell? ⟨P.r, 0, none⟩ = some (.pointer (some ⟨P.x, 0, none⟩)) ∧ w'.cell? ⟨P.r, 2, none⟩ = some (.int .i64 g.op) ∧ w'.cell? ⟨P.r, 3, none⟩ = some (.int .i64 g.pg) ∧ w'.cell? ⟨P.r, 4, none⟩ = some (.int .u64 g.nx)) (first | go_keep | exact ⟨a0, a2, a3, a4⟩)
            (first
              | (go_at_call 29; (with_reducible refine (LDevice_any HTD.out.log).mono ?_); rintro e w6 ⟨rfl, rfl⟩; have a0 := HTD.out.rlog.c0; have a2 := HTD.out.rlog.c2; have a3 := HTD.out.rlog.c3; have a4 := HTD.out.rlog.c4)
              | (go_at_call 28; clear a0 a2 a3 a4; (with_reducible refine (Like_any HTD.out.two HSIM.out HPL.out).mono ?_); rintro e w7 ⟨rfl, hb⟩; have HT7 := Aside0.mk (HTD.out.below hb); have HB7 := Aside0.mk (HBD.out.trans (hb.mono HBD.out.size)); have a0 := HT7.out.rlog.c0; have a2 : w7.cell? ⟨P.r, 2, none⟩ = some (.int .i64 g.op) := HT7.out.rlog.c2; have a3 : w7.cell? ⟨P.r, 3, none⟩ = some (.int .i64 g.pg) := HT7.out.rlog.c3; have a4 : w7.cell? ⟨P.r, 4, none⟩ = some (.int .u64 g.nx) := HT7.out.rlog.c4; clear hb)
              | (go_at_call 30; clear a0 a2 a3 a4; (with_reducible refine (HSTT.out _ HT7.out).mono ?_); rintro e w8 ⟨rfl, hb⟩; have HT8 := Aside0.mk (HT7.out.below hb); have HB8 := Aside0.mk (HB7.out.trans (hb.mono HB7.out.size)); have a0 := HT8.out.rlog.c0; have a2 : w8.cell? ⟨P.r, 2, none⟩ = some (.int .i64 g.op) := HT8.out.rlog.c2; have a3 : w8.cell? ⟨P.r, 3, none⟩ = some (.int .i64 g.pg) := HT8.out.rlog.c3; have a4 : w8.cell? ⟨P.r, 4, none⟩ = some (.int .u64 g.nx) := HT8.out.rlog.c4; clear hb)
              | (go_at_call 31; clear a0 a2 a3 a4; (with_reducible refine (HCNT.out _ HT8.out).mono ?_); rintro e w9 ⟨rfl, hb⟩; have HT9 := Aside0.mk (HT8.out.below hb); have HB9 := Aside0.mk (HB8.out.trans (hb.mono HB8.out.size)); have a0 := HT9.out.rlog.c0; have a2 : w9.cell? ⟨P.r, 2, none⟩ = some (.int .i64 g.op) := HT9.out.rlog.c2; have a3 : w9.cell? ⟨P.r, 3, none⟩ = some (.int .i64 g.pg) := HT9.out.rlog.c3; have a4 : w9.cell? ⟨P.r, 4, none⟩ = some (.int .u64 g.nx) := HT9.out.rlog.c4; clear hb)
              | (go_at_call 32; clear a0 a2 a3 a4; (with_reducible refine (HRCN.out _ HT9.out).mono ?_); rintro e w10 ⟨rfl, hb⟩; have HT10 := Aside0.mk (HT9.out.below hb); have HB10 := Aside0.mk (HB9.out.trans (hb.mono HB9.out.size)); have a0 := HT10.out.rlog.c0; have a2 : w10.cell? ⟨P.r, 2, none⟩ = some (.int .i64 g.op) := HT10.out.rlog.c2; have a3 : w10.cell? ⟨P.r, 3, none⟩ = some (.int .i64 g.pg) := HT10.out.rlog.c3; have a4 : w10.cell? ⟨P.r, 4, none⟩ = some (.int .u64 g.nx) := HT10.out.rlog.c4; clear hb)
              | (go_at_call 33; clear a0 a2 a3 a4; (with_reducible refine (LNext_any HT10.out.log).mono ?_); rintro e w11 ⟨rfl, rfl⟩; have a0 := HT10.out.rlog.c0; have a2 := HT10.out.rlog.c2; have a3 := HT10.out.rlog.c3; have a4 := HT10.out.rlog.c4)
              | fail)
          go_wp2
          go_ret
          exact ⟨rfl, QB.out.trans (HB10.out.mono QB.out.size)⟩
        · have e_0 : decide (seg ≥ 0) = false := decide_eq_false (by omega)
          clear hin
          go_enter Try.func4, Try.ntmps4
          go_wp2_with fail
          rw [← HW.out]
          go_wp2_with (first
            | (go_at_call 22; (with_reducible refine (Awake15_any _).mono ?_); rintro e w1 ⟨rfl, hb⟩; have HB1 := Aside0.mk hb; clear hb)
            | (go_at_call 23; (with_reducible refine (HFEW.out _ HB1.out).mono ?_); rw [HF.out]; rintro e w2 ⟨rfl, hb⟩; obtain ⟨k1, k2, k3⟩ := HBOX.out _ hb; have HB2 := Aside0.mk hb; clear hb)
            | (go_at_call 24; (with_reducible refine (May_any _ _).mono ?_); rw [HM.out]; rintro e w3 ⟨rfl, hb⟩; have HB3 := Aside0.mk (HB2.out.trans (hb.mono HB2.out.size)); clear hb; obtain ⟨j1, j2, j3⟩ := HBOX.out _ HB3.out)
            | (go_at_call 26; (with_reducible refine (HMD.out _ HB3.out).mono ?_); rintro e w4 ⟨P, D, g, ps, rfl, hat⟩; obtain ⟨hsim, hinv, hbyt, hlen, hnx⟩ := hat.ds.keep HSH.out (by have := HLEN.out HF.out; omega); obtain rfl : D.s = s := hsim.sh; have HT4 := Aside0.mk hat.lt; have HSIM := Aside0.mk hsim; have HINV := Aside0.mk hinv; have HPL := Lib.hid (show ps.length < 1000000 by have := HLEN.out HF.out; omega); have HB4 := Aside0.mk (HB3.out.trans (hat.bel.mono HB3.out.size)); obtain ⟨i1, i2, i3⟩ := HBOX.out _ HB4.out; have HWANT := Lib.hid (show stateV D.s g seg = 2 from (by unfold stateV; rw [if_neg (by unfold fitsB; rw [decide_eq_true_iff]; omega)])); clear hat hsim hinv hbyt hlen hnx)
            | (go_at_call 27; (have hop := LOpen_any HT4.out.log); (rw [HINV.out.openV] at hop); (with_reducible refine hop.mono ?_); clear hop; rintro e w5 ⟨rfl, hb⟩; have HT5 := Aside0.mk (HT4.out.below hb); have HB5 := Aside0.mk (HB4.out.trans (hb.mono HB4.out.size)); have r0 := HT5.out.rlog.c0; have r2 : w5.cell? ⟨P.r, 2, none⟩ = some (.int .i64 g.op) := HT5.out.rlog.c2; have r3 : w5.cell? ⟨P.r, 3, none⟩ = some (.int .i64 g.pg) := HT5.out.rlog.c3; have r4 : w5.cell? ⟨P.r, 4, none⟩ = some (.int .u64 g.nx) := HT5.out.rlog.c4; clear hb)
            | fail)
          have hstt := fun (X : World) (h : LT (K3 P) w3.heap.size P D.s D g ps (grOf D.s g) X) => (show Calls Try.prog 30 #[.pointer (some ⟨P.q, 0, none⟩), .int .i64 seg] X fun e w' => e = .returned (.int .i64 2) ∧ Below X.heap.size X w' from by
            obtain ⟨ok, hD⟩ := (two_frame _ _ _ _ _).dev h.two
            have := LState_any h.log hD seg
            rw [HWANT.out] at this
            exact this)
          have hcnt := fun (X : World) (h : LT (K3 P) w3.heap.size P D.s D g ps (grOf D.s g) X) => (show Calls Try.prog 31 #[.pointer (some ⟨P.q, 0, none⟩), .int .i64 state] X fun e w' => e = .returned (.int .i64 (cnt state (grOf D.s g).st : Int)) ∧ Below X.heap.size X w' from by
            obtain ⟨ok, hD⟩ := (two_frame _ _ _ _ _).dev h.two
            exact LCount_any h.log hD state)
          have hrcn := fun (X : World) (h : LT (K3 P) w3.heap.size P D.s D g ps (grOf D.s g) X) => RCount_any h.rlog (by have := (GSim.of D.s g).len HINV.out; have := HSH.out.a1; omega) state
          obtain ⟨cn, hcn⟩ : ∃ cn : Int, cn = (cnt state (grOf D.s g).st : Int) := ⟨_, rfl⟩
          rw [← hcn] at hcnt hrcn
          have HSTT := Lib.hid hstt
          have HCNT := Lib.hid hcnt
          have HRCN := Lib.hid hrcn
          clear hstt hcnt hrcn hcn
          have HTD := Aside0.mk HT5.out.drew
          have HBD := Aside0.mk HB5.out.drew
          go_region_held3 (fun w' => w'.cell? ⟨P.r, 0, none⟩ = some (.pointer (some ⟨P.x, 0, none⟩)) ∧ w'.cell? ⟨P.r, 2, none⟩ = some (.int .i64 g.op) ∧ w'.cell? ⟨P.r, 3, none⟩ = some (.int .i64 g.pg) ∧ w'.cell? ⟨P.r, 4, none⟩ = some (.int .u64 g.nx)) (first | go_keep | exact ⟨a0, a2, a3, a4⟩)
            (first
              | (go_at_call 29; (with_reducible refine (LDevice_any HTD.out.log).mono ?_); rintro e w6 ⟨rfl, rfl⟩; have a0 := HTD.out.rlog.c0; have a2 := HTD.out.rlog.c2; have a3 := HTD.out.rlog.c3; have a4 := HTD.out.rlog.c4)
              | (go_at_call 28; clear a0 a2 a3 a4; (with_reducible refine (Like_any HTD.out.two HSIM.out HPL.out).mono ?_); rintro e w7 ⟨rfl, hb⟩; have HT7 := Aside0.mk (HTD.out.below hb); have HB7 := Aside0.mk (HBD.out.trans (hb.mono HBD.out.size)); have a0 := HT7.out.rlog.c0; have a2 : w7.cell? ⟨P.r, 2, none⟩ = some (.int .i64 g.op) := HT7.out.rlog.c2; have a3 : w7.cell? ⟨P.r, 3, none⟩ = some (.int .i64 g.pg) := HT7.out.rlog.c3; have a4 : w7.cell? ⟨P.r, 4, none⟩ = some (.int .u64 g.nx) := HT7.out.rlog.c4; clear hb)
              | (go_at_call 30; clear a0 a2 a3 a4; (with_reducible refine (HSTT.out _ HT7.out).mono ?_); rintro e w8 ⟨rfl, hb⟩; have HT8 := Aside0.mk (HT7.out.below hb); have HB8 := Aside0.mk (HB7.out.trans (hb.mono HB7.out.size)); have a0 := HT8.out.rlog.c0; have a2 : w8.cell? ⟨P.r, 2, none⟩ = some (.int .i64 g.op) := HT8.out.rlog.c2; have a3 : w8.cell? ⟨P.r, 3, none⟩ = some (.int .i64 g.pg) := HT8.out.rlog.c3; have a4 : w8.cell? ⟨P.r, 4, none⟩ = some (.int .u64 g.nx) := HT8.out.rlog.c4; clear hb)
              | (go_at_call 31; clear a0 a2 a3 a4; (with_reducible refine (HCNT.out _ HT8.out).mono ?_); rintro e w9 ⟨rfl, hb⟩; have HT9 := Aside0.mk (HT8.out.below hb); have HB9 := Aside0.mk (HB8.out.trans (hb.mono HB8.out.size)); have a0 := HT9.out.rlog.c0; have a2 : w9.cell? ⟨P.r, 2, none⟩ = some (.int .i64 g.op) := HT9.out.rlog.c2; have a3 : w9.cell? ⟨P.r, 3, none⟩ = some (.int .i64 g.pg) := HT9.out.rlog.c3; have a4 : w9.cell? ⟨P.r, 4, none⟩ = some (.int .u64 g.nx) := HT9.out.rlog.c4; clear hb)
              | (go_at_call 32; clear a0 a2 a3 a4; (with_reducible refine (HRCN.out _ HT9.out).mono ?_); rintro e w10 ⟨rfl, hb⟩; have HT10 := Aside0.mk (HT9.out.below hb); have HB10 := Aside0.mk (HB9.out.trans (hb.mono HB9.out.size)); have a0 := HT10.out.rlog.c0; have a2 : w10.cell? ⟨P.r, 2, none⟩ = some (.int .i64 g.op) := HT10.out.rlog.c2; have a3 : w10.cell? ⟨P.r, 3, none⟩ = some (.int .i64 g.pg) := HT10.out.rlog.c3; have a4 : w10.cell? ⟨P.r, 4, none⟩ = some (.int .u64 g.nx) := HT10.out.rlog.c4; clear hb)
              | (go_at_call 33; clear a0 a2 a3 a4; (with_reducible refine (LNext_any HT10.out.log).mono ?_); rintro e w11 ⟨rfl, rfl⟩; have a0 := HT10.out.rlog.c0; have a2 := HT10.out.rlog.c2; have a3 := HT10.out.rlog.c3; have a4 := HT10.out.rlog.c4)
              | fail)
          go_wp2
          go_ret
          exact ⟨rfl, QB.out.trans (HB10.out.mono QB.out.size)⟩
end Go.Proofs.Ytmbiebdcnadhkaa.Fl

/- SeglogDoes, in the form of its row. -/
namespace Go.Proofs.Ytmbiebdcnadhkaa.Fl
open Go.RowKit Go.Proofs.YtmbiebdcnadhkaaW.PrintWords
theorem seglog_does_walk (a b c : Int) (A : Option Addr) (d : Nat) (ds : List SDeed) (seg state : Int) (W : World) (_ : (Lit.int .i64 a).wf = true) (_ : (Lit.int .i64 b).wf = true) (_ : (Lit.int .i64 c).wf = true) (hr : LRow W A ds) (h0 : ds.length ≤ 9223372036854775807) (hp : ∀ d ∈ ds, SDeedOk d) (_ : (Lit.int .i64 seg).wf = true) (_ : (Lit.int .i64 state).wf = true) :
    Calls Try.prog 4 #[.agg #[.int .i64 a, .int .i64 b, .int .i64 c], .slice A ds.length d, .int .i64 seg, .int .i64 state] W fun e w' => e = .returned (.bool true) ∧ Below W.heap.size W w' := SeglogDoes_any (a, b, c) hr h0 hp seg state
end Go.Proofs.Ytmbiebdcnadhkaa.Fl

