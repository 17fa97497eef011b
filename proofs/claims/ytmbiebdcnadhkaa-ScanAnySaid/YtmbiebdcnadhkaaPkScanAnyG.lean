/- The parts of this proof, one after the other (wip/tools/packfl.py). -/
import Derived.Test.YtmbiebdcnadhkaaPkScanAnyF
import Derived.Test.YtmbiebdcnadhkaaPkScanAnyB
import Derived.Deep.Slices
import Derived.Test.YtmbiebdcnadhkaaPkScanAnyD
/- How a slice of deeds is opened. -/
namespace Go.Proofs.Ytmbiebdcnadhkaa.Fl
open Go.ChangeShapes Go.WideShapes Go.ChangeAt Go.RowKit Go.Joins Go.Deep Go.Proofs.YtmbiebdcnadhkaaW.PrintWords Go.Proofs.Ytmbiebdcnadhkaa.Opens
section
variable {H : Type} {enc : TypeId × Value → H} {P : Program} {w : World} {base : Nat} {spare : Nat → Bool} {held : Bool}
theorem byt_of {l : List Int} (h : ∀ x ∈ l, (Lit.int .u8 x).wf = true) : Byt l := fun x hx => by
  have h1 := h x hx
  unfold Lit.wf at h1
  rw [Bool.and_eq_true, decide_eq_true_eq, decide_eq_true_eq] at h1
  have e1 : IntKind.min .u8 = 0 := by decide
  have e2 : IntKind.max .u8 = 255 := by decide
  rw [e1, e2] at h1
  exact h1
end
end Go.Proofs.Ytmbiebdcnadhkaa.Fl

/- How a slice of records is opened. -/
namespace Go.Proofs.Ytmbiebdcnadhkaa.Fl
open Go.ChangeShapes Go.WideShapes Go.ChangeAt Go.RowKit Go.Joins Go.Deep Go.Proofs.YtmbiebdcnadhkaaW.PrintWords Go.Proofs.Ytmbiebdcnadhkaa.Opens
section
variable {H : Type} {enc : TypeId × Value → H} {P : Program} {w : World} {base : Nat} {spare : Nat → Bool} {held : Bool}
end
end Go.Proofs.Ytmbiebdcnadhkaa.Fl

/- How a slice of a log's deeds is opened. -/
namespace Go.Proofs.Ytmbiebdcnadhkaa.Fl
open Go.ChangeShapes Go.WideShapes Go.ChangeAt Go.RowKit Go.Joins Go.Deep Go.Proofs.YtmbiebdcnadhkaaW.PrintWords Go.Proofs.Ytmbiebdcnadhkaa.Opens
section
variable {H : Type} {enc : TypeId × Value → H} {P : Program} {w : World} {base : Nat} {spare : Nat → Bool} {held : Bool}
end
end Go.Proofs.Ytmbiebdcnadhkaa.Fl

/- What holds of a log between its deeds, so that what it appends always fits. No program in sight. -/
namespace Go.Proofs.Ytmbiebdcnadhkaa.Fl
set_option linter.unusedSimpArgs false
set_option linter.unusedVariables false
structure LInv (D : PD) (g : LG) : Prop where
  sh : ShapeOk D.s
  len : g.st.length = 16
  hi : g.op < D.s.1
  zero : g.op < 0 → g.op = -1 ∧ g.pg = 0
  one : 0 ≤ g.op → g.st[g.op.toNat]? = some 1 ∧ 1 ≤ g.pg ∧ g.pg ≤ D.s.2.1
  free : ∀ i : Nat, (i : Int) < D.s.1 → g.st[i]? = some 0 → ∀ b, usedB D (i : Int) b = false
  opn : 0 ≤ g.op → ∀ b, g.pg ≤ b → usedB D g.op b = false
  nx : 1 ≤ g.nx
theorem fits_iff {s : Int × Int × Int} {pg : Int} {n : Nat} (hn : n ≤ 4096) (h0 : 0 ≤ pg) (h1 : pg ≤ s.2.1) : fitsS s pg n = true ↔ pg + (kpg s n : Int) ≤ s.2.1 := by
  unfold fitsS
  rw [decide_eq_true_iff]
  constructor
  · rintro ⟨_, _, _, h⟩; omega
  · intro h; exact ⟨hn, h0, h1, by omega⟩
theorem app_ok {D : PD} {a b : Int} {n : Nat} (hs : ShapeOk D.s) (ha : 0 ≤ a) (ha1 : a < D.s.1) (hb : 0 ≤ b) (hn : n ≤ 4096) (hf : b + (kpg D.s n : Int) ≤ D.s.2.1) (hu : ∀ c, b ≤ c → usedB D a c = false) : appE D a b n = ((kpg D.s n : Int), 0) :=
  appE_one ((appE_zero a b n).2 ⟨(hasB_iff _ _ _).2 ⟨ha, ha1, hb, by have := (kpg_bd hs hn).1; omega⟩, hn, hf, anyUsedD_false (fun i _ => hu _ (by omega))⟩)
section
variable {D : PD} {g : LG} {l : List Int}
theorem LInv.fit (h : LInv D g) (ho : 0 ≤ g.op) (hn : l.length ≤ 4096) (hf : fitsS D.s g.pg l.length = true) : appE D g.op g.pg l.length = ((kpg D.s l.length : Int), 0) ∧ g.pg + (kpg D.s l.length : Int) ≤ D.s.2.1 := by
  obtain ⟨h1, h2, h3⟩ := h.one ho
  have h4 := (fits_iff hn (by omega) h3).1 hf
  exact ⟨app_ok h.sh ho h.hi (by omega) hn h4 (h.opn ho), h4⟩
theorem LInv.app (h : LInv D g) (ho : 0 ≤ g.op) (hn : l.length ≤ 4096) (hf : fitsS D.s g.pg l.length = true) (kd sq : Int) : LInv (appD D g.op g.pg l.length (Fl.rec kd sq l)) { g with pg := g.pg + (kpg D.s l.length : Int) } := by
  obtain ⟨h1, h2⟩ := h.fit ho hn hf
  obtain ⟨h3, h4, h5⟩ := h.one ho
  have h6 := app_used h.sh (kd := kd) (sq := sq) (l := l) (by rw [h1])
  have hst := appD_s D g.op g.pg l.length (Fl.rec kd sq l)
  refine ⟨by rw [hst]; exact h.sh, h.len, by rw [hst]; exact h.hi, fun h' => absurd h' (by show ¬ g.op < 0; omega), fun _ => ⟨h3, by show 1 ≤ g.pg + _; omega, by rw [hst]; exact h2⟩, fun i hi h0 b => ?_, fun _ b hb => ?_, h.nx⟩
  · rw [hst] at hi
    rw [h6, h.free i hi h0, Bool.or_false]
    refine decide_eq_false (fun hh => ?_)
    have : g.op.toNat = i := by omega
    rw [this, h0] at h3
    simp at h3
  · show usedB _ g.op b = false
    have hb2 : g.pg + (kpg D.s l.length : Int) ≤ b := hb
    rw [h6, h.opn ho b (by omega), Bool.or_false]
    exact decide_eq_false (fun hh => by omega)
theorem seal_get (g : LG) (i : Nat) : (sealG g).st[i]? = some 0 → g.st[i]? = some 0 := by
  unfold sealG
  split
  · exact id
  · intro h
    rw [List.getElem?_set] at h
    split at h
    · split at h <;> simp at h
    · exact h
theorem LInv.sealed (h : LInv D g) : LInv D (sealG g) := by
  refine ⟨h.sh, ?_, ?_, ?_, ?_, fun i hi h0 b => h.free i hi (seal_get g i h0) b, ?_, by rw [sealG_nx]; exact h.nx⟩
  · unfold sealG; split
    · exact h.len
    · simp [h.len]
  · have := h.sh.a0
    unfold sealG; split
    · exact h.hi
    · show (-1 : Int) < D.s.1; omega
  · intro h'
    by_cases h0 : g.op < 0
    · have e : sealG g = g := if_pos h0
      rw [e]; exact h.zero h0
    · have e : sealG g = { st := g.st.set g.op.toNat 2, op := -1, pg := 0, nx := g.nx } := if_neg h0
      rw [e]; exact ⟨rfl, rfl⟩
  · intro h'
    exfalso
    revert h'
    unfold sealG; split
    · omega
    · show 0 ≤ (-1 : Int) → False; omega
  · intro h'
    exfalso
    revert h'
    unfold sealG; split
    · omega
    · show 0 ≤ (-1 : Int) → False; omega
theorem LInv.start (h : LInv D g) {m : Nat} (hm : (m : Int) < D.s.1) (h0 : (sealG g).st[m]? = some 0) : appE D (m : Int) 0 0 = (1, 0) := by
  have := app_ok (n := 0) h.sh (a := (m : Int)) (b := 0) (by omega) hm (Int.le_refl _) (by omega) (by rw [kpg_zero h.sh]; have := h.sh.b0; omega) (fun c _ => h.sealed.free m hm h0 c)
  rw [this, kpg_zero h.sh]
  rfl
theorem LInv.turn (h : LInv D g) {m : Nat} (hm : (m : Int) < D.s.1) (h0 : (sealG g).st[m]? = some 0) : LInv (appD D (m : Int) 0 0 (Fl.rec 1 g.nx [])) ⟨(sealG g).st.set m 1, (m : Int), 1, g.nx + 1⟩ := by
  have h1 := h.start hm h0
  have h2 := app_used h.sh (a := (m : Int)) (b := 0) (kd := 1) (sq := g.nx) (l := []) (by rw [List.length_nil, h1])
  simp only [List.length_nil, kpg_zero h.sh] at h2
  have hst := appD_s D (m : Int) 0 0 (Fl.rec 1 g.nx [])
  have hl := h.sealed.len
  have hn := h.nx
  have hml : m < (sealG g).st.length := (List.getElem?_eq_some_iff.1 h0).1
  refine ⟨by rw [hst]; exact h.sh, by simp [hl], by rw [hst]; exact hm, fun h' => absurd h' (by show ¬ (m : Int) < 0; omega), fun _ => ⟨?_, Int.le_refl _, by rw [hst]; exact h.sh.b0⟩, fun i hi hi0 b => ?_, fun _ b hb => ?_, by show 1 ≤ g.nx + 1; omega⟩
  · show ((sealG g).st.set m 1)[(m : Int).toNat]? = some 1
    rw [Int.toNat_natCast, List.getElem?_set, if_pos rfl, if_pos hml]
  · rw [hst] at hi
    have hi0 : ((sealG g).st.set m 1)[i]? = some 0 := hi0
    rw [List.getElem?_set] at hi0
    split at hi0
    · simp at hi0
    · rename_i hne
      rw [h2, h.sealed.free i hi hi0, Bool.or_false]
      exact decide_eq_false (fun hh => hne (by omega))
  · show usedB _ (m : Int) b = false
    have hb2 : (1 : Int) ≤ b := hb
    rw [h2, h.sealed.free m hm h0, Bool.or_false]
    exact decide_eq_false (fun hh => by omega)
theorem LInv.get_seal (h : LInv D g) {i : Nat} (hi : g.st[i]? = some 0) : (sealG g).st[i]? = some 0 := by
  unfold sealG
  split
  · exact hi
  · rename_i ho
    show (g.st.set g.op.toNat 2)[i]? = some 0
    rw [List.getElem?_set]
    split
    · rename_i he
      have := (h.one (by omega)).1
      rw [he, hi] at this
      simp at this
    · exact hi
theorem firstAt_is {l : List Int} {m : Nat} (h0 : l[m]? = some 0) (h1 : ∀ i, i < m → l[i]? ≠ some 0) (r : Int) (h : FirstAt l 0 r) : r = (m : Int) := by
  have hml := (List.getElem?_eq_some_iff.1 h0).1
  rcases h with ⟨_, h⟩ | ⟨n, rfl, hn, h2, h3⟩
  · exact absurd h0 (h m hml)
  · have : n = m := by
      rcases Nat.lt_trichotomy n m with h4 | h4 | h4
      · exact absurd h2 (h1 n h4)
      · exact h4
      · exact absurd h0 (h3 m h4)
    rw [this]
end
end Go.Proofs.Ytmbiebdcnadhkaa.Fl

/- The driver's log and the document's say the same. No program in sight. -/
namespace Go.Proofs.Ytmbiebdcnadhkaa.Fl
set_option linter.unusedSimpArgs false
set_option linter.unusedVariables false
section
variable {D : PD} {g gr : LG}
theorem LInv.new {s : Int × Int × Int} (hs : ShapeOk s) : LInv ⟨s, [], []⟩ (newG 1) := by
  refine ⟨hs, by simp [newG], ?_, fun _ => ⟨rfl, rfl⟩, fun h' => ?_, fun i hi h0 b => by simp [usedB, look], fun h' b hb => by simp [usedB, look], by decide⟩
  · have := hs.a0
    show (-1 : Int) < s.1
    omega
  · exfalso
    revert h'
    show 0 ≤ (-1 : Int) → False
    omega
theorem used_erased (hnd : Nodup D.mp) {n : Int} (hh : hasB D.s n 0 = true) (a b : Int) : usedB (erasedD D n) a b = (decide (a ≠ n) && usedB D a b) := by
  unfold erasedD
  rw [if_pos hh]
  unfold eraseD usedB
  simp only
  rw [look_delTo _ _ _ hnd]
  cases hb : hasB D.s a b with
  | false => simp
  | true =>
    have h1 := (hasB_iff _ _ _).1 hb
    by_cases ha : a = n
    · rw [if_pos ⟨ha, h1.2.2.1, by simp only; omega⟩]
      simp [ha]
    · rw [if_neg (fun h => ha h.1)]
      simp [ha]
end
end Go.Proofs.Ytmbiebdcnadhkaa.Fl

/- May: walked. -/
namespace Go.Proofs.Ytmbiebdcnadhkaa.Fl
open Go.RowKit Go.Proofs.YtmbiebdcnadhkaaW.PrintWords Go.Proofs.YtmbiebdcnadhkaaW.PrintMore Go.Maps
set_option linter.unusedSimpArgs false
set_option linter.unusedVariables false
end Go.Proofs.Ytmbiebdcnadhkaa.Fl

/- What a put does to the driver's log and to the document's, told once for both. -/
namespace Go.Proofs.Ytmbiebdcnadhkaa.Fl
open Go.RowKit Go.Proofs.YtmbiebdcnadhkaaW.PrintWords Go.Proofs.YtmbiebdcnadhkaaW.PrintMore Go.Maps
set_option linter.unusedSimpArgs false
set_option linter.unusedVariables false
def headD (D : PD) (g : LG) (m : Nat) : PD := appD D (m : Int) 0 0 (Fl.rec 1 g.nx [])
def headP (s : Int × Int × Int) (ps : List Pg) (g : LG) (m : Nat) : List Pg := appP s ps (m : Int) 0 0 (Fl.rec 1 g.nx [])
inductive PutStep (D : PD) (g : LG) (ps : List Pg) (kind : Int) (l : List Int) (need : Int) : Adr → Int → PD → LG → List Pg → Prop
  | head (hk : kind = 1) : PutStep D g ps kind l need (0, 0) 1 D g ps
  | big (hk : kind ≠ 1) (h1 : fitsS D.s 1 l.length = false) : PutStep D g ps kind l need (0, 0) 10 D g ps
  | full (hk : kind ≠ 1) (h1 : fitsS D.s 1 l.length = true) (h2 : g.op < 0 ∨ 0 ≤ g.op ∧ fitsS D.s g.pg l.length = false) (h3 : (cnt 0 (g.st.take D.s.1.toNat) : Int) < need) : PutStep D g ps kind l need (0, 0) 5 D g ps
  | app (hk : kind ≠ 1) (h1 : fitsS D.s 1 l.length = true) (h2 : 0 ≤ g.op) (h3 : fitsS D.s g.pg l.length = true) : PutStep D g ps kind l need (g.op, g.pg) 0 (appD D g.op g.pg l.length (Fl.rec kind (g.nx - 1) l)) { g with pg := g.pg + (kpg D.s l.length : Int) } (appP D.s ps g.op g.pg l.length (Fl.rec kind (g.nx - 1) l))
  | turn (m : Nat) (hk : kind ≠ 1) (h1 : fitsS D.s 1 l.length = true) (h2 : g.op < 0 ∨ 0 ≤ g.op ∧ fitsS D.s g.pg l.length = false) (h3 : ¬ (cnt 0 (g.st.take D.s.1.toNat) : Int) < need) (h4 : (m : Int) < D.s.1) (h5 : g.st[m]? = some 0) (h6 : (sealG g).st[m]? = some 0) (h7 : ∀ i, i < m → (sealG g).st[i]? ≠ some 0) (h8 : ∀ r, FirstAt (sealG g).st 0 r → r = (m : Int)) :
    PutStep D g ps kind l need ((m : Int), 1) 0 (appD (headD D g m) (m : Int) 1 l.length (Fl.rec kind g.nx l)) { st := (sealG g).st.set m 1, op := (m : Int), pg := 1 + (kpg D.s l.length : Int), nx := g.nx + 1 } (appP D.s (headP D.s ps g m) (m : Int) 1 l.length (Fl.rec kind g.nx l))
section
variable {N0 p q r t x cap : Nat} {rest : List Value} {F : (Nat → Prop) → PD → World → Prop} {G : (Nat → Prop) → List Pg → World → Prop} {K : Nat → Prop} {D D2 : PD} {g g2 : LG} {ps ps2 : List Pg} {w : World} {A : Option Addr} {c : Nat} {l : List Int} {kind need er : Int} {at_ : Adr}
theorem headD_s (D : PD) (g : LG) (m : Nat) : (headD D g m).s = D.s := appD_s _ _ _ _ _
/-- Behind a turn a record that fits behind a head fits. -/
theorem LInv.turn_fit (hi : LInv D g) {m : Nat} (h4 : (m : Int) < D.s.1) (h6 : (sealG g).st[m]? = some 0) (hn : l.length ≤ 4096) (h1 : fitsS D.s 1 l.length = true) : LInv (headD D g m) ⟨(sealG g).st.set m 1, (m : Int), 1, g.nx + 1⟩ ∧ appE (headD D g m) (m : Int) 1 l.length = ((kpg D.s l.length : Int), 0) := by
  have h := hi.turn h4 h6
  have h2 := h.fit (l := l) (by show (0 : Int) ≤ (m : Int); omega) hn (by show fitsS (appD D _ _ _ _).s 1 _ = true; rw [appD_s]; exact h1)
  refine ⟨h, ?_⟩
  have h3 := h2.1
  rw [appD_s] at h3
  exact h3
/-- What holds between deeds holds behind a put. -/
structure PutKeep (D : PD) (g : LG) (ps : List Pg) (D2 : PD) (g2 : LG) (ps2 : List Pg) : Prop where
  sh : D2.s = D.s
  inv : LInv D2 g2
  sim : Sim D2 D2.s ps2
  byt : BytP ps → BytP ps2
  len : ps2.length ≤ ps.length + 514
  nx1 : g.nx ≤ g2.nx
  nx2 : g2.nx ≤ g.nx + 1
theorem PutStep.keep (hp : PutStep D g ps kind l need at_ er D2 g2 ps2) (hi : LInv D g) (hsim : Sim D D.s ps) (hm : l.length ≤ 4096) (hkk : KindOk kind) (hBl : Byt l) (hn1 : g.nx < 900000) : PutKeep D g ps D2 g2 ps2 := by
  have hnx := hi.nx
  have stay : PutKeep D g ps D g ps := ⟨rfl, hi, hsim, id, by omega, by omega, by omega⟩
  cases hp with
  | head hk => exact stay
  | big hk h1 => exact stay
  | full hk h1 h2 h3 => exact stay
  | app hk h1 h2 h3 =>
    have h4 := appP_len hi.sh ps g.op g.pg l.length (bs := Fl.rec kind (g.nx - 1) l) (rec_len _ _ _)
    exact ⟨appD_s _ _ _ _ _, hi.app h2 hm h3 _ _, by rw [appD_s]; exact hsim.app _ _ _ _, fun hb => hb.app hi.sh _ _ _ (rec_byt hkk hBl), by omega, Int.le_refl _, by show g.nx ≤ g.nx + 1; omega⟩
  | turn m hk h1 h2 h3 h4 h5 h6 h7 h8 =>
    obtain ⟨h9, h10⟩ := hi.turn_fit (l := l) h4 h6 hm h1
    have e1 := appP_len hi.sh ps (m : Int) 0 0 (bs := Fl.rec 1 g.nx []) (by rw [rec_len]; rfl)
    have e2 := appP_len hi.sh (headP D.s ps g m) (m : Int) 1 l.length (bs := Fl.rec kind g.nx l) (rec_len _ _ _)
    have e3 : (headP D.s ps g m).length ≤ ps.length + 257 := e1
    have h11 := h9.app (l := l) (by show (0 : Int) ≤ (m : Int); omega) hm (by show fitsS (headD D g m).s 1 _ = true; rw [headD_s]; exact h1) kind g.nx
    have hk1 : KindOk 1 := ⟨by decide, by decide⟩
    refine ⟨(appD_s _ _ _ _ _).trans (headD_s _ _ _), ?_, ?_, fun hb => (hb.app hi.sh _ _ _ (rec_byt hk1 Byt.nil)).app hi.sh _ _ _ (rec_byt hkk hBl), by omega, by show g.nx ≤ g.nx + 1; omega, Int.le_refl _⟩
    · rw [headD_s] at h11
      exact h11
    · rw [appD_s, headD_s]
      exact (hsim.app _ _ _ _).app _ _ _ _
end
end Go.Proofs.Ytmbiebdcnadhkaa.Fl

/- The document's log: New walked. -/
namespace Go.Proofs.Ytmbiebdcnadhkaa.Fl
open Go.RowKit Go.Proofs.YtmbiebdcnadhkaaW.PrintWords Go.Proofs.YtmbiebdcnadhkaaW.PrintMore Go.Maps
set_option linter.unusedSimpArgs false
set_option linter.unusedVariables false
abbrev kI : Kd Int := Kd.int .i64
theorem info_int : (Try.prog.info? TNi).map (fun i => (i.zero, i.size, i.bytes)) = some (some (.int .i64 0), 1, 8) := by kernel_rfl
theorem kI_mk (w : World) (base : Nat) (okp : Nat → Prop) (x : Int) : kI.M w base okp x [.int .i64 x] := rfl
/-- A row of ints that is not empty: its block. -/
theorem row_blk {w : World} {base : Nat} {ok : Nat → Prop} {v : Value} {l : List Int} (h : kI.R TNi w base ok v l) (h0 : 0 < l.length) :
    ∃ g cap rest, v = .slice (some ⟨g, 0, none⟩) l.length cap ∧ base ≤ g ∧ ok g ∧ l.length ≤ cap ∧ w.heap[g]? = some (.cells (l.map (fun x => Value.int .i64 x) ++ rest).toArray TNi (0, 0)) := by
  have ho := Kd.own_of_R h
  rcases ho.2 with ⟨_, h2⟩ | ⟨g, cap, cur, rfl, hb, hg, h1, h2, h3, h4⟩
  · omega
  · refine ⟨g, cap, cur.toList.drop l.length, rfl, hb, h.1 g rfl, h1, ?_⟩
    rw [hg]
    have h5 : l.map (fun x => Value.int .i64 x) = cur.toList.take l.length := by rw [← Nat.mul_one l.length, h4]; rfl
    rw [h5, List.take_append_drop]
end Go.Proofs.Ytmbiebdcnadhkaa.Fl

/- What a log's deeds make of a new log: told as steps. No program in sight. -/
namespace Go.Proofs.Ytmbiebdcnadhkaa.Fl
open Go.RowKit Go.Proofs.YtmbiebdcnadhkaaW.PrintWords Go.Proofs.YtmbiebdcnadhkaaW.PrintMore Go.Maps
set_option linter.unusedSimpArgs false
set_option linter.unusedVariables false
end Go.Proofs.Ytmbiebdcnadhkaa.Fl

/- The driver's log and the document's side by side in one memory: each deed on one leaves the other. -/
namespace Go.Proofs.Ytmbiebdcnadhkaa.Fl
open Go.RowKit Go.Proofs.YtmbiebdcnadhkaaW.PrintWords Go.Proofs.YtmbiebdcnadhkaaW.PrintMore Go.Maps
set_option linter.unusedSimpArgs false
set_option linter.unusedVariables false
/-- Where the two logs lie. -/
structure Pl where
  q : Nat
  p : Nat
  r : Nat
  t : Nat
  x : Nat
  cap : Nat
  rest : List Value
/-- Two logs in one memory: the driver's (D, g), the document's (ps, gr). -/
structure LT (K : Nat → Prop) (N0 : Nat) (P : Pl) (s : Int × Int × Int) (D : PD) (g : LG) (ps : List Pg) (gr : LG) (w : World) : Prop where
  two : Two K N0 P.p P.x D s ps w
  log : LogIs P.q P.p g w
  rlog : RLog P.r P.t P.x P.cap P.rest gr w
  kq : K P.q
  kr : K P.r
  kt : K P.t
  nq : N0 ≤ P.q
  nr : N0 ≤ P.r
  nt : N0 ≤ P.t
section
variable {K K' : Nat → Prop} {N0 : Nat} {P : Pl} {s : Int × Int × Int} {D D2 : PD} {g g2 gr gr2 : LG} {ps ps2 : List Pg} {w w' : World}
theorem LT.size (h : LT K N0 P s D g ps gr w) : N0 ≤ w.heap.size := h.two.size
variable {A : Option Addr} {c : Nat} {l : List Int} {kind er : Int} {at_ : Adr} {need : Int}
end
end Go.Proofs.Ytmbiebdcnadhkaa.Fl

/- Made (layer 15): walked. No condition. -/
namespace Go.Proofs.Ytmbiebdcnadhkaa.Fl
open Go.RowKit Go.Proofs.YtmbiebdcnadhkaaW.PrintWords Go.Proofs.YtmbiebdcnadhkaaW.PrintMore Go.Maps
set_option linter.unusedSimpArgs false
set_option linter.unusedVariables false
end Go.Proofs.Ytmbiebdcnadhkaa.Fl

/- Chapter 15's example: walked. No condition. -/
namespace Go.Proofs.Ytmbiebdcnadhkaa.Fl
open Go.RowKit Go.Proofs.YtmbiebdcnadhkaaW.PrintWords Go.Proofs.YtmbiebdcnadhkaaW.PrintMore Go.Maps
set_option linter.unusedSimpArgs false
set_option linter.unusedVariables false
def aS : Int × Int × Int := (4, 8, 16)
end Go.Proofs.Ytmbiebdcnadhkaa.Fl

/- A log of no device, and of one with too few segments: walked. No condition. -/
namespace Go.Proofs.Ytmbiebdcnadhkaa.Fl
open Go.RowKit Go.Proofs.YtmbiebdcnadhkaaW.PrintWords Go.Proofs.YtmbiebdcnadhkaaW.PrintMore Go.Maps
set_option linter.unusedSimpArgs false
set_option linter.unusedVariables false
set_option maxHeartbeats 1000000 in
set_option maxRecDepth 100000 in
theorem Shape_none (w : World) : Calls Try.prog 56 #[.pointer none] w fun e w' => e = .returned (.agg #[.int .i64 0, .int .i64 0, .int .i64 0]) ∧ Below w.heap.size w w' := by
  go_enter Try.func56, Try.ntmps56
  go_wp2_with (go_at_call 53; (with_reducible refine (ok_nil _).mono ?_); rintro e w' ⟨rfl, rfl⟩)
  exact bodyPost_ret (v := .agg #[.int .i64 0, .int .i64 0, .int .i64 0]) (by simp [results, Try.results56, go_sem]) rfl ⟨rfl, by repeat' (first | exact Below.refl _ _ | refine Below.setCell ?_ (Nat.le_refl _) _ | refine Below.alloc ?_ (Nat.le_refl _) _)⟩
section
variable {p N0 : Nat} {w : World} {D : PD} {ok : Nat → Prop}
set_option maxHeartbeats 1000000 in
set_option maxRecDepth 100000 in
theorem fresh_none (nx : Int) (w : World) : Calls Try.prog 65 #[.pointer none, .int .u64 nx] w fun e w' => e = .returned (.tuple #[.pointer none, .int .i64 2]) ∧ Below w.heap.size w w' := by
  have rs := fun (X : World) => run_shape1 X 0 0 0
  go_enter Try.func65, Try.ntmps65
  go_wp2_with (go_at_call 56; (with_reducible refine (Shape_none _).mono ?_); rintro e w2 ⟨rfl, hb⟩; have HB := Aside0.mk hb; clear hb)
  go_ret2
  exact ⟨rfl, HB.out⟩
set_option maxHeartbeats 1000000 in
set_option maxRecDepth 100000 in
theorem fresh_few (hD : DevIs N0 p D ok w) (h4 : D.s.1 < 4) (nx : Int) : Calls Try.prog 65 #[.pointer (some ⟨p, 0, none⟩), .int .u64 nx] w fun e w' => e = .returned (.tuple #[.pointer none, .int .i64 1]) ∧ Below w.heap.size w w' := by
  have hs := hD.sound.sh.a0
  have HS := Lib.hid (Shape_any hD)
  have rs := fun (X : World) => run_shape1 X D.s.1 D.s.2.1 D.s.2.2
  have e1 : (D.s.1 == 0) = false := by simp; omega
  have e2 : decide (D.s.1 < 4) = true := by simp; omega
  clear hD hs
  go_enter Try.func65, Try.ntmps65
  go_wp2_with (go_at_call 56; (with_reducible refine HS.out.mono ?_); rintro e w2 ⟨rfl, hb⟩; have HB := Aside0.mk hb; clear hb)
  go_ret2
  exact ⟨rfl, HB.out⟩
end
end Go.Proofs.Ytmbiebdcnadhkaa.Fl

/- slices.Contains, seglog.Load: walked. No condition. -/
namespace Go.Proofs.Ytmbiebdcnadhkaa.Fl
open Go.RowKit Go.Proofs.YtmbiebdcnadhkaaW.PrintWords Go.Proofs.YtmbiebdcnadhkaaW.PrintMore Go.Maps
set_option linter.unusedSimpArgs false
set_option linter.unusedVariables false
/-- The cells of a row of numbers. -/
def IRow (w : World) (A : Option Addr) (l : List Int) : Prop := ∀ (i : Nat) (x : Int), l[i]? = some x → ∃ g, A = some ⟨g, 0, none⟩ ∧ w.cell? ⟨g, i, none⟩ = some (.int .i64 x)
theorem IRow.below {w w' : World} {A : Option Addr} {l : List Int} (h : IRow w A l) (hb : Below w.heap.size w w') : IRow w' A l := fun i x hi => by
  obtain ⟨g, h1, h2⟩ := h i x hi
  exact ⟨g, h1, (hb.cell (blt_of_cell h2)).trans h2⟩
theorem IRow.nil (w : World) (A : Option Addr) : IRow w A [] := fun i x hi => by simp at hi
theorem IRow.ofR {w : World} {base : Nat} {ok : Nat → Prop} {v : Value} {l : List Int} (h : kI.R TNi w base ok v l) : ∃ A c, v = .slice A l.length c ∧ IRow w A l := by
  by_cases h0 : 0 < l.length
  · obtain ⟨g, cap, rest, hv, _, _, _, hb⟩ := row_blk h h0
    refine ⟨_, _, hv, fun i x hi => ⟨g, rfl, ?_⟩⟩
    have hl := (List.getElem?_eq_some_iff.1 hi).1
    rw [bcell hb]
    simp only [List.getElem?_toArray]
    rw [List.getElem?_append_left (by simpa using hl), List.getElem?_map, hi]
    rfl
  · obtain rfl : l = [] := List.eq_nil_of_length_eq_zero (by omega)
    obtain ⟨A, c, hv⟩ := Kd.R_slice h
    exact ⟨A, c, hv, IRow.nil _ _⟩
set_option maxHeartbeats 1000000 in
set_option maxRecDepth 100000 in
theorem Index_any {w : World} {A : Option Addr} {c : Nat} {l : List Int} (h : IRow w A l) (hl : l.length ≤ 1000) (a : Int) : Calls Try.prog 112 #[.slice A l.length c, .int .i64 a] w (IndexPost l a w) := by
  obtain ⟨n, hn⟩ : ∃ n, n = l.length := ⟨_, rfl⟩
  have HC := Lib.hid h
  have HNN := Lib.hid hn
  rw [← hn] at hl
  rw [← hn]
  clear h hn
  go_enter Try.func112, Try.ntmps112
  go_wp2
  go_loopw [5, 8] (fun v5 v8 wr => ∃ k : Nat, k ≤ n ∧ v8 = .int .i64 (k : Int) ∧ (∀ i, i < k → l[i]? ≠ some a) ∧ w = wr) (fun _ v8 _ => n - (intOf v8).toNat)
  case atStart => exact ⟨0, Nat.zero_le _, rfl, fun i hi => by omega, rfl⟩
  case round =>
    obtain ⟨k, hk, rfl, hn, rfl⟩ := hrel
    have HN := Lib.hid hn
    clear hn
    by_cases hlt : k < n
    · obtain ⟨x, hx⟩ : ∃ x, l[k]? = some x := ⟨_, List.getElem?_eq_getElem (by have := HNN.out; omega)⟩
      obtain ⟨g, hA, kc⟩ := HC.out k x hx
      subst hA
      have HX := Lib.hid hx
      have k0 : (0 : Int) ≤ (k : Int) := by omega
      have k1 : (k : Int) < (n : Int) := by omega
      clear hx
      by_cases hxa : a = x
      · have e1 : (a == x) = true := by simpa using hxa
        have HXA := Lib.hid hxa
        clear hxa
        go_wp2
        go_ret
        exact ⟨_, rfl, .inr ⟨k, rfl, by have := HNN.out; omega, by rw [HX.out, HXA.out], HN.out⟩, rfl⟩
      · have e1 : (a == x) = false := by simpa using hxa
        have HXA := Lib.hid hxa
        clear hxa
        go_wp2
        refine ⟨⟨k + 1, by omega, by go_num, ?_⟩, by simp [intOf]; omega⟩
        refine (show (∀ i, i < k + 1 → l[i]? ≠ some a) ∧ True from ⟨fun i hi => ?_, trivial⟩)
        by_cases hik : i = k
        · rw [hik, HX.out]
          exact fun he => HXA.out (Option.some.inj he).symm
        · exact HN.out i (by omega)
    · obtain rfl : k = n := by omega
      go_wp2
      go_ret
      exact ⟨_, rfl, .inl ⟨rfl, fun i hi => HN.out i (by have := HNN.out; omega)⟩, rfl⟩
theorem firstAt_mem {l : List Int} {a r : Int} (h : FirstAt l a r) : decide (r ≥ 0) = decide (a ∈ l) := by
  rw [decide_eq_decide]
  rcases h with ⟨rfl, h⟩ | ⟨n, rfl, h1, h2, _⟩
  · constructor
    · intro h; omega
    · intro hm
      obtain ⟨i, hi⟩ := List.mem_iff_getElem?.1 hm
      exact absurd hi (h i (List.getElem?_eq_some_iff.1 hi).1)
  · exact ⟨fun _ => List.mem_of_getElem? h2, fun _ => by omega⟩
set_option maxHeartbeats 1000000 in
set_option maxRecDepth 100000 in
theorem Contains_any {w : World} {A : Option Addr} {c : Nat} {l : List Int} (h : IRow w A l) (hl : l.length ≤ 1000) (a : Int) : Calls Try.prog 88 #[.slice A l.length c, .int .i64 a] w fun e w' => e = .returned (.bool (decide (a ∈ l))) ∧ w = w' := by
  have hi := Index_any (c := c) h hl a
  have HI := Lib.hid hi
  clear hi h hl
  go_enter Try.func88, Try.ntmps88
  go_wp2_with (first
    | (go_at_call 112; (with_reducible refine HI.out.mono ?_); rintro e w1 ⟨r, rfl, hf, rfl⟩; have HF := Lib.hid hf; clear hf)
    | fail)
  go_ret
  exact ⟨by rw [← firstAt_mem HF.out]; rfl, rfl⟩
/-! ### Load -/
def loadSt (l : List Int) (k : Nat) : List Int := (List.range 16).map (fun i => if i < k ∧ (i : Int) ∈ l then 2 else 0)
def loadG (l : List Int) (k : Nat) (nx : Int) : LG := ⟨loadSt l k, -1, 0, nx⟩
theorem loadG_zero (l : List Int) (nx : Int) : loadG l 0 nx = newG nx := by
  unfold loadG loadSt newG
  simp [List.range, List.range.loop, List.replicate]
theorem loadSt_in {l : List Int} {k : Nat} (hk : k < 16) (h : (k : Int) ∈ l) : (loadSt l k).set k 2 = loadSt l (k + 1) := by
  apply List.ext_getElem?
  intro i
  unfold loadSt
  rw [List.getElem?_set]
  simp only [List.length_map, List.length_range, List.getElem?_map]
  by_cases hi : i < 16
  · rw [List.getElem?_range hi]
    simp only [Option.map_some]
    by_cases e : k = i
    · subst e
      rw [if_pos rfl, if_pos hi, if_pos ⟨by omega, h⟩]
    · rw [if_neg e]
      congr 1
      by_cases h2 : i < k
      · have : (i < k ∧ (i : Int) ∈ l) = (i < k + 1 ∧ (i : Int) ∈ l) := propext ⟨fun h => ⟨by omega, h.2⟩, fun h => ⟨h2, h.2⟩⟩
        simp only [this]
      · rw [if_neg (fun h => h2 h.1), if_neg (fun h => by omega)]
  · have : (List.range 16)[i]? = none := by rw [List.getElem?_eq_none_iff]; simp; omega
    rw [this]
    simp
    intro e
    omega
theorem loadSt_out {l : List Int} {k : Nat} (h : (k : Int) ∉ l) : loadSt l k = loadSt l (k + 1) := by
  unfold loadSt
  refine List.map_congr_left (fun i _ => ?_)
  by_cases e : i = k
  · subst e
    rw [if_neg (fun hh => h hh.2), if_neg (fun hh => h hh.2)]
  · have : (i < k ∧ (i : Int) ∈ l) = (i < k + 1 ∧ (i : Int) ∈ l) := propext ⟨fun h => ⟨by omega, h.2⟩, fun h => ⟨by omega, h.2⟩⟩
    simp only [this]
/-- Whether each segment that isn't sealed is clean. -/
def loadOk (D : PD) (l : List Int) : Bool := (List.range D.s.1.toNat).all (fun i => decide ((i : Int) ∈ l) || cleanD D (i : Int))
def LoadPost (w : World) (D : PD) (p : Nat) (l : List Int) (nx : Int) (e : Ending) (w' : World) : Prop :=
  (loadOk D l = true ∧ ∃ q, e = .returned (.tuple #[.pointer (some ⟨q, 0, none⟩), .int .i64 0]) ∧ w.heap.size ≤ q ∧ LogIs q p (loadG l D.s.1.toNat nx) w' ∧ Below w.heap.size w w') ∨ (loadOk D l = false ∧ e = .returned (.tuple #[.pointer none, .int .i64 1]) ∧ Below w.heap.size w w')
section
variable {N0 p : Nat} {D : PD} {w : World} {ok : Nat → Prop}
set_option maxHeartbeats 4000000 in
set_option maxRecDepth 100000 in
theorem Load_any (hD : DevIs N0 p D ok w) (h4 : 4 ≤ D.s.1) {A : Option Addr} {c : Nat} {l : List Int} (hI : IRow w A l) (hl : l.length ≤ 1000) (nx : Int) :
    Calls Try.prog 87 #[.pointer (some ⟨p, 0, none⟩), .slice A l.length c, .int .u64 nx] w (LoadPost w D p l nx) := by
  have hs := hD.sound.sh
  obtain ⟨n, hn⟩ := Int.eq_ofNat_of_zero_le (show 0 ≤ D.s.1 by have := hs.a0; omega)
  have n2 : n ≤ 16 := by have := hs.a1; omega
  have hfr := fresh_any hD h4 nx
  have hsh := fun (X : World) (hX : Below w.heap.size w X) => Shape_any (hD.below hX)
  have hcl := fun (X : World) (hX : Below w.heap.size w X) (a : Int) => Clean_any (hD.below hX) a
  have hco := fun (X : World) (hX : Below w.heap.size w X) (a : Int) => Contains_any (c := c) (hI.below hX) hl a
  simp only [hn] at hsh
  have rs := fun (X : World) => run_shape1 X (n : Int) D.s.2.1 D.s.2.2
  obtain ⟨m, hm⟩ : ∃ m, m = l.length := ⟨_, rfl⟩
  rw [← hm] at hco ⊢
  have HFR := Lib.hid hfr
  have HSH := Lib.hid hsh
  have HCL := Lib.hid hcl
  have HCO := Lib.hid hco
  have HN := Lib.hid (show D.s.1.toNat = n by omega)
  clear hD hs hfr hsh hcl hco hn hI hl hm h4
  go_enter Try.func87, Try.ntmps87
  go_wp2_with (first
    | (go_at_call 65; (with_reducible refine HFR.out.mono ?_); rintro e w1 ⟨q, rfl, hq, hl, hb⟩; have HQ := Lib.hid hq; have HL1 := Aside0.mk hl; have HB1 := Aside0.mk hb; clear hq hl hb)
    | (go_at_call 56; (with_reducible refine (HSH.out _ HB1.out).mono ?_); rintro e w2 ⟨rfl, hb⟩; have HL2 := Aside0.mk (HL1.out.below hb); have HB2 := Aside0.mk (HB1.out.trans (hb.mono HB1.out.size)); clear hb)
    | fail)
  go_loopw [10, 23] (fun v10 v23 wr => ∃ (k : Nat), k ≤ n ∧ v23 = .int .i64 (k : Int) ∧ LogIs q p (loadG l k nx) wr ∧ (∀ i : Nat, i < k → (decide ((i : Int) ∈ l) || cleanD D (i : Int)) = true) ∧ Below w.heap.size w wr) (fun _ v23 _ => n - (intOf v23).toNat)
  case atStart => exact ⟨0, Nat.zero_le _, rfl, by rw [loadG_zero]; exact HL2.out, fun i hi => by omega, HB2.out⟩
  case round =>
    obtain ⟨k, hk, rfl, hl, ha, hb⟩ := hrel
    have HL := Aside0.mk hl
    have HA := Lib.hid ha
    have HB := Aside0.mk hb
    clear hl ha hb
    by_cases hlt : k < n
    · have q1 : (k : Int) < (n : Int) := by omega
      have q0 : (0 : Int) ≤ (k : Int) := by omega
      have q16 : (k : Int) < 16 := by omega
      have hcw := HCO.out wr HB.out (k : Int)
      by_cases hin : (k : Int) ∈ l
      · rw [decide_eq_true hin] at hcw
        have HCW := Lib.hid hcw
        have HIN := Lib.hid hin
        obtain ⟨x, hx⟩ : ∃ x, (loadG l k nx).st[k]? = some x := ⟨_, List.getElem?_eq_getElem (by rw [HL.out.len]; omega)⟩
        have c1 := HL.out.cst hx
        have f1 := HL.out.frozen (1 + k)
        clear hcw hin hx
        go_wp2_with (first
          | (go_at_call 88; (with_reducible refine HCW.out.mono ?_); rintro e w3 ⟨rfl, rfl⟩)
          | fail)
        have hl3 := HL.out.setSt (show k < 16 by omega) 2
        have e3 : ({ loadG l k nx with st := (loadG l k nx).st.set k 2 } : LG) = loadG l (k + 1) nx := by
          show (⟨(loadSt l k).set k 2, -1, 0, nx⟩ : LG) = _
          rw [loadSt_in (by omega) HIN.out]
          rfl
        rw [e3] at hl3
        refine ⟨⟨k + 1, by omega, by go_num, hl3, fun i hi => ?_, HB.out.setCell (p := ⟨q, 1 + k, none⟩) HQ.out _⟩, by simp [intOf]; omega⟩
        by_cases e : i = k
        · rw [e, decide_eq_true HIN.out]; rfl
        · exact HA.out i (by omega)
      · rw [decide_eq_false hin] at hcw
        have HCW := Lib.hid hcw
        have HIN := Lib.hid hin
        have hcc := fun (X : World) (hX : Below w.heap.size w X) => HCL.out X hX (k : Int)
        cases hcl : cleanD D (k : Int) with
        | true =>
          rw [hcl] at hcc
          have HCC := Lib.hid hcc
          have HX := Lib.hid hcl
          clear hcw hin hcc hcl
          go_wp2_with (first
            | (go_at_call 88; (with_reducible refine HCW.out.mono ?_); rintro e w3 ⟨rfl, rfl⟩)
            | (go_at_call 45; (with_reducible refine (HCC.out _ HB.out).mono ?_); rintro e w4 ⟨rfl, hb⟩; have HL4 := Aside0.mk (HL.out.below hb); have HB4 := Aside0.mk (HB.out.trans (hb.mono HB.out.size)); clear hb)
            | fail)
          refine ⟨⟨k + 1, by omega, by go_num, ?_, fun i hi => ?_, HB4.out⟩, by simp [intOf]; omega⟩
          · have e3 : loadG l (k + 1) nx = loadG l k nx := by
              unfold loadG
              rw [loadSt_out HIN.out]
            rw [e3]
            exact HL4.out
          · by_cases e : i = k
            · rw [e, HX.out, Bool.or_true]
            · exact HA.out i (by omega)
        | false =>
          rw [hcl] at hcc
          have HCC := Lib.hid hcc
          have HX := Lib.hid hcl
          clear hcw hin hcc hcl
          go_wp2_with (first
            | (go_at_call 88; (with_reducible refine HCW.out.mono ?_); rintro e w3 ⟨rfl, rfl⟩)
            | (go_at_call 45; (with_reducible refine (HCC.out _ HB.out).mono ?_); rintro e w4 ⟨rfl, hb⟩; have HB4 := Aside0.mk (HB.out.trans (hb.mono HB.out.size)); clear hb)
            | fail)
          (try rw [Exit.noGoto_ret])
          go_ret2
          refine .inr ⟨?_, rfl, HB4.out⟩
          unfold loadOk
          rw [List.all_eq_false]
          exact ⟨k, by rw [List.mem_range, HN.out]; exact hlt, by rw [HX.out, decide_eq_false HIN.out]; decide⟩
    · obtain rfl : k = n := by omega
      go_wp2
      go_ret2
      refine .inl ⟨?_, q, rfl, HQ.out, by rw [HN.out]; exact HL.out, HB.out⟩
      unfold loadOk
      rw [List.all_eq_true]
      exact fun i hi => HA.out i (by rw [List.mem_range, HN.out] at hi; exact hi)
set_option maxHeartbeats 1000000 in
set_option maxRecDepth 100000 in
theorem Load_few (hD : DevIs N0 p D ok w) (h4 : D.s.1 < 4) (v : Value) (nx : Int) : Calls Try.prog 87 #[.pointer (some ⟨p, 0, none⟩), v, .int .u64 nx] w fun e w' => e = .returned (.tuple #[.pointer none, .int .i64 1]) ∧ Below w.heap.size w w' := by
  have HF := Lib.hid (fresh_few hD h4 nx)
  clear hD h4
  go_enter Try.func87, Try.ntmps87
  go_wp2_with (first
    | (go_at_call 65; (with_reducible refine HF.out.mono ?_); rintro e w2 ⟨rfl, hb⟩; have HB := Aside0.mk hb; clear hb)
    | fail)
  go_ret2
  exact ⟨rfl, HB.out⟩
set_option maxHeartbeats 1000000 in
set_option maxRecDepth 100000 in
theorem Load_none (v : Value) (nx : Int) (w : World) : Calls Try.prog 87 #[.pointer none, v, .int .u64 nx] w fun e w' => e = .returned (.tuple #[.pointer none, .int .i64 2]) ∧ Below w.heap.size w w' := by
  go_enter Try.func87, Try.ntmps87
  go_wp2_with (first
    | (go_at_call 65; (with_reducible refine (fresh_none _ _).mono ?_); rintro e w2 ⟨rfl, hb⟩; have HB := Aside0.mk hb; clear hb)
    | fail)
  go_ret2
  exact ⟨rfl, HB.out⟩
end
end Go.Proofs.Ytmbiebdcnadhkaa.Fl

/- scan.Recover: walked. No condition. -/
namespace Go.Proofs.Ytmbiebdcnadhkaa.Fl
open Go.RowKit Go.Proofs.YtmbiebdcnadhkaaW.PrintWords Go.Proofs.YtmbiebdcnadhkaaW.PrintMore Go.Maps
set_option linter.unusedSimpArgs false
set_option linter.unusedVariables false
/-! ### Rows that stay as they are where all blocks of theirs do -/
def LowA (B n : Nat) (A : Option Addr) : Prop := ∀ ad, A = some ad → 0 < n → B ≤ ad.block
def SameFrom (B : Nat) (w w' : World) : Prop := ∀ k, B ≤ k → k < w.heap.size → w'.heap[k]? = w.heap[k]?
theorem same_cell {B : Nat} {w w' : World} (h : SameFrom B w w') {a : Addr} (ha : B ≤ a.block) {v : Value} (hc : w.cell? a = some v) : w'.cell? a = some v := by
  have hb := h a.block ha (blt_of_cell hc)
  unfold World.cell? at hc ⊢
  rw [hb]
  exact hc
theorem FRow.same {B : Nat} {w w' : World} {A : Option Addr} {zs : List (FV En)} (h : FRow w A zs) (hA : LowA B zs.length A) (hs : SameFrom B w w') : FRow w' A zs := fun i x hi => by
  obtain ⟨g, rfl, hc⟩ := h i x hi
  have hg : B ≤ g := hA _ rfl (Nat.lt_of_le_of_lt (Nat.zero_le i) (List.getElem?_eq_some_iff.1 hi).1)
  exact ⟨g, rfl, same_cell hs hg hc.c0, same_cell hs hg hc.c1, same_cell hs hg hc.c2⟩
theorem IRow.same {B : Nat} {w w' : World} {A : Option Addr} {l : List Int} (h : IRow w A l) (hA : LowA B l.length A) (hs : SameFrom B w w') : IRow w' A l := fun i x hi => by
  obtain ⟨g, rfl, hc⟩ := h i x hi
  have hg : B ≤ g := hA _ rfl (Nat.lt_of_le_of_lt (Nat.zero_le i) (List.getElem?_eq_some_iff.1 hi).1)
  exact ⟨g, rfl, same_cell hs hg hc⟩
theorem FEnt.same {B : Nat} {w w' : World} {z : FV En} (h : FEnt B w z) (hs : SameFrom B w w') : FEnt B w' z := Kd.R_step h (fun k hk hlt => hs k hk hlt)
theorem row_low {w : World} {base : Nat} {ok : Nat → Prop} {A : Option Addr} {n c : Nat} {l : List Int} (h : kI.R TNi w base ok (.slice A n c) l) : LowA base l.length A := fun ad hA h0 => by
  obtain ⟨g, cap, rest, hv, hb, _⟩ := row_blk h h0
  injection hv with hv _ _
  rw [hA] at hv
  injection hv with hv
  rw [hv]
  exact hb
/-! ### What is left of a device that is recovered -/
def recD (D : PD) (l : List Int) : Nat → PD
  | 0 => D
  | k + 1 => if (k : Int) ∈ l ∨ cleanD (recD D l k) (k : Int) = true then recD D l k else erasedD (recD D l k) (k : Int)
theorem erasedD_s (D : PD) (a : Int) : (erasedD D a).s = D.s := by
  unfold erasedD
  split <;> rfl
theorem erasedD_dirty (D : PD) (a : Int) : (erasedD D a).dirty.length ≤ D.dirty.length := by
  unfold erasedD eraseD keepF
  split
  · exact List.length_filter_le _ _
  · exact Nat.le_refl _
theorem recD_s (D : PD) (l : List Int) : ∀ k, (recD D l k).s = D.s
  | 0 => rfl
  | k + 1 => by
    unfold recD
    split
    · exact recD_s D l k
    · rw [erasedD_s]; exact recD_s D l k
theorem recD_dirty (D : PD) (l : List Int) : ∀ k, (recD D l k).dirty.length ≤ D.dirty.length
  | 0 => Nat.le_refl _
  | k + 1 => by
    unfold recD
    split
    · exact recD_dirty D l k
    · exact Nat.le_trans (erasedD_dirty _ _) (recD_dirty D l k)
theorem clean_erased {D : PD} (hnd : Nodup D.mp) {n : Int} (hh : hasB D.s n 0 = true) (a : Int) : cleanD (erasedD D n) a = if a = n then true else cleanD D a := by
  unfold cleanD
  rw [erasedD_s]
  by_cases e : a = n
  · rw [if_pos e, e, hh, Bool.true_and, List.all_eq_true]
    intro i _
    rw [used_erased hnd hh]
    simp
  · rw [if_neg e]
    congr 1
    refine List.all_congr rfl (fun i => ?_)
    rw [used_erased hnd hh]
    simp [e]
theorem scan_seq {D : PD} (hb : BytD D) (a : Int) : 0 ≤ (scanD D a).1 ∧ (scanD D a).1 ≤ 18446744073709551615 := by
  have hz : ∀ b, 0 ≤ (entD D a b).1.seq ∧ (entD D a b).1.seq ≤ 18446744073709551615 := fun b => by
    have hraw := hb.raw a b
    unfold entD entL
    split
    · simp [zEn]
    · split
      · show 0 ≤ (parsed (rawD D a b)).2.1 ∧ (parsed (rawD D a b)).2.1 ≤ _
        unfold parsed Go.Proofs.Ytmbiebdcnadhkaa.FrameFacts.parsed
        split
        · split
          · have h1 := Go.Proofs.Ytmbiebdcnadhkaa.NumMath.be_lt (((rawD D a b).drop 4).take 8) (fun x hx => hraw x (List.mem_of_mem_drop (List.mem_of_mem_take hx)))
            have h2 : (((rawD D a b).drop 4).take 8).length ≤ 8 := by rw [List.length_take]; omega
            have h3 : 256 ^ (((rawD D a b).drop 4).take 8).length ≤ 256 ^ 8 := Nat.pow_le_pow_right (by omega) h2
            have h4 : 256 ^ 8 = 18446744073709551616 := by decide
            simp only
            omega
          · simp
        · simp
      · simp [zEn]
  unfold scanD scanL
  split
  · simp
  · exact hz 0
def RecPost (N0 p : Nat) (F : (Nat → Prop) → PD → World → Prop) (K : Nat → Prop) (D : PD) (w : World) (e : Ending) (w' : World) : Prop :=
  ∃ q v zs, e = .returned (.tuple #[.pointer (some ⟨q, 0, none⟩), v, .int .i64 0]) ∧ FoundOf D zs ∧ F K (recD D (zs.map (·.seg)) D.s.1.toNat) w' ∧ LogIs q p (loadG (zs.map (·.seg)) D.s.1.toNat (nextV (zs.map (·.seq)))) w' ∧ kEnt.R TE w' 0 (fun _ => True) v (joinL zs) ∧ Below N0 w w' ∧ Kept K w w'
theorem recD_ok {D : PD} {l : List Int} (h : ∀ i : Nat, i < D.s.1.toNat → (i : Int) ∉ l → cleanD (recD D l D.s.1.toNat) (i : Int) = true) : loadOk (recD D l D.s.1.toNat) l = true := by
  unfold loadOk
  rw [recD_s, List.all_eq_true]
  intro i hi
  rw [List.mem_range] at hi
  by_cases hm : (i : Int) ∈ l
  · rw [decide_eq_true hm]; rfl
  · rw [h i hi hm, Bool.or_true]
end Go.Proofs.Ytmbiebdcnadhkaa.Fl

/- scan.Recover: walked. No condition. -/
namespace Go.Proofs.Ytmbiebdcnadhkaa.Fl
open Go.RowKit Go.Proofs.YtmbiebdcnadhkaaW.PrintWords Go.Proofs.YtmbiebdcnadhkaaW.PrintMore Go.Maps
set_option linter.unusedSimpArgs false
set_option linter.unusedVariables false
theorem LowA.mono {B B' n : Nat} {A : Option Addr} (h : LowA B n A) (hb : B' ≤ B) : LowA B' n A := fun ad hA h0 => Nat.le_trans hb (h ad hA h0)
theorem recD_in {D : PD} {l : List Int} {k : Nat} (h : (k : Int) ∈ l) : recD D l (k + 1) = recD D l k := by rw [recD, if_pos (.inl h)]
theorem recD_cl {D : PD} {l : List Int} {k : Nat} (h : cleanD (recD D l k) (k : Int) = true) : recD D l (k + 1) = recD D l k := by rw [recD, if_pos (.inr h)]
theorem recD_er {D : PD} {l : List Int} {k : Nat} (h : (k : Int) ∉ l) (h2 : cleanD (recD D l k) (k : Int) = false) : recD D l (k + 1) = erasedD (recD D l k) (k : Int) := by rw [recD, if_neg (fun hh => hh.elim h (fun e => by rw [h2] at e; cases e))]
/-- What has been gone through is sealed or clean. -/
def RecC (D : PD) (l : List Int) (k : Nat) : Prop := ∀ i : Nat, i < k → (i : Int) ∉ l → cleanD (recD D l k) (i : Int) = true
theorem RecC.same {D : PD} {l : List Int} {k : Nat} (h : RecC D l k) (e : recD D l (k + 1) = recD D l k) (hk : (k : Int) ∉ l → cleanD (recD D l k) (k : Int) = true) : RecC D l (k + 1) := fun i hi hn => by
  rw [e]
  by_cases hik : i = k
  · rw [hik] at hn ⊢; exact hk hn
  · exact h i (by omega) hn
theorem RecC.erased {D : PD} {l : List Int} {k : Nat} (h : RecC D l k) (e : recD D l (k + 1) = erasedD (recD D l k) (k : Int)) (hnd : Nodup (recD D l k).mp) (hh : hasB D.s (k : Int) 0 = true) : RecC D l (k + 1) := fun i hi hn => by
  rw [e, clean_erased hnd (by rw [recD_s]; exact hh)]
  by_cases hik : (i : Int) = (k : Int)
  · rw [if_pos hik]
  · rw [if_neg hik]; exact h i (by omega) hn
set_option maxHeartbeats 8000000 in
set_option maxRecDepth 100000 in
theorem Recover_F {N0 p : Nat} {F : (Nat → Prop) → PD → World → Prop} {K : Nat → Prop} {D : PD} {w : World} (hF : DevFrame N0 p F) (h : F K D w) (hby : BytD D) (h4 : 4 ≤ D.s.1) (hdl : D.dirty.length < 1000000) :
    Calls Try.prog 49 #[.pointer (some ⟨p, 0, none⟩)] w (RecPost N0 p F K D w) := by
  have hs := hF.shape h
  obtain ⟨n, hn⟩ := Int.eq_ofNat_of_zero_le (show 0 ≤ D.s.1 by omega)
  have n1 : 4 ≤ n := by omega
  have n2 : n ≤ 16 := by have := hs.a1; omega
  have hnn : D.s.1.toNat = n := by omega
  have hsh := fun (K' : Nat → Prop) (E : PD) (X : World) (hX : F K' E X) (hE : E.s = D.s) => (show Calls Try.prog 56 #[.pointer (some ⟨p, 0, none⟩)] X fun e w' => e = .returned (.agg #[.int .i64 (n : Int), .int .i64 D.s.2.1, .int .i64 D.s.2.2]) ∧ Below X.heap.size X w' from by
    obtain ⟨ok, hD⟩ := hF.dev hX
    have := Shape_any hD
    rw [hE, hn] at this
    exact this)
  have hsg := fun (K' : Nat → Prop) (X : World) (hX : F K' D X) => (show Calls Try.prog 51 #[.pointer (some ⟨p, 0, none⟩)] X (SegsPost X D) from by
    obtain ⟨ok, hD⟩ := hF.dev hX
    exact Segments_any hD hby)
  have hcl := fun (K' : Nat → Prop) (E : PD) (X : World) (hX : F K' E X) (a : Int) => (show Calls Try.prog 45 #[.pointer (some ⟨p, 0, none⟩), .int .i64 a] X fun e w' => e = .returned (.bool (cleanD E a)) ∧ Below X.heap.size X w' from by
    obtain ⟨ok, hD⟩ := hF.dev hX
    exact Clean_any hD a)
  have her := fun (K' : Nat → Prop) (E : PD) (X : World) (hX : F K' E X) (hE : E.dirty.length ≤ D.dirty.length) (a : Int) => hF.upd hX (fun ok hD => Erase_any hD a (show E.dirty.length < 1000000 by omega))
  have hld := fun (K' : Nat → Prop) (E : PD) (X : World) (hX : F K' E X) (hE : E.s = D.s) (A : Option Addr) (c : Nat) (l : List Int) (hI : IRow X A l) (hl : l.length ≤ 1000) (nx : Int) => (show Calls Try.prog 87 #[.pointer (some ⟨p, 0, none⟩), .slice A l.length c, .int .u64 nx] X (LoadPost X E p l nx) from by
    obtain ⟨ok, hD⟩ := hF.dev hX
    exact Load_any hD (by rw [hE]; exact h4) hI hl nx)
  have rs := fun (X : World) => run_shape1 X (n : Int) D.s.2.1 D.s.2.2
  have hlt := fun k hk => hF.lt h k hk
  have hsz := hF.size h
  have hhas : ∀ k : Nat, k < n → hasB D.s (k : Int) 0 = true := fun k hk => (hasB_iff _ _ _).2 ⟨by omega, by omega, Int.le_refl _, by have := hs.b0; omega⟩
  have HSH := Lib.hid hsh
  have HSG := Lib.hid hsg
  have HCL := Lib.hid hcl
  have HER := Lib.hid her
  have HLD := Lib.hid hld
  have HLT := Lib.hid hlt
  have HHAS := Lib.hid hhas
  have H0 := Aside0.mk h
  have HNN := Lib.hid hnn
  have HSOK := Lib.hid hs
  have HBY := Lib.hid hby
  have e_4 : decide ((n : Int) < 4) = false := decide_eq_false (by omega)
  clear hsh hsg hcl her hld hlt h hs hby h4 hdl hn hhas hnn
  go_enter Try.func49, Try.ntmps49
  go_wp2_with (first
    | (rw [← HW1.out])
    | (go_at_call 56; (with_reducible refine (HSH.out _ _ _ H0.out rfl).mono ?_); rintro e w1 ⟨rfl, hb⟩; obtain ⟨W1, hW1⟩ : ∃ W1, W1 = w1.alloc (.cells #[.int .i64 (n : Int), .int .i64 D.s.2.1, .int .i64 D.s.2.2] 23) := ⟨_, rfl⟩; have t1 : W1.heap[w1.heap.size]? = some (.cells #[.int .i64 (n : Int), .int .i64 D.s.2.1, .int .i64 D.s.2.2] 23 (0, 0)) := (by rw [hW1]; exact blk_new _ _); have c1 : W1.cell? ⟨w1.heap.size, 0, none⟩ = some (.int .i64 (n : Int)) := bcell t1 0; have HB1 := Aside0.mk (show Below w.heap.size w W1 from by rw [hW1]; exact below_alloc hb _); have HF1 := Aside0.mk (hF.below H0.out HB1.out); have HW1 := Lib.hid hW1; clear hb hW1 t1)
    | (go_at_call 51; (with_reducible refine (HSG.out _ _ HF1.out).mono ?_); rintro e w2 ⟨A, c, zs, rfl, hp, hs, hFR, hE, hb, hlo⟩; have HP := Lib.hid (show FoundOf D zs from ⟨hp, hs⟩); have HFR := Lib.hid hFR; have HE := Lib.hid hE; have HLO := Lib.hid (show LowA W1.heap.size zs.length A from hlo); have HB2 := Aside0.mk (HB1.out.trans (hb.mono HB1.out.size)); clear hp hs hFR hE hb hlo c1)
    | fail)
  have hzl := HP.out.len HSOK.out
  obtain ⟨m, hm⟩ : ∃ m, m = zs.length := ⟨_, rfl⟩
  obtain ⟨l, hl⟩ : ∃ l, l = zs.map (·.seg) := ⟨_, rfl⟩
  have hll : l.length = m := by rw [hl, hm, List.length_map]
  have HMZ := Lib.hid hm
  have HLZ := Lib.hid hl
  have HLL := Lib.hid hll
  rw [← hm] at hzl ⊢
  clear hm hl hll
  go_loopw [9, 30] (fun v9 v30 wr => ∃ (k : Nat), k ≤ m ∧ v30 = .int .i64 (k : Int) ∧ kI.R TNi wr w2.heap.size (fun j => w2.heap.size ≤ j) v9 (l.take k) ∧ Below w2.heap.size w2 wr) (fun _ v30 _ => m - (intOf v30).toNat)
  case atStart => exact ⟨0, Nat.zero_le _, rfl, Kd.R_nil _ _ _ _ _, Below.refl _ _⟩
  case round =>
    obtain ⟨k, hk, rfl, hR, hb⟩ := hrel
    have hlk : (l.take k).length = k := by rw [List.length_take, HLL.out]; omega
    obtain ⟨A9, c9, hv9⟩ := Kd.R_slice hR
    rw [hlk] at hv9
    subst hv9
    have HLK := Lib.hid hlk
    have HR := Aside0.mk hR
    have HB := Aside0.mk hb
    clear hR hb hlk
    by_cases hlt : k < m
    · obtain ⟨z, hz⟩ : ∃ z, zs[k]? = some z := ⟨_, List.getElem?_eq_getElem (by have := HMZ.out; omega)⟩
      obtain ⟨g, hA, hc⟩ := HFR.out k z hz
      have hc := hc.below (Below.refl _ _)
      subst hA
      have d0 := (HB.out.cell (blt_of_cell hc.c0)).trans hc.c0
      have d1 := (HB.out.cell (blt_of_cell hc.c1)).trans hc.c1
      have d2 := (HB.out.cell (blt_of_cell hc.c2)).trans hc.c2
      have hnx : l.take (k + 1) = l.take k ++ [z.seg] := by rw [List.take_add_one, HLZ.out, List.getElem?_map, hz]; rfl
      obtain ⟨zseg, zseq, zA, zc, zl⟩ := z
      obtain ⟨zm, hzm⟩ : ∃ m, m = zl.length := ⟨_, rfl⟩
      simp only [← hzm] at d0 d1 d2 hnx
      obtain ⟨Y, hY⟩ : ∃ Y, Y = wr.alloc (.cells #[.int .i64 zseg, .int .u64 zseq, .slice zA zm zc] TFo) := ⟨_, rfl⟩
      have y0 : Y.heap[wr.heap.size]? = some (.cells #[.int .i64 zseg, .int .u64 zseq, .slice zA zm zc] TFo (0, 0)) := by rw [hY]; exact blk_new wr _
      have yb : Below wr.heap.size wr Y := by rw [hY]; exact below_alloc (Below.refl _ _) _
      have b0 : Y.cell? ⟨wr.heap.size, 0, none⟩ = some (.int .i64 zseg) := bcell y0 0
      have HNX := Lib.hid hnx
      have HY := Lib.hid hY
      have YB := Aside0.mk (HB.out.trans (yb.mono HB.out.size))
      have HRY := Aside0.mk (Kd.R_below HR.out yb)
      have k0 : (0 : Int) ≤ (k : Int) := by omega
      have k2 : (k : Int) < (m : Int) := by omega
      clear hz hc hY y0 yb hzm hnx
      go_wp2_with (first
        | (rw [← HY.out])
        | (at_builtin; refine Kd.R_append kI (w0 := w2) w2.heap.size rfl (.tmp 34) (.tmp 37) 64 TNi (.int .i64 0) 8 rfl Try.underlying64 info_int rfl (by decide) (by decide) (.slice A9 k c9) (l.take k) zseg [.int .i64 zseg] (fun j => w2.heap.size ≤ j) (fun _ => False) rfl rfl (kI_mk _ _ _ _) (fun _ h => h.elim) (fun j hj => Nat.le_trans YB.out.size hj) HRY.out YB.out YB.out.size (by have := HLK.out; omega) ?_; intro v1 w5 hr1 hb5 hg hat; have HR5 := Aside0.mk hr1; have HB5 := Aside0.mk hb5; clear hr1 hb5 hg hat)
        | fail)
      exact ⟨⟨k + 1, by omega, by go_num, by rw [HNX.out]; exact HR5.out, HB5.out⟩, by simp [intOf]; omega⟩
    · obtain rfl : k = m := by omega
      have htl : l.take k = l := List.take_of_length_le (by have := HLL.out; omega)
      have hRf := HR.out
      rw [htl] at hRf
      have hlow := row_low hRf
      obtain ⟨A8, c8, hv8, hI⟩ := IRow.ofR hRf
      injection hv8 with e1 e2 e3
      subst e1 e3
      have HI := Lib.hid hI
      have HLW := Lib.hid hlow
      have HB3 := Aside0.mk (HB2.out.trans (HB.out.mono HB2.out.size))
      have hF3 := hF.below H0.out HB3.out
      have HF3 := Aside0.mk hF3
      clear hRf hlow htl e2 hI hF3
      go_wp2_with (first
        | (go_at_call 56; (with_reducible refine (HSH.out _ _ _ HF3.out rfl).mono ?_); rintro e w4 ⟨rfl, hb⟩; have HB4 := Aside0.mk (HB3.out.trans (hb.mono HB3.out.size)); have HI4 := Lib.hid (HI.out.below hb); have HFR4 := Lib.hid ((HFR.out.below (below_self HB.out (Nat.le_refl _))).below hb); have HE4 := Lib.hid (fun z hz => ((HE.out z hz).below (below_self HB.out (Nat.le_refl _))).below hb); clear hb)
        | fail)
      have HK4 := Aside0.mk (hF.keep H0.out HB4.out)
      have hw1 : w.heap.size ≤ W1.heap.size := HB1.out.size
      have hw2 : w.heap.size ≤ w2.heap.size := HB2.out.size
      go_loopw [12, 43] (fun v12 v43 wr => ∃ (j : Nat), j ≤ n ∧ v43 = .int .i64 (j : Int) ∧ F (fun i => K i ∨ (w.heap.size ≤ i ∧ i < w4.heap.size)) (recD D l j) wr ∧ Kept (fun i => K i ∨ (w.heap.size ≤ i ∧ i < w4.heap.size)) w4 wr ∧ Below N0 w4 wr ∧ RecC D l j) (fun _ v43 _ => n - (intOf v43).toNat)
      case atStart => exact ⟨0, Nat.zero_le _, rfl, HK4.out, fun _ _ => rfl, Below.refl _ _, fun i hi => by omega⟩
      case round =>
        obtain ⟨j, hj, rfl, hf, hkp, hb, hrc⟩ := hrel
        have hsm : SameFrom w.heap.size w4 wr := fun i h1 h2 => hkp i (.inr ⟨h1, h2⟩)
        have HFX := Aside0.mk hf
        have HKX := Lib.hid hkp
        have HBX := Aside0.mk hb
        have HRC := Lib.hid hrc
        have HSM := Lib.hid hsm
        have HIX := Lib.hid (HI4.out.same (HLW.out.mono hw2) hsm)
        clear hf hkp hb hrc hsm
        by_cases hltj : j < n
        · have q1 : (j : Int) < (n : Int) := by omega
          have hcw := Contains_any (c := c9) HIX.out (by have := HLL.out; omega) (j : Int)
          rw [HLL.out] at hcw
          by_cases hin : (j : Int) ∈ l
          · rw [decide_eq_true hin] at hcw
            have HCW := Lib.hid hcw
            have HIN := Lib.hid hin
            clear hcw hin
            go_wp2_with (first
              | (go_at_call 88; (with_reducible refine HCW.out.mono ?_); rintro e w5 ⟨rfl, rfl⟩)
              | fail)
            exact ⟨⟨j + 1, by omega, by go_num, by rw [recD_in HIN.out]; exact HFX.out, HKX.out, HBX.out, HRC.out.same (recD_in HIN.out) (fun h => absurd HIN.out h)⟩, by simp [intOf]; omega⟩
          · rw [decide_eq_false hin] at hcw
            have HCW := Lib.hid hcw
            have HIN := Lib.hid hin
            have hcc := HCL.out _ _ _ HFX.out (j : Int)
            cases hclv : cleanD (recD D l j) (j : Int) with
            | true =>
              rw [hclv] at hcc
              have HCC := Lib.hid hcc
              have HX := Lib.hid hclv
              clear hcw hin hcc hclv
              go_wp2_with (first
                | (go_at_call 88; (with_reducible refine HCW.out.mono ?_); rintro e w5 ⟨rfl, rfl⟩)
                | (go_at_call 45; (with_reducible refine HCC.out.mono ?_); rintro e w6 ⟨rfl, hb⟩; have hst := hF.still HFX.out hb; have HF6 := Aside0.mk hst.1; have HB6 := Aside0.mk (HBX.out.trans hst.2.1); have HK6 := Lib.hid (show Kept (fun i => K i ∨ (w.heap.size ≤ i ∧ i < w4.heap.size)) w4 w6 from fun i hi => (hst.2.2 i hi).trans (HKX.out i hi)); clear hb hst)
                | fail)
              exact ⟨⟨j + 1, by omega, by go_num, by rw [recD_cl HX.out]; exact HF6.out, HK6.out, HB6.out, HRC.out.same (recD_cl HX.out) (fun _ => HX.out)⟩, by simp [intOf]; omega⟩
            | false =>
              rw [hclv] at hcc
              have HCC := Lib.hid hcc
              have HX := Lib.hid hclv
              clear hcw hin hcc hclv
              go_wp2_with (first
                | (go_at_call 88; (with_reducible refine HCW.out.mono ?_); rintro e w5 ⟨rfl, rfl⟩)
                | (go_at_call 45; (with_reducible refine HCC.out.mono ?_); rintro e w6 ⟨rfl, hb⟩; have hst := hF.still HFX.out hb; have HF6 := Aside0.mk hst.1; have HB6 := Aside0.mk (HBX.out.trans hst.2.1); have HK6 := Lib.hid (show Kept (fun i => K i ∨ (w.heap.size ≤ i ∧ i < w4.heap.size)) w4 w6 from fun i hi => (hst.2.2 i hi).trans (HKX.out i hi)); clear hb hst)
                | (go_at_call 66; (with_reducible refine (HER.out _ _ _ HF6.out (recD_dirty _ _ _) _).mono ?_); rintro e w7 ⟨rfl, hf, hb, hk⟩; have HF7 := Aside0.mk hf; have HB7 := Aside0.mk (HB6.out.trans hb); have HK7 := Lib.hid (show Kept (fun i => K i ∨ (w.heap.size ≤ i ∧ i < w4.heap.size)) w4 w7 from fun i hi => (hk i hi).trans (HK6.out i hi)); clear hf hb hk)
                | fail)
              refine ⟨⟨j + 1, by omega, by go_num, by rw [recD_er HIN.out HX.out]; exact HF7.out, HK7.out, HB7.out, HRC.out.erased (recD_er HIN.out HX.out) ?_ (HHAS.out j hltj)⟩, by simp [intOf]; omega⟩
              obtain ⟨ok, hD⟩ := hF.dev HFX.out
              exact hD.nodup
        · obtain rfl : j = n := by omega
          have hfr6 := HFR4.out.same (HLO.out.mono hw1) HSM.out
          have he6 := fun z hz => (HE4.out z hz).same (fun i h1 h2 => HSM.out i (Nat.le_trans hw1 h1) h2)
          have hnx := Next_any (c := c) hfr6 (by have := HMZ.out; omega) (fun z hz => by
            obtain ⟨i, _, _, _, e, _⟩ := HP.out.mem hz
            rw [e]
            exact scan_seq HBY.out _)
          rw [← HMZ.out] at hnx
          have HNXT := Lib.hid hnx
          have HFR6 := Lib.hid hfr6
          have HE6 := Lib.hid he6
          have hok : loadOk (recD D l j) l = true := by
            have := recD_ok (D := D) (l := l) (fun i hi hn => by rw [HNN.out] at hi ⊢; exact HRC.out i hi hn)
            rw [HNN.out] at this
            exact this
          have HOKL := Lib.hid hok
          have hfew := HP.out.small
          have HFEW := Lib.hid hfew
          clear hfr6 he6 hnx hok hfew
          go_wp2_with (first
            | (go_at_call 89; (with_reducible refine HNXT.out.mono ?_); rintro e w8 ⟨rfl, hb⟩; have hld8 := HLD.out _ _ _ (hF.below HFX.out hb) (recD_s _ _ _) A9 c9 l (HIX.out.below hb) (by have := HLL.out; omega) (nextV (zs.map (·.seq))); (rw [HLL.out] at hld8); have HLD8 := Lib.hid hld8; have HB8 := Aside0.mk hb; clear hb hld8)
            | (go_at_call 87; (with_reducible refine HLD8.out.mono ?_); rintro e w9 hpost; obtain ⟨-, q, rfl, hq, hl9, hb9⟩ : loadOk (recD D l j) l = true ∧ ∃ q, e = .returned (.tuple #[.pointer (some ⟨q, 0, none⟩), .int .i64 0]) ∧ w8.heap.size ≤ q ∧ LogIs q p (loadG l (recD D l j).s.1.toNat (nextV (zs.map (·.seq)))) w9 ∧ Below w8.heap.size w8 w9 := (hpost.resolve_right (fun hh => by rw [HOKL.out] at hh; exact absurd hh.1 (by decide))); have HL9 := Aside0.mk hl9; have HB9 := Aside0.mk (HB8.out.trans (hb9.mono HB8.out.size)); have HJ := Lib.hid (Joined_any (c := c) (HFR6.out.below HB9.out) (fun z hz => (HE6.out z hz).below HB9.out) (by have := HMZ.out; omega) HFEW.out); clear hpost hq hl9 hb9)
            | (go_at_call 90; (have hjj := HJ.out); (rw [← HMZ.out] at hjj); (with_reducible refine hjj.mono ?_); clear hjj; rintro e w10 ⟨v, rfl, hr, hb⟩; obtain ⟨A10, c10, hv10⟩ := Kd.R_slice hr; subst hv10; have HR10 := Aside0.mk hr; have HL10 := Aside0.mk (HL9.out.below hb); have HB10 := Aside0.mk (HB9.out.trans (hb.mono HB9.out.size)); clear hr hb)
            | fail)
          go_ret3
          have hst := hF.still HFX.out HB10.out
          refine ⟨q, _, zs, rfl, HP.out, ?_, ?_, HR10.out, (HB4.out.mono hsz).trans (HBX.out.trans hst.2.1), fun i hi => (hst.2.2 i (.inl hi)).trans ((HKX.out i (.inl hi)).trans (HB4.out.block i (HLT.out i hi)))⟩
          · rw [← HLZ.out, HNN.out]
            exact hF.less hst.1 (fun i hi => .inl hi)
          · have hl10 := HL10.out
            rw [recD_s] at hl10
            rw [← HLZ.out]
            exact hl10
end Go.Proofs.Ytmbiebdcnadhkaa.Fl

/- What lies on a log's device: of each segment that isn't free a head, and its records. No program in sight. -/
namespace Go.Proofs.Ytmbiebdcnadhkaa.Fl
set_option linter.unusedSimpArgs false
set_option linter.unusedVariables false
/-- A segment: its head with its number, its records behind it; behind them nothing. -/
structure LaidS (D : PD) (a sq : Int) (rs : List (Int × List Int)) (e : Int) : Prop where
  head : Holds D a 0 1 sq []
  chain : Chain D a sq 1 rs e
  free : ∀ d, e ≤ d → usedB D a d = false
theorem LaidS.end_bad {D : PD} (hs : Sound D) {a sq : Int} {rs : List (Int × List Int)} {e : Int} (h : LaidS D a sq rs e) : (entD D a e).2 ≠ 0 := by
  cases hh : hasB D.s a e with
  | false => rw [no_ent hh]; decide
  | true => rw [unused_ent hs (h.free e (Int.le_refl _)) hh]; decide
theorem LaidS.scan {D : PD} (hs : Sound D) (hb : BytD D) {a sq : Int} {rs : List (Int × List Int)} {e : Int} (h : LaidS D a sq rs e) : scanD D a = (sq, entsL D.s a sq 1 rs, true) := by
  have hen := h.head.ent hs hb
  have hk : (kpg D.s ([] : List Int).length : Int) = 1 := by rw [List.length_nil, kpg_zero hs.sh]; rfl
  rw [hk] at hen
  have hb1 := hs.sh.b1
  unfold scanD scanL
  rw [hen, if_neg (by simp)]
  simp only
  rw [Chain.scan hs hb (h.end_bad hs) h.chain (by omega)]
theorem LaidS.move {D E : PD} (hs : E.s = D.s) {a sq : Int} {rs : List (Int × List Int)} {e : Int} (h : LaidS D a sq rs e) (hg : ∀ d, gotD E a d = gotD D a d) (hu : ∀ d, usedB E a d = usedB D a d) : LaidS E a sq rs e :=
  ⟨h.head.move hs (fun d _ _ => hg d), h.chain.move hs (fun d _ _ => hg d), fun d hd => by rw [hu]; exact h.free d hd⟩
theorem LaidS.keep {D : PD} (hs : ShapeOk D.s) {a sq : Int} {rs : List (Int × List Int)} {e : Int} (h : LaidS D a sq rs e) {c b kd sq2 : Int} {l : List Int} (h0 : (appE D c b l.length).2 = 0) (hne : a ≠ c) : LaidS (appD D c b l.length (Fl.rec kd sq2 l)) a sq rs e :=
  h.move (appD_s _ _ _ _ _) (fun d => app_got hs h0 (fun hh => hne hh.1)) (fun d => by rw [app_used hs h0, decide_eq_false (fun hh => hne hh.1), Bool.false_or])
theorem LaidS.app {D : PD} (hs : ShapeOk D.s) {a sq : Int} {rs : List (Int × List Int)} {e kd : Int} {l : List Int} (h : LaidS D a sq rs e) (hr : RecOk kd sq l) (hk : kd ≠ 1) (h0 : (appE D a e l.length).2 = 0) : LaidS (appD D a e l.length (Fl.rec kd sq l)) a sq (rs ++ [(kd, l)]) (e + (kpg D.s l.length : Int)) := by
  have hle := h.chain.le
  refine ⟨h.head.keep hs h0 (.inr (by rw [List.length_nil, kpg_zero hs]; omega)), ?_, fun d hd => ?_⟩
  · have h1 := Chain.keep (kd := kd) (sq := sq) hs h0 h.chain (.inr (Int.le_refl _))
    have h2 := Chain.snoc (r := (kd, l)) h1 (app_holds hs hr h0) hk
    rw [appD_s] at h2
    exact h2
  · rw [app_used hs h0, h.free d (by omega), Bool.or_false]
    exact decide_eq_false (fun hh => by omega)
theorem LaidS.start {D : PD} (hs : ShapeOk D.s) {a sq : Int} (hq : SeqOk sq) (h0 : (appE D a 0 0).2 = 0) (hu : ∀ d, usedB D a d = false) : LaidS (appD D a 0 0 (Fl.rec 1 sq [])) a sq [] 1 := by
  have h1 : (appE D a 0 ([] : List Int).length).2 = 0 := h0
  refine ⟨app_holds (l := []) hs ⟨⟨by decide, by decide⟩, hq, Byt.nil, by simp⟩ h1, rfl, fun d hd => ?_⟩
  have h2 := app_used (kd := 1) (sq := sq) (l := []) hs h1 a d
  rw [List.length_nil, kpg_zero hs] at h2
  rw [h2, hu, Bool.or_false]
  exact decide_eq_false (fun hh => by omega)
/-- Of each segment that isn't free: its number, its records, where they end. -/
structure LLay (D : PD) (g : LG) (sq : Int → Int) (rs : Int → List (Int × List Int)) (e : Int → Int) : Prop where
  laid : ∀ i : Nat, (i : Int) < D.s.1 → g.st[i]? ≠ some 0 → LaidS D (i : Int) (sq (i : Int)) (rs (i : Int)) (e (i : Int)) ∧ 1 ≤ sq (i : Int) ∧ sq (i : Int) < g.nx
  ne : ∀ i j : Nat, (i : Int) < D.s.1 → (j : Int) < D.s.1 → i ≠ j → g.st[i]? ≠ some 0 → g.st[j]? ≠ some 0 → sq (i : Int) ≠ sq (j : Int)
  opn : 0 ≤ g.op → e g.op = g.pg ∧ sq g.op = g.nx - 1
def upd {α : Type} (f : Int → α) (m : Int) (x : α) (i : Int) : α := if i = m then x else f i
theorem upd_same {α : Type} (f : Int → α) (m : Int) (x : α) : upd f m x m = x := if_pos rfl
theorem upd_ne {α : Type} (f : Int → α) {m i : Int} (x : α) (h : i ≠ m) : upd f m x i = f i := if_neg h
section
variable {D : PD} {g : LG} {sq : Int → Int} {rs : Int → List (Int × List Int)} {e : Int → Int}
theorem LLay.new {s : Int × Int × Int} (hs : ShapeOk s) (sq : Int → Int) (rs : Int → List (Int × List Int)) (e : Int → Int) : LLay ⟨s, [], []⟩ (newG 1) sq rs e := by
  have h0 : ∀ i : Nat, (i : Int) < s.1 → (newG 1).st[i]? = some 0 := fun i hi => by
    have := hs.a1
    show (List.replicate 16 (0 : Int))[i]? = some 0
    rw [List.getElem?_replicate, if_pos (by omega)]
  refine ⟨fun i hi hn => absurd (h0 i hi) hn, fun i j hi _ _ hn => absurd (h0 i hi) hn, fun ho => ?_⟩
  exfalso
  revert ho
  show 0 ≤ (-1 : Int) → False
  omega
theorem LLay.turn (h : LLay D g sq rs e) (hi : LInv D g) {l : List Int} {kind : Int} {m : Nat} (h4 : (m : Int) < D.s.1) (h5 : g.st[m]? = some 0) (h6 : (sealG g).st[m]? = some 0) (hn : l.length ≤ 4096) (h1 : fitsS D.s 1 l.length = true) (hk : KindOk kind) (hk1 : kind ≠ 1) (hb : Byt l) (hnx : g.nx < 900000) :
    LLay (appD (headD D g m) (m : Int) 1 l.length (Fl.rec kind g.nx l)) { st := (sealG g).st.set m 1, op := (m : Int), pg := 1 + (kpg D.s l.length : Int), nx := g.nx + 1 } (upd sq (m : Int) g.nx) (upd rs (m : Int) [(kind, l)]) (upd e (m : Int) (1 + (kpg D.s l.length : Int))) := by
  obtain ⟨h9, h10⟩ := hi.turn_fit (l := l) h4 h6 hn h1
  have hst := hi.start h4 h6
  have hs1 : (headD D g m).s = D.s := headD_s D g m
  have h0a : (appE D (m : Int) 0 0).2 = 0 := by rw [hst]
  have h0b : (appE (headD D g m) (m : Int) 1 l.length).2 = 0 := by rw [h10]
  have hn1 := hi.nx
  have hsq : SeqOk g.nx := ⟨by omega, by omega⟩
  have hb2 : ∀ i : Nat, i ≠ m → ((sealG g).st.set m 1)[i]? ≠ some 0 → g.st[i]? ≠ some 0 := fun i him hn2 h02 => by
    rw [List.getElem?_set, if_neg (fun e => him e.symm)] at hn2
    exact hn2 (hi.get_seal h02)
  refine ⟨fun i hi1 hst2 => ?_, fun i j a b c d e => ?_, fun _ => ⟨upd_same _ _ _, ?_⟩⟩
  · rw [appD_s, hs1] at hi1
    by_cases him : i = m
    · subst him
      rw [upd_same, upd_same, upd_same]
      have h11 := LaidS.start hi.sh hsq h0a (fun d => hi.free i h4 h5 d)
      have h12 := h11.app (D := headD D g i) (by rw [hs1]; exact hi.sh) (kd := kind) (l := l) ⟨hk, hsq, hb, hn⟩ hk1 h0b
      rw [hs1] at h12
      exact ⟨h12, by omega, by show g.nx < g.nx + 1; omega⟩
    · have hii : (i : Int) ≠ (m : Int) := by omega
      rw [upd_ne _ _ hii, upd_ne _ _ hii, upd_ne _ _ hii]
      obtain ⟨h13, h14⟩ := h.laid i hi1 (hb2 i him hst2)
      have h15 := h13.keep (kd := 1) (sq2 := g.nx) (l := []) hi.sh h0a hii
      have h16 := h15.keep (D := headD D g m) (kd := kind) (sq2 := g.nx) (by rw [hs1]; exact hi.sh) h0b hii
      exact ⟨h16, h14.1, by show _ < g.nx + 1; omega⟩
  · rw [appD_s, hs1] at a b
    by_cases h1m : i = m
    · have hjm : j ≠ m := fun e => c (by rw [h1m, e])
      have hjj : (j : Int) ≠ (m : Int) := by omega
      rw [h1m, upd_same, upd_ne _ _ hjj]
      have := (h.laid j b (hb2 j hjm e)).2.2
      omega
    · have hii : (i : Int) ≠ (m : Int) := by omega
      rw [upd_ne _ _ hii]
      by_cases h2m : j = m
      · rw [h2m, upd_same]
        have := (h.laid i a (hb2 i h1m d)).2.2
        omega
      · have hjj : (j : Int) ≠ (m : Int) := by omega
        rw [upd_ne _ _ hjj]
        exact h.ne i j a b c (hb2 i h1m d) (hb2 j h2m e)
  · show upd sq (m : Int) g.nx (m : Int) = g.nx + 1 - 1
    rw [upd_same]
    omega
/-- What is read of each segment. -/
theorem LLay.scan (h : LLay D g sq rs e) (hs : Sound D) (hb : BytD D) {i : Nat} (h1 : (i : Int) < D.s.1) (hst : g.st[i]? ≠ some 0) : scanD D (i : Int) = (sq (i : Int), entsL D.s (i : Int) (sq (i : Int)) 1 (rs (i : Int)), true) := (h.laid i h1 hst).1.scan hs hb
theorem free_scan (hi : LInv D g) (hs : Sound D) {i : Nat} (h1 : (i : Int) < D.s.1) (hst : g.st[i]? = some 0) : scanD D (i : Int) = (0, [], false) := by
  have h2 : hasB D.s (i : Int) 0 = true := (hasB_iff _ _ _).2 ⟨by omega, h1, Int.le_refl _, by have := hs.sh.b0; omega⟩
  have h3 := unused_ent hs (hi.free i h1 hst 0) h2
  unfold scanD scanL
  rw [if_pos (.inl (by rw [h3]; decide))]
end
end Go.Proofs.Ytmbiebdcnadhkaa.Fl

/- Chapter 16's example: walked. No condition. -/
namespace Go.Proofs.Ytmbiebdcnadhkaa.Fl
open Go.RowKit Go.Proofs.YtmbiebdcnadhkaaW.PrintWords Go.Proofs.YtmbiebdcnadhkaaW.PrintMore Go.Maps
set_option linter.unusedSimpArgs false
set_option linter.unusedVariables false
def bS : Int × Int × Int := (4, 4, 32)
def bD0 : PD := ⟨bS, [], []⟩
def bD2 : PD := appD (headD bD0 (newG 1) 0) 0 1 ([7] : List Int).length (Fl.rec 2 1 [7])
def bG2 : LG := { st := (sealG (newG 1)).st.set 0 1, op := 0, pg := 1 + (kpg bS ([7] : List Int).length : Int), nx := 1 + 1 }
theorem b_sh : ShapeOk bS := ⟨by decide, by decide, by decide, by decide, by decide, by decide⟩
theorem b_inv : LInv bD0 (newG 1) := LInv.new b_sh
theorem b_byt : Byt [7] := fun x hx => by simp at hx; omega
theorem b_s : bD2.s = bS := (appD_s _ _ _ _ _).trans (headD_s _ _ _)
theorem b_step : PutStep bD0 (newG 1) [] 2 [7] 2 (((0 : Nat) : Int), 1) 0 bD2 bG2 (appP bD0.s (headP bD0.s [] (newG 1) 0) ((0 : Nat) : Int) 1 ([7] : List Int).length (Fl.rec 2 (newG 1).nx [7])) :=
  .turn 0 (by decide) (by decide) (.inl (by decide)) (by decide) (by decide) (by decide) (by decide) (fun i hi => absurd hi (by omega)) (firstAt_is (by decide) (fun i hi => absurd hi (by omega)))
theorem b_keep : PutKeep bD0 (newG 1) [] bD2 bG2 (appP bD0.s (headP bD0.s [] (newG 1) 0) ((0 : Nat) : Int) 1 ([7] : List Int).length (Fl.rec 2 (newG 1).nx [7])) :=
  b_step.keep b_inv (Sim.new bS) (by decide) ⟨by decide, by decide⟩ b_byt (by decide)
theorem b_bytD : BytD bD2 := by
  have h1 : BytD (headD bD0 (newG 1) 0) := BytD.app b_sh (BytD.new _) _ _ _ (rec_byt ⟨by decide, by decide⟩ Byt.nil)
  exact BytD.app (by rw [headD_s]; exact b_sh) h1 _ _ _ (rec_byt ⟨by decide, by decide⟩ b_byt)
theorem b_dirty : (appD bD0 ((0 : Nat) : Int) 0 0 (Fl.rec 1 (newG 1).nx [])).dirty.length < 900000 := by
  have e1 := ((Sim.new bS).app ((0 : Nat) : Int) 0 0 (Fl.rec 1 (newG 1).nx [])).dirtyLe
  have e2 := appP_len b_sh [] ((0 : Nat) : Int) 0 0 (bs := Fl.rec 1 (newG 1).nx []) (by rw [rec_len]; rfl)
  rw [List.length_nil] at e2
  exact Nat.lt_of_le_of_lt (Nat.le_trans e1 e2) (by decide)
def bE : En := ⟨0, 1, 1, 1, 2, [7]⟩
theorem b_scan (hs : Sound bD2) : segsL bD2 bD2.s.1.toNat = [(0, 1, [bE])] := by
  have hl := (LLay.new b_sh (fun _ => 0) (fun _ => []) (fun _ => 0)).turn b_inv (l := [7]) (kind := 2) (m := 0) (by decide) (by decide) (by decide) (by decide) (by decide) ⟨by decide, by decide⟩ (by decide) b_byt (by decide)
  have hl : LLay bD2 bG2 (upd (fun _ => 0) 0 1) (upd (fun _ => []) 0 [(2, [7])]) (upd (fun _ => 0) 0 (1 + (kpg bS ([7] : List Int).length : Int))) := hl
  have h0 : scanD bD2 ((0 : Nat) : Int) = (1, [bE], true) := by
    have := hl.scan hs b_bytD (i := 0) (by rw [b_s]; decide) (by decide)
    rw [this, b_s]
    rfl
  have hf : ∀ i : Nat, (i : Int) < bS.1 → bG2.st[i]? = some 0 → scanD bD2 (i : Int) = (0, [], false) := fun i h1 h2 => free_scan b_keep.inv hs (by rw [b_s]; exact h1) h2
  have h1 := hf 1 (by decide) (by decide)
  have h2 := hf 2 (by decide) (by decide)
  have h3 := hf 3 (by decide) (by decide)
  have hr : List.range bD2.s.1.toNat = [0, 1, 2, 3] := by rw [b_s]; decide
  unfold segsL
  rw [hr]
  simp only [List.filterMap_cons, List.filterMap_nil]
  unfold segF
  rw [h0, h1, h2, h3]
  simp
theorem b_found {zs : List (FV En)} (hs : Sound bD2) (h : FoundOf bD2 zs) : joinL zs = [bE] := by
  have h1 := h.1
  rw [b_scan hs] at h1
  have h2 := List.perm_singleton.1 h1
  rcases zs with _ | ⟨z, _ | ⟨y, r⟩⟩
  · simp at h2
  · rw [List.map_cons, List.map_nil] at h2
    injection h2 with h3 _
    have h4 : z.l = [bE] := congrArg (fun t => t.2.2) h3
    unfold joinL
    simp [h4]
  · simp at h2
set_option maxHeartbeats 4000000 in
set_option maxRecDepth 100000 in
theorem Awake16_any (w : World) : Calls Try.prog 48 #[] w fun e w' => e = .returned (.bool true) ∧ Below w.heap.size w w' := by
  have hnew : Calls Try.prog 11 #[.agg #[.int .i64 4, .int .i64 4, .int .i64 32]] w fun e w' => ∃ p, e = .returned (.tuple #[.pointer (some ⟨p, 0, none⟩), .int .i64 0]) ∧ DevIs w.heap.size p bD0 (fun k => w.heap.size ≤ k) w' ∧ Below w.heap.size w w' := New_ok bS rfl w w.heap.size (Nat.le_refl _)
  have hlog : ∀ (p : Nat) (W : World), Solo w.heap.size p (fun _ => False) bD0 W → Calls Try.prog 25 #[.pointer (some ⟨p, 0, none⟩)] W fun e w' => ∃ q, e = .returned (.tuple #[.pointer (some ⟨q, 0, none⟩), .int .i64 0]) ∧ Solo w.heap.size p (fun k => False ∨ k = q) bD0 w' ∧ LogIs q p (newG 1) w' ∧ Below w.heap.size W w' ∧ Kept (fun _ => False) W w' ∧ W.heap.size ≤ q := fun p W h => LNew_any h b_sh (by decide)
  have hap : ∀ (p q g : Nat) (W : World) (K : Nat → Prop), Solo w.heap.size p K bD0 W → LogIs q p (newG 1) W → K q → w.heap.size ≤ q → K g → g ≠ q → W.cell? ⟨g, 0, none⟩ = some (.int .u8 7) → Calls Try.prog 64 #[.pointer (some ⟨q, 0, none⟩), .int .u8 2, .slice (some ⟨g, 0, none⟩) 1 1] W fun e w' => e = .returned (.tuple #[.agg #[.int .i64 0, .int .i64 1], .int .i64 0]) ∧ Solo w.heap.size p K bD2 w' ∧ Below w.heap.size W w' := fun p q g W K h hl hq hN hg hgq hc => by
    refine (LAppend_F (at_ := (((0 : Nat) : Int), 1)) (er := 0) (D2 := bD2) (g2 := bG2) (solo_frame _ _) (fun D => solo_stays _ _ D) h hl hq (fun K2 X hK hX hlX hb => ?_)).mono fun e w' ⟨h1, h2, h3, h4, h5⟩ => ⟨h1, h2, h4⟩
    have hrow : ∀ Y, Below w.heap.size X Y → Kept (fun k => K2 k ∧ k ≠ q) X Y → kB.C Y (some ⟨g, 0, none⟩) ([7] : List Int).length [7] := fun Y hY hkY => by
      refine C_one7 ?_
      have hlt := (solo_frame _ _).lt h g hg
      have e1 : Y.heap[g]? = W.heap[g]? := (hkY g ⟨hK g hg, hgq⟩).trans (hb.block g hlt)
      unfold World.cell? at hc ⊢
      rw [e1]
      exact hc
    exact LPut_turn0 (k := kpg bS 1) (m := 0) (solo_frame _ _) (fun D => solo_stays _ _ D) hX hlX (hK q hq) hN (hrow X (Below.refl _ _) (fun _ _ => rfl)) (Nat.le_refl _) (by decide) (by decide) (by decide) (by decide) ⟨by decide, by decide⟩ b_byt hrow (by decide) b_dirty (by decide) ⟨by decide, by decide⟩ (by decide) (by decide) (by decide) (firstAt_is (by decide) (fun i hi => absurd hi (by omega))) (by decide) (b_inv.turn_fit (l := [7]) (m := 0) (by decide) (by decide) (by decide) (by decide)).2 (by decide)
  have hall : ∀ (p : Nat) (W : World) (K : Nat → Prop), Solo w.heap.size p K bD2 W → Calls Try.prog 86 #[.pointer (some ⟨p, 0, none⟩)] W fun e w' => ∃ ad c, e = .returned (.slice (some ad) 1 c) ∧ w'.cell? ⟨ad.block, ad.off + 4, none⟩ = some (.int .u8 2) ∧ Below W.heap.size W w' := fun p W K h => by
    obtain ⟨ok, hD⟩ := (solo_frame _ _).dev h
    have hs := hD.sound
    refine (All_any hD b_bytD).mono fun e w' ⟨v, zs, e1, hf, hR, hb⟩ => ?_
    rw [b_found hs hf] at hR
    obtain ⟨A, c, rfl, _, hC⟩ := Kd.R_reads hR
    obtain ⟨ad, rfl, hc⟩ := hC.2.2 (by simp)
    obtain ⟨cs, _, ⟨A1, c1, rfl, _, _⟩, hcell⟩ := hc 0 _ rfl
    refine ⟨ad, c, e1, ?_, hb⟩
    have := hcell 4 (.int .u8 2) rfl
    simpa [Addr.add] using this
  have HNEW := Lib.hid hnew
  have HLOG := Lib.hid hlog
  have HAP := Lib.hid hap
  have HALL := Lib.hid hall
  clear hnew hlog hap hall
  go_enter Try.func48, Try.ntmps48
  go_wp2_with (first
    | (rw [← HW3.out])
    | (rw [← HW5.out])
    | (go_at_call 11; (with_reducible refine HNEW.out.mono ?_); rintro e w1 ⟨p, rfl, hd, hb⟩; have HD1 := Aside0.mk (Solo.new (Nat.le_refl _) hd hb); have HB1 := Aside0.mk hb; clear hd hb)
    | (go_at_call 25; (with_reducible refine (HLOG.out _ _ HD1.out).mono ?_); rintro e w2 ⟨q, rfl, hS, hl, hb, hk, hq⟩; obtain ⟨W3, hW3⟩ : ∃ W3, W3 = w2.alloc (.cells #[.int .u8 7] TB) := ⟨_, rfl⟩; have b23 : Below w2.heap.size w2 W3 := (by rw [hW3]; exact below_alloc (Below.refl _ _) _); have t3 : W3.heap[w2.heap.size]? = some (.cells #[.int .u8 7] TB (0, 0)) := (by rw [hW3]; exact blk_new _ _); have HT3 := Lib.hid (bcell t3 0); have HK3 := Lib.hid (show w2.heap.size < W3.heap.size ∧ w2.heap.size ≠ q from ⟨blt t3, by have := blt hl.blk; omega⟩); have HS3 := Aside0.mk ((solo_frame _ _).keep hS b23); have HL3 := Aside0.mk (hl.below b23); have HQ3 := Lib.hid (Nat.le_trans HB1.out.size hq); have HB3 := Aside0.mk ((HB1.out.trans hb).trans (b23.mono (Nat.le_trans HB1.out.size hb.size))); have HW3 := Lib.hid hW3; clear hS hl hb hk hq b23 t3 hW3)
    | (go_at_call 64; (have hap3 := HAP.out _ _ w2.heap.size _ _ HS3.out HL3.out (.inl (.inr rfl)) HQ3.out (.inr ⟨Nat.le_refl _, HK3.out.1⟩) HK3.out.2 HT3.out); (with_reducible refine hap3.mono ?_); clear hap3; rintro e w4 ⟨rfl, hS, hb⟩; obtain ⟨W5, hW5⟩ : ∃ W5, W5 = w4.alloc (.cells #[.int .i64 0, .int .i64 1] TA) := ⟨_, rfl⟩; have b45 : Below w4.heap.size w4 W5 := (by rw [hW5]; exact below_alloc (Below.refl _ _) _); have HS5 := Aside0.mk ((solo_frame _ _).below hS b45); have HB5 := Aside0.mk ((HB3.out.trans hb).trans (b45.mono (Nat.le_trans HB3.out.size hb.size))); have HW5 := Lib.hid hW5; clear hS hb b45 hW5)
    | (go_at_call 86; (with_reducible refine (HALL.out _ _ _ HS5.out).mono ?_); rintro e w6 ⟨ad, c, rfl, hcl, hb⟩; have HB6 := Aside0.mk (HB5.out.trans (hb.mono HB5.out.size)); clear hb)
    | fail)
  go_ret
  exact ⟨rfl, HB6.out⟩
end Go.Proofs.Ytmbiebdcnadhkaa.Fl

/- How many segments of a log that was loaded are in a state; Recover at no device, and at one with too few segments: walked. -/
namespace Go.Proofs.Ytmbiebdcnadhkaa.Fl
open Go.RowKit Go.Proofs.YtmbiebdcnadhkaaW.PrintWords Go.Proofs.YtmbiebdcnadhkaaW.PrintMore Go.Maps
set_option linter.unusedSimpArgs false
set_option linter.unusedVariables false
def headB (D : PD) (i : Nat) : Bool := (scanD D (i : Int)).2.2
theorem segsL_is (D : PD) (n : Nat) : (segsL D n).map (·.1) = ((List.range n).filter (headB D)).map (fun i : Nat => (i : Int)) := by
  unfold segsL
  induction List.range n with
  | nil => rfl
  | cons i l ih =>
    rw [List.filterMap_cons, List.filter_cons]
    unfold segF headB at *
    by_cases h : (scanD D (i : Int)).2.2 = true
    · rw [if_pos h, if_pos h, List.map_cons, List.map_cons]
      simp only
      rw [ih]
    · rw [if_neg h, if_neg h]
      exact ih
theorem segsL_cnt (D : PD) (n : Nat) : (segsL D n).length = ((List.range n).filter (headB D)).length := by
  have := congrArg List.length (segsL_is D n)
  simpa using this
theorem FoundOf.num {D : PD} {zs : List (FV En)} (h : FoundOf D zs) : zs.length = ((List.range D.s.1.toNat).filter (headB D)).length := by
  rw [← segsL_cnt]
  have := h.1.length_eq
  simpa using this
theorem FoundOf.segs {D : PD} {zs : List (FV En)} (h : FoundOf D zs) (i : Nat) : (i : Int) ∈ zs.map (·.seg) ↔ i < D.s.1.toNat ∧ headB D i = true := by
  have h1 : (zs.map toT).map (·.1) = zs.map (·.seg) := by rw [List.map_map]; rfl
  have h2 := h.1.map (·.1)
  rw [h1, segsL_is] at h2
  rw [h2.mem_iff, List.mem_map]
  constructor
  · rintro ⟨j, hj, e⟩
    have : j = i := by omega
    rw [this] at hj
    simpa using hj
  · intro hh
    exact ⟨i, by simpa using hh, rfl⟩
theorem filter_both {α : Type} (q : α → Bool) (l : List α) : (l.filter q).length + (l.filter (fun x => !q x)).length = l.length := by
  induction l with
  | nil => rfl
  | cons x l ih =>
    rw [List.filter_cons, List.filter_cons]
    cases q x <;> simp <;> omega
theorem loadSt_take {l : List Int} {n : Nat} (hn : n ≤ 16) : (loadSt l n).take n = (List.range n).map (fun i : Nat => if (i : Int) ∈ l then 2 else 0) := by
  unfold loadSt
  rw [← List.map_take, List.take_range, Nat.min_eq_left hn]
  refine List.map_congr_left (fun i hi => ?_)
  have : i < n := by simpa using hi
  have e : (i < n ∧ (i : Int) ∈ l) = ((i : Int) ∈ l) := propext ⟨fun h => h.2, fun h => ⟨this, h⟩⟩
  simp only [e]
/-- The states of a log that was recovered. -/
theorem FoundOf.counts {D : PD} {zs : List (FV En)} (h : FoundOf D zs) (hs : ShapeOk D.s) (nx : Int) :
    cnt 2 ((loadG (zs.map (·.seg)) D.s.1.toNat nx).st.take D.s.1.toNat) = zs.length ∧ (cnt 0 ((loadG (zs.map (·.seg)) D.s.1.toNat nx).st.take D.s.1.toNat) : Int) = D.s.1 - zs.length ∧ cnt 1 ((loadG (zs.map (·.seg)) D.s.1.toNat nx).st.take D.s.1.toNat) = 0 := by
  have ha0 := hs.a0
  have ha1 := hs.a1
  have hst : (loadG (zs.map (·.seg)) D.s.1.toNat nx).st.take D.s.1.toNat = (List.range D.s.1.toNat).map (fun i : Nat => if headB D i = true then (2 : Int) else 0) := by
    show (loadSt _ _).take _ = _
    rw [loadSt_take (by omega)]
    refine List.map_congr_left (fun i hi => ?_)
    have hi : i < D.s.1.toNat := by simpa using hi
    have e : ((i : Int) ∈ zs.map (·.seg)) = (headB D i = true) := propext ⟨fun hh => ((h.segs i).1 hh).2, fun hh => (h.segs i).2 ⟨hi, hh⟩⟩
    simp only [e]
  have hf : ∀ (a : Int) (q : Nat → Bool), (∀ i, ((if headB D i = true then (2 : Int) else 0) == a) = q i) → cnt a ((List.range D.s.1.toNat).map (fun i : Nat => if headB D i = true then (2 : Int) else 0)) = ((List.range D.s.1.toNat).filter q).length := fun a q hq => by
    unfold cnt
    rw [List.filter_map, List.length_map]
    congr 1
    refine List.filter_congr (fun i _ => ?_)
    exact hq i
  have h2 := hf 2 (headB D) (fun i => by cases headB D i <;> decide)
  have h0 := hf 0 (fun i => !headB D i) (fun i => by cases headB D i <;> decide)
  have h1 := hf 1 (fun _ => false) (fun i => by cases headB D i <;> decide)
  have hb := filter_both (headB D) (List.range D.s.1.toNat)
  rw [List.length_range] at hb
  rw [hst, h2, h0, h1, h.num]
  refine ⟨rfl, by omega, by simp⟩
section
variable {p N0 : Nat} {w : World} {D : PD} {ok : Nat → Prop}
set_option maxHeartbeats 2000000 in
set_option maxRecDepth 100000 in
theorem Recover_none (w : World) : Calls Try.prog 49 #[.pointer none] w fun e w' => e = .returned (.tuple #[.pointer none, .slice none 0 0, .int .i64 2]) ∧ Below w.heap.size w w' := by
  go_enter Try.func49, Try.ntmps49
  go_wp2_with (first
    | (go_at_call 56; (with_reducible refine (Shape_none _).mono ?_); rintro e w1 ⟨rfl, hb⟩; have HB := Aside0.mk hb; clear hb)
    | (go_at_call 87; (with_reducible refine (Load_none _ _ _).mono ?_); rintro e w2 ⟨rfl, hb⟩; have HB2 := Aside0.mk ((below_alloc HB.out _).trans (hb.mono (below_alloc HB.out _).size)); clear hb)
    | fail)
  go_ret3
  exact ⟨rfl, HB2.out⟩
set_option maxHeartbeats 2000000 in
set_option maxRecDepth 100000 in
theorem Recover_few (hD : DevIs N0 p D ok w) (h4 : D.s.1 < 4) : Calls Try.prog 49 #[.pointer (some ⟨p, 0, none⟩)] w fun e w' => e = .returned (.tuple #[.pointer none, .slice none 0 0, .int .i64 1]) ∧ Below w.heap.size w w' := by
  have HS := Lib.hid (Shape_any hD)
  have HL := Lib.hid (fun (X : World) (hX : Below w.heap.size w X) (v : Value) (nx : Int) => Load_few (hD.below hX) h4 v nx)
  have e_4 : decide (D.s.1 < 4) = true := decide_eq_true h4
  clear hD h4
  go_enter Try.func49, Try.ntmps49
  go_wp2_with (first
    | (go_at_call 56; (with_reducible refine HS.out.mono ?_); rintro e w1 ⟨rfl, hb⟩; have HB := Aside0.mk hb; clear hb)
    | (go_at_call 87; (with_reducible refine (HL.out _ (below_alloc HB.out _) _ _).mono ?_); rintro e w2 ⟨rfl, hb⟩; have HB2 := Aside0.mk ((below_alloc HB.out _).trans (hb.mono (below_alloc HB.out _).size)); clear hb)
    | fail)
  go_ret3
  exact ⟨rfl, HB2.out⟩
end
end Go.Proofs.Ytmbiebdcnadhkaa.Fl

/- ScanAny: walked. No condition but what every argument brings. -/
namespace Go.Proofs.Ytmbiebdcnadhkaa.Fl
open Go.RowKit Go.Proofs.YtmbiebdcnadhkaaW.PrintWords Go.Proofs.YtmbiebdcnadhkaaW.PrintMore Go.Maps
set_option linter.unusedSimpArgs false
set_option linter.unusedVariables false
/-- A slice of addresses, its cells. -/
def AdRow (w : World) (A : Option Addr) (ds : List Adr) : Prop := ∀ (i : Nat) (d : Adr), ds[i]? = some d → ∃ ad, A = some ad ∧ w.cell? (ad.add (i * 2)) = some (.int .i64 d.1) ∧ w.cell? ⟨(ad.add (i * 2)).block, (ad.add (i * 2)).off + 1, none⟩ = some (.int .i64 d.2)
theorem AdRow.below {w w' : World} {A : Option Addr} {ds : List Adr} (h : AdRow w A ds) (hb : Below w.heap.size w w') : AdRow w' A ds := fun i d hi => by
  obtain ⟨ad, h1, h2, h3⟩ := h i d hi
  exact ⟨ad, h1, (hb.cell (World.block_lt_of_cell? w _ h2)).trans h2, (hb.cell (World.block_lt_of_cell? w _ h3)).trans h3⟩
set_option maxHeartbeats 8000000 in
set_option maxRecDepth 100000 in
theorem ScanAny_any {w : World} {A B : Option Addr} {c d : Nat} (s : Int × Int × Int) {ads : List Adr} {bs : List Int} (hr : AdRow w A ads) (h0 : ads.length ≤ 9223372036854775807) (hC : kB.C w B bs.length bs) (hby : Byt bs) (h1 : bs.length ≤ 9223372036854775807) :
    Calls Try.prog 7 #[.agg #[.int .i64 s.1, .int .i64 s.2.1, .int .i64 s.2.2], .slice A ads.length c, .slice B bs.length d] w fun e w' => e = .returned (.bool true) ∧ Below w.heap.size w w' := by
  obtain ⟨n, hn⟩ : ∃ n, n = ads.length := ⟨_, rfl⟩
  obtain ⟨m, hm⟩ : ∃ m, m = bs.length := ⟨_, rfl⟩
  obtain ⟨W, hW⟩ : ∃ W, W = w.alloc (.cells #[.int .i64 s.1, .int .i64 s.2.1, .int .i64 s.2.2] 23) := ⟨_, rfl⟩
  have q0 : W.heap[w.heap.size]? = some (.cells #[.int .i64 s.1, .int .i64 s.2.1, .int .i64 s.2.2] 23 (0, 0)) := by rw [hW]; exact blk_new w _
  have qb : Below w.heap.size w W := by rw [hW]; exact below_alloc (Below.refl _ _) _
  have hbox : ∀ V : World, Below W.heap.size W V → V.cell? ⟨w.heap.size, 0, none⟩ = some (.int .i64 s.1) ∧ V.cell? ⟨w.heap.size, 1, none⟩ = some (.int .i64 s.2.1) ∧ V.cell? ⟨w.heap.size, 2, none⟩ = some (.int .i64 s.2.2) := fun V hV => by
    have := (hV.block w.heap.size (blt q0)).trans q0
    exact ⟨bcell this 0, bcell this 1, bcell this 2⟩
  have hrow := fun (V : World) (hV : Below W.heap.size W V) => (hr.below qb).below hV
  have hdat := fun (V : World) (hV : Below W.heap.size W V) => Kd.C_below (Kd.C_below hC qb) hV
  have HBOX := Lib.hid hbox
  have HROW := Lib.hid hrow
  have HDAT := Lib.hid hdat
  have HW := Lib.hid hW
  have QB := Aside0.mk qb
  have HN := Lib.hid hn
  have HM := Lib.hid hm
  have HBT := Lib.hid hby
  rw [← hn] at h0
  rw [← hm] at h1
  rw [← hn, ← hm]
  clear hr hn hm hC hby hbox hrow hdat hW q0 qb
  by_cases hbig : 40 < n
  · have e1 : decide ((n : Int) > 40) = true := decide_eq_true (by omega)
    go_enter Try.func7, Try.ntmps7
    go_wp2_with fail
    rw [← HW.out]
    go_wp2_with (first
      | (go_at_call 48; (with_reducible refine (Awake16_any _).mono ?_); rintro e w1 ⟨rfl, hb⟩; obtain ⟨k1, k2, k3⟩ := HBOX.out _ hb; have HB1 := Aside0.mk hb; clear hb)
      | fail)
    go_ret
    exact ⟨rfl, QB.out.trans (HB1.out.mono QB.out.size)⟩
  · have e1 : decide ((n : Int) > 40) = false := decide_eq_false (by omega)
    by_cases hbig2 : 300 < m
    · have e2 : decide ((m : Int) > 300) = true := decide_eq_true (by omega)
      go_enter Try.func7, Try.ntmps7
      go_wp2_with fail
      rw [← HW.out]
      go_wp2_with (first
        | (go_at_call 48; (with_reducible refine (Awake16_any _).mono ?_); rintro e w1 ⟨rfl, hb⟩; obtain ⟨k1, k2, k3⟩ := HBOX.out _ hb; have HB1 := Aside0.mk hb; clear hb)
        | fail)
      go_ret
      exact ⟨rfl, QB.out.trans (HB1.out.mono QB.out.size)⟩
    · have e2 : decide ((m : Int) > 300) = false := decide_eq_false (by omega)
      cases hs : shapeB s with
      | false =>
        have hno := fun V => New_no s hs V
        have HNO := Lib.hid hno
        clear hs hno
        go_enter Try.func7, Try.ntmps7
        go_wp2_with fail
        rw [← HW.out]
        go_wp2_with (first
          | (go_at_call 48; (with_reducible refine (Awake16_any _).mono ?_); rintro e w1 ⟨rfl, hb⟩; obtain ⟨k1, k2, k3⟩ := HBOX.out _ hb; have HB1 := Aside0.mk hb; clear hb)
          | (go_at_call 11; (with_reducible refine (HNO.out _).mono ?_); rintro e w4 ⟨rfl, hb⟩; have HB4 := Aside0.mk (HB1.out.trans (hb.mono HB1.out.size)); clear hb)
          | (go_at_call 49; (with_reducible refine (Recover_none _).mono ?_); rintro e w5 ⟨rfl, hb⟩; have HB5 := Aside0.mk (HB4.out.trans (hb.mono HB4.out.size)); clear hb)
          | fail)
        go_ret
        exact ⟨rfl, QB.out.trans (HB5.out.mono QB.out.size)⟩
      | true =>
        have hnew : ∀ V : World, Below W.heap.size W V → Calls Try.prog 11 #[.agg #[.int .i64 s.1, .int .i64 s.2.1, .int .i64 s.2.2]] V fun e w' => ∃ p, e = .returned (.tuple #[.pointer (some ⟨p, 0, none⟩), .int .i64 0]) ∧ Solo W.heap.size p (fun _ => False) ⟨s, [], []⟩ w' ∧ Below W.heap.size W w' := fun V hV => (New_ok s hs V W.heap.size hV.size).mono fun e w' ⟨p, h1, h2, h3⟩ => ⟨p, h1, Solo.new hV.size h2 h3, hV.trans (h3.mono hV.size)⟩
        have hsh := shapeB_ok hs
        have HSH := Lib.hid hsh
        have HNEW := Lib.hid hnew
        clear hs hnew hsh
        by_cases h4 : s.1 < 4
        · have e4 : decide (s.1 < 4) = true := decide_eq_true h4
          have H4 := Lib.hid h4
          clear h4
          go_enter Try.func7, Try.ntmps7
          go_wp2_with fail
          rw [← HW.out]
          go_wp2_with (first
            | (go_at_call 48; (with_reducible refine (Awake16_any _).mono ?_); rintro e w1 ⟨rfl, hb⟩; obtain ⟨k1, k2, k3⟩ := HBOX.out _ hb; have HB1 := Aside0.mk hb; clear hb)
            | (go_at_call 11; (with_reducible refine (HNEW.out _ HB1.out).mono ?_); rintro e w2 ⟨p, rfl, hS, hb⟩; have HS2 := Aside0.mk hS; have HB2 := Aside0.mk hb; clear hS hb k1 k2 k3)
            | fail)
          go_loopw [54] (fun v54 wr => ∃ (k : Nat) (D : PD), k ≤ n ∧ v54 = .int .i64 (k : Int) ∧ Solo W.heap.size p (fun _ => False) D wr ∧ BytD D ∧ D.s = s ∧ D.dirty.length ≤ k ∧ Below W.heap.size W wr) (fun v54 _ => n - (intOf v54).toNat)
          case atStart => exact ⟨0, _, Nat.zero_le _, rfl, HS2.out, BytD.new s, rfl, Nat.le_refl _, HB2.out⟩
          case round =>
            obtain ⟨k, D, hk, rfl, hS, hbt, hDs, hdl, hb⟩ := hrel
            have HS := Aside0.mk hS
            have HBD := Lib.hid hbt
            have HDS := Lib.hid hDs
            have HDL := Lib.hid hdl
            have HB := Aside0.mk hb
            clear hS hbt hDs hdl hb
            by_cases hlt : k < n
            · obtain ⟨⟨da, db⟩, hd⟩ : ∃ d, ads[k]? = some d := ⟨_, List.getElem?_eq_getElem (by have := HN.out; omega)⟩
              obtain ⟨ad, rfl, d0, d1⟩ := HROW.out wr HB.out k _ hd
              simp only at d0 d1
              obtain ⟨Y, hY⟩ : ∃ Y, Y = wr.alloc (.cells #[.int .i64 da, .int .i64 db] TA) := ⟨_, rfl⟩
              have y0 : Y.heap[wr.heap.size]? = some (.cells #[.int .i64 da, .int .i64 db] TA (0, 0)) := by rw [hY]; exact blk_new wr _
              have yb : Below wr.heap.size wr Y := by rw [hY]; exact below_alloc (Below.refl _ _) _
              have b0 : Y.cell? ⟨wr.heap.size, 0, none⟩ = some (.int .i64 da) := bcell y0 0
              have b1 : Y.cell? ⟨wr.heap.size, 1, none⟩ = some (.int .i64 db) := bcell y0 1
              have YB := Aside0.mk (HB.out.trans (yb.mono HB.out.size))
              have hwr := (solo_frame W.heap.size p).write ((solo_frame _ _).below HS.out yb) da db B d bs (HDAT.out Y YB.out) (by have := HDL.out; omega)
              rw [← HM.out] at hwr
              have HWR := Lib.hid hwr
              have HY := Lib.hid hY
              have k0 : (0 : Int) ≤ (k : Int) := by omega
              have k2 : (k : Int) < (n : Int) := by omega
              clear hd hwr hY y0 yb
              go_wp2_with (first
                | (rw [← HY.out])
                | (go_at_call 50; (with_reducible refine HWR.out.mono ?_); rintro e w3 ⟨rfl, hS, hb, -⟩; have HS3 := Aside0.mk hS; have HB3 := Aside0.mk (YB.out.trans hb); clear hS hb)
                | fail)
              exact ⟨⟨k + 1, _, by omega, by go_num, HS3.out, HBD.out.write da db HBT.out, by rw [writeD_s]; exact HDS.out, by have := writeD_dirty D da db bs; have := HDL.out; omega, HB3.out⟩, by simp [intOf]; omega⟩
            · obtain rfl : k = n := by omega
              obtain rfl : D.s = s := HDS.out
              have hsg : Calls Try.prog 51 #[.pointer (some ⟨p, 0, none⟩)] wr (SegsPost wr D) := by
                obtain ⟨ok, hD⟩ := (solo_frame _ _).dev HS.out
                exact Segments_any hD HBD.out
              have HSG := Lib.hid hsg
              clear hsg
              go_wp2_with (first
                | (go_at_call 51; (with_reducible refine HSG.out.mono ?_); rintro e w4 ⟨A4, c4, zs, rfl, hp, hs, -, -, hb, -⟩; have HP := Lib.hid (show FoundOf D zs from ⟨hp, hs⟩); have HS4 := Aside0.mk ((solo_frame _ _).below HS.out hb); have HB4 := Aside0.mk (HB.out.trans (hb.mono HB.out.size)); obtain ⟨zn, hzn⟩ : ∃ zn, zn = zs.length := ⟨_, rfl⟩; (rw [← hzn]); have HZN := Lib.hid hzn; clear hp hs hb hzn)
                | (go_at_call 49; (have hrf : Calls Try.prog 49 #[.pointer (some ⟨p, 0, none⟩)] w4 (fun e w' => e = .returned (.tuple #[.pointer none, .slice none 0 0, .int .i64 1]) ∧ Below w4.heap.size w4 w') := (by obtain ⟨ok, hD⟩ := (solo_frame _ _).dev HS4.out; exact Recover_few hD H4.out)); (with_reducible refine hrf.mono ?_); clear hrf; rintro e w5 ⟨rfl, hb⟩; have HB5 := Aside0.mk (HB4.out.trans (hb.mono HB4.out.size)); obtain ⟨j1, j2, j3⟩ := HBOX.out _ HB5.out; clear hb)
                | fail)
              go_ret
              exact ⟨rfl, QB.out.trans (HB5.out.mono QB.out.size)⟩
        · have e4 : decide (s.1 < 4) = false := decide_eq_false h4
          have H4 := Lib.hid (show 4 ≤ s.1 by omega)
          clear h4
          go_enter Try.func7, Try.ntmps7
          go_wp2_with fail
          rw [← HW.out]
          go_wp2_with (first
            | (go_at_call 48; (with_reducible refine (Awake16_any _).mono ?_); rintro e w1 ⟨rfl, hb⟩; obtain ⟨k1, k2, k3⟩ := HBOX.out _ hb; have HB1 := Aside0.mk hb; clear hb)
            | (go_at_call 11; (with_reducible refine (HNEW.out _ HB1.out).mono ?_); rintro e w2 ⟨p, rfl, hS, hb⟩; have HS2 := Aside0.mk hS; have HB2 := Aside0.mk hb; clear hS hb k1 k2 k3)
            | fail)
          go_loopw [54] (fun v54 wr => ∃ (k : Nat) (D : PD), k ≤ n ∧ v54 = .int .i64 (k : Int) ∧ Solo W.heap.size p (fun _ => False) D wr ∧ BytD D ∧ D.s = s ∧ D.dirty.length ≤ k ∧ Below W.heap.size W wr) (fun v54 _ => n - (intOf v54).toNat)
          case atStart => exact ⟨0, _, Nat.zero_le _, rfl, HS2.out, BytD.new s, rfl, Nat.le_refl _, HB2.out⟩
          case round =>
            obtain ⟨k, D, hk, rfl, hS, hbt, hDs, hdl, hb⟩ := hrel
            have HS := Aside0.mk hS
            have HBD := Lib.hid hbt
            have HDS := Lib.hid hDs
            have HDL := Lib.hid hdl
            have HB := Aside0.mk hb
            clear hS hbt hDs hdl hb
            by_cases hlt : k < n
            · obtain ⟨⟨da, db⟩, hd⟩ : ∃ d, ads[k]? = some d := ⟨_, List.getElem?_eq_getElem (by have := HN.out; omega)⟩
              obtain ⟨ad, rfl, d0, d1⟩ := HROW.out wr HB.out k _ hd
              simp only at d0 d1
              obtain ⟨Y, hY⟩ : ∃ Y, Y = wr.alloc (.cells #[.int .i64 da, .int .i64 db] TA) := ⟨_, rfl⟩
              have y0 : Y.heap[wr.heap.size]? = some (.cells #[.int .i64 da, .int .i64 db] TA (0, 0)) := by rw [hY]; exact blk_new wr _
              have yb : Below wr.heap.size wr Y := by rw [hY]; exact below_alloc (Below.refl _ _) _
              have b0 : Y.cell? ⟨wr.heap.size, 0, none⟩ = some (.int .i64 da) := bcell y0 0
              have b1 : Y.cell? ⟨wr.heap.size, 1, none⟩ = some (.int .i64 db) := bcell y0 1
              have YB := Aside0.mk (HB.out.trans (yb.mono HB.out.size))
              have hwr := (solo_frame W.heap.size p).write ((solo_frame _ _).below HS.out yb) da db B d bs (HDAT.out Y YB.out) (by have := HDL.out; omega)
              rw [← HM.out] at hwr
              have HWR := Lib.hid hwr
              have HY := Lib.hid hY
              have k0 : (0 : Int) ≤ (k : Int) := by omega
              have k2 : (k : Int) < (n : Int) := by omega
              clear hd hwr hY y0 yb
              go_wp2_with (first
                | (rw [← HY.out])
                | (go_at_call 50; (with_reducible refine HWR.out.mono ?_); rintro e w3 ⟨rfl, hS, hb, -⟩; have HS3 := Aside0.mk hS; have HB3 := Aside0.mk (YB.out.trans hb); clear hS hb)
                | fail)
              exact ⟨⟨k + 1, _, by omega, by go_num, HS3.out, HBD.out.write da db HBT.out, by rw [writeD_s]; exact HDS.out, by have := writeD_dirty D da db bs; have := HDL.out; omega, HB3.out⟩, by simp [intOf]; omega⟩
            · obtain rfl : k = n := by omega
              obtain rfl : D.s = s := HDS.out
              have hsg : Calls Try.prog 51 #[.pointer (some ⟨p, 0, none⟩)] wr (SegsPost wr D) := by
                obtain ⟨ok, hD⟩ := (solo_frame _ _).dev HS.out
                exact Segments_any hD HBD.out
              have HSG := Lib.hid hsg
              clear hsg
              go_wp2_with (first
                | (go_at_call 51; (with_reducible refine HSG.out.mono ?_); rintro e w4 ⟨A4, c4, zs, rfl, hp, hs, -, -, hb, -⟩; have HP := Lib.hid (show FoundOf D zs from ⟨hp, hs⟩); have HS4 := Aside0.mk ((solo_frame _ _).below HS.out hb); have HB4 := Aside0.mk (HB.out.trans (hb.mono HB.out.size)); obtain ⟨zn, hzn⟩ : ∃ zn, zn = zs.length := ⟨_, rfl⟩; (rw [← hzn]); have HZN := Lib.hid hzn; clear hp hs hb hzn)
                | (go_at_call 49; (with_reducible refine (Recover_F (solo_frame _ _) HS4.out HBD.out H4.out (by have := HDL.out; omega)).mono ?_); rintro e w5 ⟨q, v, zs2, rfl, hf, hS, hl, hR, hb, -⟩; obtain ⟨A5, c5, hv5⟩ := Kd.R_slice hR; subst hv5; have HF5 := Lib.hid hf; have HS5 := Aside0.mk hS; have HL5 := Aside0.mk hl; have HB5 := Aside0.mk (HB4.out.trans hb); obtain ⟨j1, j2, j3⟩ := HBOX.out _ HB5.out; clear hf hS hl hR hb)
                | fail)
              have hct := HF5.out.counts HSH.out (nextV (zs2.map (·.seq)))
              have hnm : zs2.length = zn := by rw [HZN.out, HP.out.num, HF5.out.num]
              rw [hnm] at hct
              obtain ⟨g9, hg9⟩ : ∃ g, g = loadG (zs2.map (·.seg)) D.s.1.toNat (nextV (zs2.map (·.seq))) := ⟨_, rfl⟩
              rw [← hg9] at hct
              have hl9 := HL5.out
              rw [← hg9] at hl9
              have hcn := fun (X : World) (hX : Below w5.heap.size w5 X) (a v : Int) (hv : (cnt a (g9.st.take D.s.1.toNat) : Int) = v) => (show Calls Try.prog 31 #[.pointer (some ⟨q, 0, none⟩), .int .i64 a] X fun e w' => e = .returned (.int .i64 v) ∧ Below X.heap.size X w' from by
                obtain ⟨ok, hD⟩ := (solo_frame _ _).dev HS5.out
                have := LCount_any (hl9.below hX) (hD.below hX) a
                rw [recD_s, hv] at this
                exact this)
              have hc2 := fun (X : World) (hX : Below w5.heap.size w5 X) => hcn X hX 2 (zn : Int) (by rw [hct.1])
              have hc0 := fun (X : World) (hX : Below w5.heap.size w5 X) => hcn X hX 0 (D.s.1 - (zn : Int)) hct.2.1
              have hc1 := fun (X : World) (hX : Below w5.heap.size w5 X) => hcn X hX 1 0 (by rw [hct.2.2]; rfl)
              have HC2 := Lib.hid hc2
              have HC0 := Lib.hid hc0
              have HC1 := Lib.hid hc1
              have hzz : zn ≤ 16 := by rw [HZN.out]; exact HP.out.len HSH.out
              have ew : IntKind.i64.wrap (D.s.1 - (zn : Int)) = D.s.1 - (zn : Int) := IntWalk.i64_in _ (by have := HSH.out.a0; have := HSH.out.a1; omega)
              have eA : (D.s.1 - (zn : Int) == D.s.1 - (zn : Int)) = true := by simp
              have eB : ((zn : Int) == (zn : Int)) = true := by simp
              have HD5 := Aside0.mk ((Below.refl w5.heap.size w5).drew)
              clear hct hnm hl9 hcn hc2 hc0 hc1 hg9 hzz
              go_region_held3 (fun w' => w'.cell? ⟨w.heap.size, 0, none⟩ = some (.int .i64 D.s.1)) (first | go_keep | exact a1)
                (first
                  | (go_at_call 31; (with_reducible refine (HC2.out _ HD5.out).mono ?_); rintro e w6 ⟨rfl, hb⟩; have HB6 := Aside0.mk (HD5.out.trans (hb.mono HD5.out.size)); have HBW6 := Aside0.mk (HB5.out.trans (HB6.out.mono HB5.out.size)); obtain ⟨a1, -, -⟩ := HBOX.out _ HBW6.out; clear hb)
                  | (go_at_call 31; (with_reducible refine (HC0.out _ HB6.out).mono ?_); clear a1; rintro e w7 ⟨rfl, hb⟩; have HB7 := Aside0.mk (HB6.out.trans (hb.mono HB6.out.size)); have HBW7 := Aside0.mk (HB5.out.trans (HB7.out.mono HB5.out.size)); obtain ⟨a1, -, -⟩ := HBOX.out _ HBW7.out; clear hb)
                  | (go_at_call 31; (with_reducible refine (HC1.out _ HB7.out).mono ?_); clear a1; rintro e w8 ⟨rfl, hb⟩; have HB8 := Aside0.mk (HB7.out.trans (hb.mono HB7.out.size)); have HBW8 := Aside0.mk (HB5.out.trans (HB8.out.mono HB5.out.size)); obtain ⟨a1, -, -⟩ := HBOX.out _ HBW8.out; clear hb)
                  | fail)
              go_wp2
              go_ret
              exact ⟨rfl, QB.out.trans (HBW8.out.mono QB.out.size)⟩
end Go.Proofs.Ytmbiebdcnadhkaa.Fl

/- How a slice of addresses, and one of bytes, is opened; ScanAny, in the form of its row. -/
namespace Go.Proofs.Ytmbiebdcnadhkaa.Fl
open Go.ChangeShapes Go.WideShapes Go.ChangeAt Go.RowKit Go.Joins Go.Deep Go.Proofs.YtmbiebdcnadhkaaW.PrintWords Go.Proofs.Ytmbiebdcnadhkaa.Opens
section
variable {H : Type} {enc : TypeId × Value → H} {P : Program} {w : World} {base : Nat} {spare : Nat → Bool} {held : Bool}
theorem addr_cells {e : TypeId} {f0 f1 : Field} {n : Nat} {cs : List Value} {y : DataW H × List MemPlace} (he : P.underlying e = some (.struct #[f0, f1])) (o0 : f0.offset = 0) (o1 : f1.offset = 1) (k0 : P.cellsOf f0.type = 1) (k1 : P.cellsOf f1.type = 1)
    (u0 : P.underlying f0.type = some (.int .i64)) (u1 : P.underlying f1.type = some (.int .i64)) (hl : cs.length = 2) (h : DataW.trod enc P w base spare held n e cs = some y) : ∃ d : Int × Int, cs = [.int .i64 d.1, .int .i64 d.2] := by
  obtain ⟨xs, m, _, _, _, hlen, hg⟩ := DataW.trod_struct he h
  match cs, hl, xs, hlen with
  | [c0, c1], _, [y0, y1], _ =>
    have s0 : DataW.trod enc P w base spare held m f0.type [c0] = some y0 := by simpa [o0, k0] using hg 0 f0 rfl
    have s1 : DataW.trod enc P w base spare held m f1.type [c1] = some y1 := by simpa [o1, k1] using hg 1 f1 rfl
    obtain ⟨a0, z0, _, _⟩ := DataW.trod_int u0 s0
    obtain ⟨a1, z1, _, _⟩ := DataW.trod_int u1 s1
    refine ⟨(a0, a1), ?_⟩
    rw [List.head_eq_of_cons_eq z0, List.head_eq_of_cons_eq z1]
theorem row_addrs {t e : TypeId} {f0 f1 : Field} {A : Option Addr} {len c : Nat} {d : DataW H} {p : List MemPlace} (ht : P.underlying t = some (.slice e)) (he : P.underlying e = some (.struct #[f0, f1])) (hC : P.cellsOf e = 2) (o0 : f0.offset = 0) (o1 : f1.offset = 1) (k0 : P.cellsOf f0.type = 1) (k1 : P.cellsOf f1.type = 1)
    (u0 : P.underlying f0.type = some (.int .i64)) (u1 : P.underlying f1.type = some (.int .i64))
    (h : DataW.Trod enc P w base spare held t (.slice A len c) d p) : ∃ ds : List (Int × Int), len = ds.length ∧ AdRow w A ds ∧ ds.length ≤ 9223372036854775807 := by
  obtain ⟨fuel, hf⟩ := h
  rcases open_slice ht hf with ⟨hcs, _⟩ | ⟨a, len', cap, m, n, D, Pl, hcs, hb, hl, hm, hmm, _, hel⟩
  · simp [Value.cells] at hcs
    obtain ⟨rfl, rfl, rfl⟩ := hcs
    exact ⟨[], rfl, fun i d hi => by simp at hi, by simp⟩
  · simp [Value.cells] at hcs
    obtain ⟨rfl, rfl, rfl⟩ := hcs
    have hlm : len ≤ m := by rw [hmm]; split <;> omega
    have each : ∀ i, ∃ x : Int × Int, i < len → w.cells? base (a.add (i * 2)) 2 = some [.int .i64 x.1, .int .i64 x.2] := by
      intro i
      by_cases hi : i < len
      · obtain ⟨cs', h1, h2⟩ := hel i (by omega)
        rw [hC] at h1
        obtain ⟨x, rfl⟩ := addr_cells he o0 o1 k0 k1 u0 u1 (World.cells?_some h1).2.1 h2
        exact ⟨x, fun _ => h1⟩
      · exact ⟨(0, 0), fun h => absurd h hi⟩
    refine ⟨(List.range len).map (fun i => Classical.choose (each i)), by simp, fun i d hi => ?_, by simp; unfold maxLen at hm; omega⟩
    have hil : i < len := by
      have := (List.getElem?_eq_some_iff.1 hi).1
      simpa using this
    have hx : d = Classical.choose (each i) := by simpa [hil] using hi.symm
    have h2 := Classical.choose_spec (each i) hil
    rw [← hx] at h2
    have h3 := (World.cells?_some h2).2.2
    have g0 := h3 0 (by omega)
    refine ⟨a, rfl, ?_, h3 1 (by omega)⟩
    simpa [Addr.add] using g0
theorem row_byts {t e : TypeId} {A : Option Addr} {len c : Nat} {d : DataW H} {p : List MemPlace} (ht : P.underlying t = some (.slice e)) (he : P.underlying e = some (.int .u8)) (hC : P.cellsOf e = 1)
    (h : DataW.Trod enc P w base spare held t (.slice A len c) d p) : ∃ l : List Int, len = l.length ∧ kB.C w A l.length l ∧ l.length ≤ c ∧ l.length ≤ 9223372036854775807 ∧ Byt l := by
  obtain ⟨l, h1, h2, h3, h4, h5⟩ := row_ints ht he hC h
  exact ⟨l, h1, h2, h3, by unfold maxLen at h4; omega, byt_of h5⟩
end
theorem scan_any_walk (a b c : Int) (A : Option Addr) (d : Nat) (ads : List Adr) (B : Option Addr) (e : Nat) (bs : List Int) (W : World) (_ : (Lit.int .i64 a).wf = true) (_ : (Lit.int .i64 b).wf = true) (_ : (Lit.int .i64 c).wf = true) (hr : AdRow W A ads) (h0 : ads.length ≤ 9223372036854775807) (hC : kB.C W B bs.length bs) (_ : bs.length ≤ e) (h1 : bs.length ≤ 9223372036854775807) (hb : Byt bs) :
    Calls Try.prog 7 #[.agg #[.int .i64 a, .int .i64 b, .int .i64 c], .slice A ads.length d, .slice B bs.length e] W fun e w' => e = .returned (.bool true) ∧ Below W.heap.size W w' := ScanAny_any (a, b, c) hr h0 hC hb h1
end Go.Proofs.Ytmbiebdcnadhkaa.Fl

