/- The parts of this proof, one after the other (wip/tools/packfl.py). -/
import Derived.Test.YtmbiebdcnadhkaaPkScanAnyC
import Derived.IntWalk
import Derived.Test.YtmbiebdcnadhkaaPkScanAnyA
import Derived.Lib.MinMax
/- segment.Raw over any device: walked. -/
namespace Go.Proofs.Ytmbiebdcnadhkaa.Fl
open Go.RowKit Go.Proofs.YtmbiebdcnadhkaaW.PrintWords Go.Proofs.YtmbiebdcnadhkaaW.PrintMore Go.Maps
set_option linter.unusedSimpArgs false
set_option linter.unusedVariables false
/-- How many pages Raw reads. -/
def nRaw (s : Int × Int × Int) (a b : Int) : Nat := if 0 ≤ a ∧ a < s.1 ∧ 0 ≤ b ∧ b < s.2.1 then (s.2.1 - b).toNat else 0
def rawK (D : PD) (a b : Int) (k : Nat) : List Int := (List.range k).flatMap fun (i : Nat) => gotD D a (b + (i : Int))
def rawD (D : PD) (a b : Int) : List Int := rawK D a b (nRaw D.s a b)
theorem rawK_succ (D : PD) (a b : Int) (k : Nat) : rawK D a b (k + 1) = rawK D a b k ++ gotD D a (b + (k : Int)) := by
  simp [rawK, List.range_succ]
theorem nRaw_le {s : Int × Int × Int} (hs : ShapeOk s) (a b : Int) : nRaw s a b ≤ 64 := by
  have := hs.b1
  unfold nRaw
  split <;> omega
theorem nRaw_lt {s : Int × Int × Int} {a b : Int} {i : Nat} (h : i < nRaw s a b) : hasB s a (b + (i : Int)) = true ∧ 0 ≤ b ∧ b + (i : Int) < 64 + s.2.1 := by
  unfold nRaw at h
  split at h
  · simp [hasB, fitsB]
    omega
  · omega
theorem nRaw_eq {s : Int × Int × Int} {a b : Int} (hb : 0 ≤ b) : hasB s a (b + (nRaw s a b : Int)) = false := by
  have h : ¬ (0 ≤ a ∧ a ≤ s.1 - 1 ∧ 0 ≤ b + (nRaw s a b : Int) ∧ b + (nRaw s a b : Int) ≤ s.2.1 - 1) := by
    unfold nRaw
    split <;> omega
  simp only [hasB, fitsB]
  rw [Bool.and_eq_false_iff]
  by_cases h1 : 0 ≤ a ∧ a ≤ s.1 - 1
  · exact .inr (decide_eq_false (by omega))
  · exact .inl (decide_eq_false h1)
theorem gotD_len {N0 p : Nat} {D : PD} {ok : Nat → Prop} {w : World} (hD : DevIs N0 p D ok w) (a b : Int) : (gotD D a b).length ≤ 256 := by
  obtain ⟨m, v, es, ck, hD⟩ := hD
  unfold gotD readD numB
  split
  · rw [full_length (look_len hD.lens _)]
    have := hD.shape.c1
    omega
  · simp
section
variable {N0 p : Nat} {D : PD} {w : World} {ok : Nat → Prop}
theorem rawK_len {a b : Int} (hl : ∀ x, (gotD D a x).length ≤ 256) : ∀ k, (rawK D a b k).length ≤ 256 * k
  | 0 => by simp [rawK]
  | k + 1 => by
    rw [rawK_succ, List.length_append]
    have := rawK_len (b := b) hl k
    have := hl (b + (k : Int))
    omega
set_option maxHeartbeats 2000000 in
set_option maxRecDepth 100000 in
theorem Raw_any (hD : DevIs N0 p D ok w) (a b : Int) : Calls Try.prog 43 #[.pointer (some ⟨p, 0, none⟩), .int .i64 a, .int .i64 b] w fun e w' => ∃ A c, e = .returned (.slice A (rawD D a b).length c) ∧ (rawD D a b).length ≤ c ∧ kB.C w' A (rawD D a b).length (rawD D a b) ∧ Below w.heap.size w w' := by
  have hs : ShapeOk D.s := by
    obtain ⟨m, v, es, ck, hD⟩ := hD
    exact hD.shape
  have hlen : ∀ k, (rawK D a b k).length ≤ 256 * k := rawK_len (gotD_len hD a)
  have hglen := gotD_len hD a
  have hrd := fun (V : World) (hV : Below w.heap.size w V) (x : Int) => Read_any (hD.below hV) a x
  have hn := nRaw_le hs a b
  have hnl := fun i => @nRaw_lt D.s a b i
  have hne := @nRaw_eq D.s a b
  unfold rawD
  obtain ⟨n, hnn⟩ : ∃ n, n = nRaw D.s a b := ⟨_, rfl⟩
  rw [← hnn] at hn hne hnl ⊢
  have hb1 := hs.b1
  have HLEN := Lib.hid hlen
  have HGL := Lib.hid hglen
  have HRD := Lib.hid hrd
  have HNL := Lib.hid hnl
  have HNE := Lib.hid hne
  clear hlen hglen hrd hnl hne hnn hs hD
  go_enter Try.func43, Try.ntmps43
  go_wp2
  go_loopw [2, 7] (fun v2 v7 wr => ∃ i : Nat, i ≤ n ∧ v2 = .int .i64 (b + (i : Int)) ∧ kB.R TB wr w.heap.size (fun k => w.heap.size ≤ k) v7 (rawK D a b i) ∧ Below w.heap.size w wr) (fun v2 _ _ => n - (intOf v2 - b).toNat)
  case atStart => exact ⟨0, Nat.zero_le _, by simp, Kd.R_nil _ _ _ _ _, Below.refl _ _⟩
  case round =>
    obtain ⟨i, hi, rfl, hR, hb⟩ := hrel
    obtain ⟨A7, c7, rfl⟩ := Kd.R_slice hR
    have HR := Aside0.mk hR
    have HB := Aside0.mk hb
    clear hR hb
    have hLn := HLEN.out i
    have HLN := Lib.hid hLn
    clear hLn
    by_cases hb0 : 0 ≤ b
    · have g0 : (0 : Int) ≤ b + (i : Int) := by omega
      by_cases hin : i < n
      · obtain ⟨hh, -, hlt⟩ := HNL.out i hin
        have he : hasE D.s a (b + (i : Int)) = 0 := by unfold hasE; rw [if_pos hh]
        have HG := Lib.hid (HGL.out (b + (i : Int)))
        clear hh
        go_wp2_with (first
          | (at_builtin; refine Kd.R_append_row (Value.int .u8) (0 : Int) (w0 := w) w.heap.size rfl (.tmp 21) (.tmp 22) 36 TB (.int .u8 0) 1 rfl Try.underlying36 info_u8 rfl (by decide) (.slice A7 (rawK D a b i).length c7) (rawK D a b i) (gotD D a (b + (i : Int))) _ _ _ (fun k => w.heap.size ≤ k) rfl rfl (fun k hk => Nat.le_trans HB2.out.size hk) HR2.out HC2.out HB2.out HB2.out.size (by have := HG.out; have := HLN.out; omega) ?_; intro v3 w3 ho3 hb3 hg3 hat3; clear hg3 hat3; have HO3 := Aside0.mk ho3; have HB3 := Aside0.mk hb3; clear ho3 hb3)
          | (go_at_call 60; (with_reducible refine (HRD.out _ HB.out _).mono ?_); rintro e w2 ⟨v, rfl, hrow, hb2⟩; obtain ⟨A8, c8, rfl, _, hC2⟩ := hrow.reads; have HR2 := Aside0.mk (Kd.R_below HR.out hb2); have HC2 := Aside0.mk hC2; have HB2 := Aside0.mk (HB.out.trans (hb2.mono HB.out.size)); clear hrow hb2 hC2; rw [he]))
        refine ⟨⟨i + 1, hin, by congr 1; push_cast; omega, by rw [rawK_succ]; exact HO3.out, HB3.out⟩, ?_⟩
        simp only [intOf]
        omega
      · have hii : i = n := by omega
        subst hii
        have he : hasE D.s a (b + (i : Int)) = 6 := by unfold hasE; rw [HNE.out hb0]; rfl
        have HG := Lib.hid (HGL.out (b + (i : Int)))
        go_wp2_with (go_at_call 60; (with_reducible refine (HRD.out _ HB.out _).mono ?_); rintro e w2 ⟨v, rfl, hrow, hb2⟩; obtain ⟨A8, c8, rfl, _, hC2⟩ := hrow.reads; have HR2 := Aside0.mk (Kd.R_below HR.out hb2); have HB2 := Aside0.mk (HB.out.trans (hb2.mono HB.out.size)); clear hrow hb2 hC2; rw [he])
        obtain ⟨A9, c9, e9, hc9, hC9⟩ := (Row.ofR HR2.out).reads
        cases e9
        have HC9 := Aside0.mk hC9
        have HCC := Lib.hid hc9
        clear hC9 hc9
        go_ret
        first | exact ⟨_, _, rfl, HCC.out, HC9.out, HB2.out⟩ | exact ⟨_, HCC.out, HC9.out, HB2.out⟩ | exact ⟨HCC.out, HC9.out, HB2.out⟩ | exact ⟨A7, ⟨c7, rfl⟩, HCC.out, HC9.out, HB2.out⟩ | exact ⟨_, _, ⟨rfl, rfl⟩, HCC.out, HC9.out, HB2.out⟩
    · have hn0 : n = 0 := by
        by_cases hn0 : 0 < n
        · exact absurd (HNL.out 0 hn0).2.1 hb0
        · omega
      have hii : i = n := by omega
      subst hii
      have g0 : ¬ (0 : Int) ≤ b + (i : Int) := by omega
      have g1 : decide ((0 : Int) ≤ b + (i : Int)) = false := decide_eq_false g0
      clear hn0
      obtain ⟨A9, c9, e9, hc9, hC9⟩ := (Row.ofR HR.out).reads
      cases e9
      have HC9 := Aside0.mk hC9
      have HCC := Lib.hid hc9
      clear hC9 hc9
      go_wp2
      go_ret
      first | exact ⟨_, _, rfl, HCC.out, HC9.out, HB.out⟩ | exact ⟨_, HCC.out, HC9.out, HB.out⟩ | exact ⟨A7, c7, rfl, HCC.out, HC9.out, HB.out⟩ | exact ⟨A7, ⟨c7, rfl⟩, HCC.out, HC9.out, HB.out⟩
end
end Go.Proofs.Ytmbiebdcnadhkaa.Fl

/- Entries: what is read out of a segment's bytes, and how it lies in cells. No condition. -/
namespace Go.Proofs.Ytmbiebdcnadhkaa.Fl
open Go.RowKit Go.Proofs.YtmbiebdcnadhkaaW.PrintWords Go.Proofs.YtmbiebdcnadhkaaW.PrintMore Go.Maps
set_option linter.unusedSimpArgs false
set_option linter.unusedVariables false
/-- Bytes in a block of bytes, read only; where there are none, nothing is known of the address. -/
def Dat (w : World) (base : Nat) (ok : Nat → Prop) (v : Value) (l : List Int) : Prop :=
  ∃ A c, v = .slice A l.length c ∧ l.length ≤ c ∧ l.length ≤ 9223372036854775807 ∧ (l = [] ∨ ∃ g off cs, A = some ⟨g, off, none⟩ ∧ base ≤ g ∧ ok g ∧ w.heap[g]? = some (.cells cs TB (0, 0)) ∧ ∀ j x, l[j]? = some x → cs[off + j]? = some (.int .u8 x))
section
variable {w w' : World} {base base' : Nat} {ok ok' : Nat → Prop} {v : Value} {l : List Int}
theorem Dat.nil (w : World) (base : Nat) (ok : Nat → Prop) : Dat w base ok (.slice none 0 0) [] := ⟨none, 0, rfl, Nat.le_refl _, by simp, .inl rfl⟩
theorem Dat.move (h : Dat w base ok v l) (hm : ∀ k, ok k → w'.heap[k]? = w.heap[k]?) : Dat w' base ok v l := by
  obtain ⟨A, c, h1, h2, h3, h4⟩ := h
  refine ⟨A, c, h1, h2, h3, h4.imp id ?_⟩
  rintro ⟨g, off, cs, e, hb, ho, hh, hc⟩
  exact ⟨g, off, cs, e, hb, ho, (hm g ho).trans hh, hc⟩
theorem Dat.mono (h : Dat w base ok v l) (hk : ∀ k, ok k → ok' k) : Dat w base ok' v l := by
  obtain ⟨A, c, h1, h2, h3, h4⟩ := h
  refine ⟨A, c, h1, h2, h3, h4.imp id ?_⟩
  rintro ⟨g, off, cs, e, hb, ho, hh, hc⟩
  exact ⟨g, off, cs, e, hb, hk g ho, hh, hc⟩
theorem Dat.lower (h : Dat w base ok v l) (hb : base' ≤ base) : Dat w base' ok v l := by
  obtain ⟨A, c, h1, h2, h3, h4⟩ := h
  refine ⟨A, c, h1, h2, h3, h4.imp id ?_⟩
  rintro ⟨g, off, cs, e, hg, ho, hh, hc⟩
  exact ⟨g, off, cs, e, by omega, ho, hh, hc⟩
theorem Dat.bound (h : Dat w base ok v l) : Dat w base (fun k => ok k ∧ base ≤ k ∧ k < w.heap.size ∧ ∃ q, q ∈ [TB] ∧ ∃ cells, w.heap[k]? = some (.cells cells q (0, 0))) v l := by
  obtain ⟨A, c, h1, h2, h3, h4⟩ := h
  refine ⟨A, c, h1, h2, h3, h4.imp id ?_⟩
  rintro ⟨g, off, cs, e, hg, ho, hh, hc⟩
  exact ⟨g, off, cs, e, hg, ⟨ho, hg, blt hh, TB, by simp, cs, hh⟩, hh, hc⟩
theorem Dat.step (h : Dat w base ok v l) (hm : ∀ k, ok k → k < w.heap.size → w'.heap[k]? = w.heap[k]?) : Dat w' base ok v l :=
  Dat.mono (Dat.move (Dat.bound h) (fun k hk => hm k hk.1 hk.2.2.1)) (fun _ hk => hk.1)
theorem Dat.below (h : Dat w base ok v l) (hb : Below w.heap.size w w') : Dat w' base ok v l := h.step (fun k _ hlt => hb.block k hlt)
theorem Dat.typed (h : Dat w base ok v l) (hm : ∀ k cs, w.heap[k]? = some (.cells cs TB (0, 0)) → ok k → w'.heap[k]? = w.heap[k]?) : Dat w' base ok v l :=
  Dat.mono (Dat.move (Dat.bound h) (fun k hk => by
    obtain ⟨h1, _, _, q, hq, cs, hc⟩ := hk
    obtain rfl : q = TB := by simpa using hq
    exact hm k cs hc h1)) (fun _ hk => hk.1)
theorem Dat.reads (h : Dat w base ok v l) : ∃ A c, v = .slice A l.length c ∧ l.length ≤ c ∧ kB.C w A l.length l := by
  obtain ⟨A, c, h1, h2, h3, h4⟩ := h
  refine ⟨A, c, h1, h2, Kd.C_of_reads (d := 0) ⟨rfl, h3, fun hn => ?_⟩⟩
  rcases h4 with rfl | ⟨g, off, cs, e, hg, ho, hh, hc⟩
  · simp at hn
  · refine ⟨_, e, fun j hj => ?_⟩
    have ha : (⟨g, off, none⟩ : Addr).add j = ⟨g, off + j, none⟩ := Addr.add_lit _ _ _
    rw [ha]
    have := hc j _ (List.getElem?_eq_getElem hj)
    simp [World.cell?, hh, this, List.getD_eq_getElem?_getD, hj]
theorem Dat.ofQ (h : kB.Q TB w base ok v l) : Dat w base ok v l := by
  obtain ⟨A, c, rfl, hlc, hC⟩ := Kd.Q_reads h
  obtain ⟨h0, inner, hq, hr⟩ := h
  have hm : l.length ≤ 9223372036854775807 := hC.2.1
  refine ⟨A, c, rfl, hlc, hm, ?_⟩
  rcases hq.2 with ⟨hn, _⟩ | ⟨g, off, cap, cur, e, hg, hh, hle, hmx, hs, ht⟩
  · exact .inl (List.eq_nil_of_length_eq_zero hn)
  · injection e with e1 e2 e3
    subst e1
    refine .inr ⟨g, off * 1, cur, rfl, hg, h0 g (by simp [Value.ownBlock]), hh, fun j x hj => ?_⟩
    have h3 := hr.2 j x hj
    have h4 : (inner.drop (j * 1)).take 1 = [.int .u8 x] := h3
    have h5 : inner[j]? = some (.int .u8 x) := by
      have := congrArg (fun l => l[0]?) h4
      simpa using this
    rw [← ht, List.getElem?_take] at h5
    split at h5
    · rw [List.getElem?_drop] at h5
      have h6 : cur.toList[off * 1 + j]? = some (Value.int .u8 x) := h5
      simpa using h6
    · cases h5
end
/-- An entry: its place, number, pages, kind and data. -/
structure En where
  a : Int
  b : Int
  seq : Int
  pages : Int
  kind : Int
  data : List Int
def zEn : En := ⟨0, 0, 0, 0, 0, []⟩
abbrev TE : TypeId := 47
/-- An entry's six cells. -/
def enC (e : En) (v : Value) : List Value := [.int .i64 e.a, .int .i64 e.b, .int .u64 e.seq, .int .i64 e.pages, .int .u8 e.kind, v]
def kEnt : Kd En where
  sz := 6
  E := [TB]
  K := fun w e cs => ∃ A c, cs = enC e (.slice A e.data.length c) ∧ e.data.length ≤ c ∧ kB.C w A e.data.length e.data
  M := fun w base ok e cs => ∃ v, cs = enC e v ∧ Dat w base ok v e.data
  K_len := by
    rintro w x cs ⟨A, c, rfl, _⟩
    rfl
  K_one := by
    rintro w x cs ⟨A, c, rfl, _⟩ u hu
    simp only [enC, List.mem_cons, List.not_mem_nil, or_false] at hu
    rcases hu with rfl | rfl | rfl | rfl | rfl | rfl <;> rfl
  K_below := by
    rintro w w1 x cs hb ⟨A, c, rfl, hl, hr⟩
    exact ⟨A, c, rfl, hl, Kd.C_below hr hb⟩
  K_of_M := by
    rintro w base ok x cs ⟨v, rfl, h⟩
    obtain ⟨A, c, rfl, hl, hr⟩ := h.reads
    exact ⟨A, c, rfl, hl, hr⟩
  M_mono := by
    rintro w base ok ok' x cs hok ⟨v, rfl, h⟩
    exact ⟨v, rfl, h.mono hok⟩
  M_bound := by
    rintro w base ok x cs ⟨v, rfl, h⟩
    exact ⟨v, rfl, h.bound⟩
  M_move := by
    rintro w w1 base ok x cs hm ⟨v, rfl, h⟩
    exact ⟨v, rfl, h.move hm⟩
  M_lower := by
    rintro w base base' ok x cs hb ⟨v, rfl, h⟩
    exact ⟨v, rfl, h.lower hb⟩
theorem info_ent : (Try.prog.info? TE).map (fun i => (i.zero, i.size, i.bytes)) = some (some (.agg #[.int .i64 0, .int .i64 0, .int .u64 0, .int .i64 0, .int .u8 0, .slice none 0 0]), 6, 64) := by kernel_rfl
/-! ### What a segment's bytes say -/
def parsed (l : List Int) : Int × Int × List Int × Int × Int := Go.Proofs.Ytmbiebdcnadhkaa.FrameFacts.parsed l
/-- The record at a place whose bytes, from there on, are raw; the error's number. -/
def entL (s : Int × Int × Int) (a b : Int) (raw : List Int) : En × Int :=
  if hasB s a b = false then (zEn, 6) else if (parsed raw).2.2.2.2 = 0 then (⟨a, b, (parsed raw).2.1, (kpg s ((parsed raw).2.2.2.1 - 16).toNat : Int), (parsed raw).1, (parsed raw).2.2.1⟩, 0) else (zEn, (parsed raw).2.2.2.2)
structure ParsedOk (raw : List Int) : Prop where
  n : ∃ m : Nat, (parsed raw).2.2.2.1 = (m : Int) + 16 ∧ m ≤ 4096 ∧ m + 16 ≤ raw.length ∧ (parsed raw).2.2.1.length = m
theorem parsed_ok {raw : List Int} (h : (parsed raw).2.2.2.2 = 0) : ParsedOk raw := by
  unfold parsed Go.Proofs.Ytmbiebdcnadhkaa.FrameFacts.parsed at h
  by_cases hh : Go.Proofs.Ytmbiebdcnadhkaa.FrameFacts.head raw = 0
  · rw [if_pos hh] at h
    obtain ⟨_, h16, h4, h5⟩ := Go.Proofs.Ytmbiebdcnadhkaa.FrameFacts.head_zero hh
    split at h
    · rename_i hs
      refine ⟨Go.Proofs.Ytmbiebdcnadhkaa.FrameFacts.dl raw, ?_, h4, h5, ?_⟩
      · unfold parsed Go.Proofs.Ytmbiebdcnadhkaa.FrameFacts.parsed
        rw [if_pos hh, if_pos hs]
        simp
      · unfold parsed Go.Proofs.Ytmbiebdcnadhkaa.FrameFacts.parsed
        rw [if_pos hh, if_pos hs]
        simp only [List.length_drop, List.length_take]
        omega
    · simp at h
  · rw [if_neg hh] at h
    exact absurd h hh
def ParsedN (raw : List Int) (n : Int) (d : List Int) : Prop := ∃ m : Nat, n = (m : Int) + 16 ∧ m ≤ 4096 ∧ m + 16 ≤ raw.length ∧ d.length = m
theorem parsed_n {raw : List Int} (h : (parsed raw).2.2.2.2 = 0) : ParsedN raw (parsed raw).2.2.2.1 (parsed raw).2.2.1 := (parsed_ok h).n
/-- The records of a segment from a page on. -/
def scanF (E : Int → En × Int) (n sq : Int) : Nat → Int → List En
  | 0, _ => []
  | f + 1, page => if 0 ≤ page ∧ page < n then (if (E page).2 ≠ 0 ∨ (E page).1.kind = 1 ∨ (E page).1.seq ≠ sq then [] else (E page).1 :: scanF E n sq f (page + (E page).1.pages)) else []
/-- A segment's number, and its records; false: it has no head. -/
def scanL (E : Int → En × Int) (n : Int) : Int × List En × Bool :=
  if (E 0).2 ≠ 0 ∨ (E 0).1.kind ≠ 1 ∨ 0 < (E 0).1.data.length then (0, [], false) else ((E 0).1.seq, scanF E n (E 0).1.seq 64 (E 0).1.pages, true)
def entD (D : PD) (a b : Int) : En × Int := entL D.s a b (rawD D a b)
def scanD (D : PD) (a : Int) : Int × List En × Bool := scanL (entD D a) D.s.2.1
/-- All that a device holds are bytes. -/
def BytD (D : PD) : Prop := ∀ a b, Byt (gotD D a b)
theorem BytD.raw {D : PD} (h : BytD D) (a b : Int) : Byt (rawD D a b) := by
  intro x hx
  unfold rawD rawK at hx
  rw [List.mem_flatMap] at hx
  obtain ⟨i, _, hi⟩ := hx
  exact h _ _ x hi
/-! ### Get and Parse -/
section
variable {w : World} {A : Option Addr} {c : Nat} {l : List Int}
theorem Get_ok (hl : Byt l) (hm : l.length ≤ 800000) (h : kB.C w A l.length l) (hc : l.length ≤ c) :
    Calls Try.prog 83 #[.slice A l.length c] w fun e w' => ∃ v, e = .returned (.tuple #[.agg #[.int .u8 (parsed l).1, .int .u64 (parsed l).2.1, v], .int .i64 (parsed l).2.2.2.1, .int .i64 (parsed l).2.2.2.2]) ∧ Dat w' w.heap.size (fun k => w.heap.size ≤ k) v (parsed l).2.2.1 ∧ Below w.heap.size w w' := by
  refine (Go.Proofs.Ytmbiebdcnadhkaa.QFrame.frame_Get.calls (l.length + 40) A c l (parsed l).1 (parsed l).2.1 (parsed l).2.2.1 (parsed l).2.2.2.1 (parsed l).2.2.2.2 w h hc (Go.Proofs.Ytmbiebdcnadhkaa.FrameFacts.get_is _ l hl hm (Nat.le_refl _))).mono fun e w' ⟨v, e1, hq, hb⟩ => ⟨v, e1, ?_, hb⟩
  exact (Dat.ofQ (Kd.Q_mono (Kd.Q_bound hq) (ok' := fun k => w.heap.size ≤ k) (fun k hk => hk.2.1)))
end
end Go.Proofs.Ytmbiebdcnadhkaa.Fl

/- segment.Read over any device: walked. -/
namespace Go.Proofs.Ytmbiebdcnadhkaa.Fl
open Go.RowKit Go.Proofs.YtmbiebdcnadhkaaW.PrintWords Go.Proofs.YtmbiebdcnadhkaaW.PrintMore Go.Maps
set_option linter.unusedSimpArgs false
set_option linter.unusedVariables false
def EntPost (w : World) (r : En × Int) (e : Ending) (w' : World) : Prop :=
  ∃ v, e = .returned (.tuple #[.agg #[.int .i64 r.1.a, .int .i64 r.1.b, .int .u64 r.1.seq, .int .i64 r.1.pages, .int .u8 r.1.kind, v], .int .i64 r.2]) ∧ Dat w' w.heap.size (fun k => w.heap.size ≤ k) v r.1.data ∧ Below w.heap.size w w'
theorem ent_cells {X : World} {g : Nat} {T : TypeId} {c0 c1 c2 c3 c4 c5 : Value} (h : X.heap[g]? = some (.cells #[c0, c1, c2, c3, c4, c5] T (0, 0))) :
    X.cell? ⟨g, 0, none⟩ = some c0 ∧ X.cell? ⟨g, 1, none⟩ = some c1 ∧ X.cell? ⟨g, 2, none⟩ = some c2 ∧ X.cell? ⟨g, 3, none⟩ = some c3 ∧ X.cell? ⟨g, 4, none⟩ = some c4 ∧ X.cell? ⟨g, 5, none⟩ = some c5 ∧
    X.frozen? ⟨g, 0, none⟩ = false ∧ X.frozen? ⟨g, 1, none⟩ = false ∧ X.frozen? ⟨g, 2, none⟩ = false ∧ X.frozen? ⟨g, 3, none⟩ = false ∧ X.frozen? ⟨g, 4, none⟩ = false ∧ X.frozen? ⟨g, 5, none⟩ = false :=
  ⟨bcell h 0, bcell h 1, bcell h 2, bcell h 3, bcell h 4, bcell h 5, bfrozen h 0, bfrozen h 1, bfrozen h 2, bfrozen h 3, bfrozen h 4, bfrozen h 5⟩
theorem set6 {B : Nat} {w X : World} {g : Nat} (h : Below B w X) (hg : B ≤ g) (c0 c1 c2 c3 c4 c5 : Value) : Below B w ((((((X.setCell ⟨g, 0, none⟩ c0).setCell ⟨g, 1, none⟩ c1).setCell ⟨g, 2, none⟩ c2).setCell ⟨g, 3, none⟩ c3).setCell ⟨g, 4, none⟩ c4).setCell ⟨g, 5, none⟩ c5) :=
  (((((h.setCell hg c0).setCell hg c1).setCell hg c2).setCell hg c3).setCell hg c4).setCell hg c5
theorem set6_blk {X : World} {g : Nat} {T : TypeId} {o0 o1 o2 o3 o4 o5 : Value} (h : X.heap[g]? = some (.cells #[o0, o1, o2, o3, o4, o5] T (0, 0))) (c0 c1 c2 c3 c4 c5 : Value) :
    ((((((X.setCell ⟨g, 0, none⟩ c0).setCell ⟨g, 1, none⟩ c1).setCell ⟨g, 2, none⟩ c2).setCell ⟨g, 3, none⟩ c3).setCell ⟨g, 4, none⟩ c4).setCell ⟨g, 5, none⟩ c5).heap[g]? = some (.cells #[c0, c1, c2, c3, c4, c5] T (0, 0)) :=
  bset (bset (bset (bset (bset (bset h 0 c0) 1 c1) 2 c2) 3 c3) 4 c4) 5 c5
/-- At the end only this is kept of the world. -/
theorem post_world {P : Program} {f : Func} {Q : Ending → World → Prop} {ex : Exit} {a : Act} {W : World} (Pr : World → Prop) (h : Pr W) (k : ∀ Y, Pr Y → bodyPost P f Q ex a Y) : bodyPost P f Q ex a W := k W h
def EndE (w : World) (e : En) (v : Value) (Y : World) : Prop := Y.heap[w.heap.size + 1]? = some (.cells #[.int .i64 e.a, .int .i64 e.b, .int .u64 e.seq, .int .i64 e.pages, .int .u8 e.kind, v] TE (0, 0)) ∧ Dat Y w.heap.size (fun k => w.heap.size ≤ k) v e.data ∧ Below w.heap.size w Y
theorem EndE.zero {w X : World} {o0 o1 o2 o3 o4 o5 : Value} (h : X.heap[w.heap.size + 1]? = some (.cells #[o0, o1, o2, o3, o4, o5] TE (0, 0))) (hb : Below w.heap.size w X) :
    EndE w zEn (.slice none 0 0) ((((((X.setCell ⟨w.heap.size + 1, 0, none⟩ (.int .i64 0)).setCell ⟨w.heap.size + 1, 1, none⟩ (.int .i64 0)).setCell ⟨w.heap.size + 1, 2, none⟩ (.int .u64 0)).setCell ⟨w.heap.size + 1, 3, none⟩ (.int .i64 0)).setCell ⟨w.heap.size + 1, 4, none⟩ (.int .u8 0)).setCell ⟨w.heap.size + 1, 5, none⟩ (.slice none 0 0)) :=
  ⟨set6_blk h _ _ _ _ _ _, Dat.nil _ _ _, set6 hb (by omega) _ _ _ _ _ _⟩
theorem EndE.alloc {w X : World} {e : En} {v : Value} (h : EndE w e v X) (o : Obj) : EndE w e v (X.alloc o) :=
  ⟨(Below.heap_alloc _ _ _ (blt h.1)).trans h.1, h.2.1.below (below_alloc (Below.refl _ _) _), below_alloc h.2.2 _⟩
theorem EndE.drew {w X : World} {e : En} {v : Value} (h : EndE w e v X) : EndE w e v X.drew :=
  ⟨h.1, h.2.1.below ((Below.refl _ X).drew), h.2.2.drew⟩
theorem EndE.put {w X : World} {o0 o1 o2 o3 o4 o5 v : Value} (e : En) (h : X.heap[w.heap.size + 1]? = some (.cells #[o0, o1, o2, o3, o4, o5] TE (0, 0))) (hb : Below w.heap.size w X) (hd : Dat X w.heap.size (fun k => w.heap.size ≤ k) v e.data) :
    EndE w e v ((((((X.setCell ⟨w.heap.size + 1, 0, none⟩ (.int .i64 e.a)).setCell ⟨w.heap.size + 1, 1, none⟩ (.int .i64 e.b)).setCell ⟨w.heap.size + 1, 2, none⟩ (.int .u64 e.seq)).setCell ⟨w.heap.size + 1, 3, none⟩ (.int .i64 e.pages)).setCell ⟨w.heap.size + 1, 4, none⟩ (.int .u8 e.kind)).setCell ⟨w.heap.size + 1, 5, none⟩ v) := by
  refine ⟨set6_blk h _ _ _ _ _ _, hd.typed (fun k cs hk _ => ?_), set6 hb (by omega) _ _ _ _ _ _⟩
  have hne : k ≠ w.heap.size + 1 := not_typ h (by decide) hk
  rw [Below.heap_setCell _ _ _ _ hne, Below.heap_setCell _ _ _ _ hne, Below.heap_setCell _ _ _ _ hne, Below.heap_setCell _ _ _ _ hne, Below.heap_setCell _ _ _ _ hne, Below.heap_setCell _ _ _ _ hne]
section
variable {N0 p : Nat} {D : PD} {w : World} {ok : Nat → Prop}
set_option maxHeartbeats 2000000 in
set_option maxRecDepth 100000 in
theorem Read_ent (hD : DevIs N0 p D ok w) (hby : BytD D) (a b : Int) : Calls Try.prog 38 #[.pointer (some ⟨p, 0, none⟩), .agg #[.int .i64 a, .int .i64 b]] w (EntPost w (entD D a b)) := by
  have hs : ShapeOk D.s := by
    obtain ⟨m, v, es, ck, hD⟩ := hD
    exact hD.shape
  obtain ⟨W, hW⟩ : ∃ W, W = (w.alloc (.cells #[.int .i64 a, .int .i64 b] TA)).alloc (.cells #[.int .i64 0, .int .i64 0, .int .u64 0, .int .i64 0, .int .u8 0, .slice none 0 0] TE) := ⟨_, rfl⟩
  have q0 : W.heap[w.heap.size]? = some (.cells #[.int .i64 a, .int .i64 b] TA (0, 0)) := by
    rw [hW]; exact (Below.heap_alloc _ _ _ (by simp)).trans (blk_new w _)
  have q1 : W.heap[w.heap.size + 1]? = some (.cells #[.int .i64 0, .int .i64 0, .int .u64 0, .int .i64 0, .int .u8 0, .slice none 0 0] TE (0, 0)) := by
    rw [hW]; have := blk_new (w.alloc (.cells #[.int .i64 a, .int .i64 b] TA)) (.cells #[.int .i64 0, .int .i64 0, .int .u64 0, .int .i64 0, .int .u8 0, .slice none 0 0] TE); rwa [World.size_alloc] at this
  have qb : Below w.heap.size w W := by rw [hW]; exact below_alloc (below_alloc (Below.refl _ _) _) _
  have hbox : ∀ X : World, Below W.heap.size W X → X.heap[w.heap.size]? = some (.cells #[.int .i64 a, .int .i64 b] TA (0, 0)) ∧ X.heap[w.heap.size + 1]? = some (.cells #[.int .i64 0, .int .i64 0, .int .u64 0, .int .i64 0, .int .u8 0, .slice none 0 0] TE (0, 0)) := fun X hX =>
    ⟨(hX.block _ (blt q0)).trans q0, (hX.block _ (blt q1)).trans q1⟩
  have hth := there_any (hD.below qb) a b
  have hraw := fun (X : World) (hX : Below W.heap.size W X) => Raw_any ((hD.below qb).below hX) a b
  have hshape := fun (X : World) (hX : Below W.heap.size W X) => Shape_any ((hD.below qb).below hX)
  have k0 : W.cell? ⟨w.heap.size, 0, none⟩ = some (.int .i64 a) := bcell q0 0
  have k1 : W.cell? ⟨w.heap.size, 1, none⟩ = some (.int .i64 b) := bcell q0 1
  have hrl : (rawD D a b).length ≤ 16384 := by
    have h1 := rawK_len (b := b) (gotD_len hD a) (nRaw D.s a b)
    have h2 := nRaw_le hs a b
    unfold rawD
    omega
  have hrb := hby.raw a b
  have HBOX := Lib.hid hbox
  have HTH := Lib.hid hth
  have HRAW := Lib.hid hraw
  have HSHP := Lib.hid hshape
  have HS := Lib.hid hs
  have HRL := Lib.hid hrl
  have HRB := Lib.hid hrb
  have HW := Lib.hid hW
  have QB := Aside0.mk qb
  have QS := Lib.hid (show w.heap.size + 1 < W.heap.size from blt q1)
  clear hbox hth hraw hshape hs hrl hrb hW qb q0 q1 hD hby
  cases hb : hasB D.s a b with
  | false =>
    have hE : entD D a b = (zEn, 6) := by unfold entD entL; rw [if_pos hb]
    have hTE : hasE D.s a b = 6 := by unfold hasE; rw [hb]; rfl
    have HTE := Lib.hid hTE
    rw [hE]
    clear hE hTE hb
    go_enter Try.func38, Try.ntmps38
    go_wp2_with fail
    rw [← HW.out]
    go_wp2_with (go_at_call 54; (with_reducible refine HTH.out.mono ?_); rw [HTE.out]; rintro e w1 ⟨rfl, hb⟩; obtain ⟨z0, z1⟩ := HBOX.out _ hb; obtain ⟨t0, t1, t2, t3, t4, t5, f0, f1, f2, f3, f4, f5⟩ := ent_cells z1; have HB1 := Aside0.mk hb; have Z1 := Lib.hid z1; clear hb z0 z1)
    refine post_world (EndE w zEn (.slice none 0 0)) (EndE.zero Z1.out (QB.out.trans (HB1.out.mono QB.out.size))) ?_
    rintro Y ⟨y, hd, hb⟩
    obtain ⟨t0, t1, t2, t3, t4, t5, -⟩ := ent_cells y
    exact bodyPost_ret (v := .tuple #[.agg #[.int .i64 0, .int .i64 0, .int .u64 0, .int .i64 0, .int .u8 0, .slice none 0 0], .int .i64 6]) (by simp [results, Try.results38, go_sem, t0, t1, t2, t3, t4, t5, zEn]) rfl ⟨_, rfl, hd, hb⟩
  | true =>
    have hTE : hasE D.s a b = 0 := by unfold hasE; rw [hb]; rfl
    have HTE := Lib.hid hTE
    obtain ⟨n, hn⟩ : ∃ n, n = (rawD D a b).length := ⟨_, rfl⟩
    have hget := fun (X : World) (A : Option Addr) (c : Nat) (hC : kB.C X A n (rawD D a b)) (hc : n ≤ c) => Get_ok (w := X) (A := A) (c := c) HRB.out (by have := HRL.out; omega) (by rw [← hn]; exact hC) (by rw [← hn]; exact hc)
    rw [← hn] at hget
    have hraw := HRAW.out
    rw [← hn] at hraw
    have HRW := Lib.hid hraw
    have hnl : n ≤ 16384 := by have := HRL.out; omega
    have hP : entD D a b = if (parsed (rawD D a b)).2.2.2.2 = 0 then (⟨a, b, (parsed (rawD D a b)).2.1, (kpg D.s ((parsed (rawD D a b)).2.2.2.1 - 16).toNat : Int), (parsed (rawD D a b)).1, (parsed (rawD D a b)).2.2.1⟩, 0) else (zEn, (parsed (rawD D a b)).2.2.2.2) := by unfold entD entL; rw [if_neg (by rw [hb]; decide)]
    have hok : (parsed (rawD D a b)).2.2.2.2 = 0 → ParsedN (rawD D a b) (parsed (rawD D a b)).2.2.2.1 (parsed (rawD D a b)).2.2.1 := fun h => parsed_n h
    clear hTE hn hraw hb HRAW
    rw [hP]
    clear hP
    generalize hPE : parsed (rawD D a b) = P at hget hok ⊢
    obtain ⟨kd, sq, d, pn, er⟩ := P
    simp only at hget hok ⊢
    have HGET := Lib.hid hget
    clear hget
    by_cases he : er = 0
    · subst he
      obtain ⟨m, hm1, hm2, hm3, hm4⟩ := hok rfl
      obtain ⟨nb, hnb⟩ := Int.eq_ofNat_of_zero_le (show 0 ≤ D.s.2.2 by have := HS.out.c0; omega)
      have hnb0 : 16 ≤ nb := by have := HS.out.c0; omega
      have hnb1 : nb ≤ 256 := by have := HS.out.c1; omega
      have hkp : (((m : Int) + 16 + (nb : Int) - 1) / (nb : Int)) = (kpg D.s (pn - 16).toNat : Int) := by
        unfold kpg
        rw [hnb, hm1]
        simp only [Int.toNat_natCast, Int.add_sub_cancel]
        rw [Int.natCast_ediv]
        congr 1
        omega
      have hshp := HSHP.out
      rw [hnb] at hshp
      rw [if_pos rfl]
      subst hm1
      have HKP := Lib.hid hkp
      have HSH := Lib.hid hshp
      have HM3 := Lib.hid hm3
      have HM4 := Lib.hid hm4
      have hw1 : IntKind.i64.wrap ((m : Int) + 16 + (nb : Int)) = (m : Int) + 16 + (nb : Int) := IntWalk.i64_in _ (by omega)
      have hw2 : IntKind.i64.wrap ((m : Int) + 16 + (nb : Int) - 1) = (m : Int) + 16 + (nb : Int) - 1 := IntWalk.i64_in _ (by omega)
      have HW1 := Lib.hid hw1
      have HW2 := Lib.hid hw2
      have rs := fun (X : World) => run_shape3 X D.s.1 D.s.2.1 (nb : Int)
      clear hPE hok hshp hkp hnb HSHP hm3 hm4 hw1 hw2
      go_enter Try.func38, Try.ntmps38
      go_wp2_with fail
      rw [← HW.out]
      go_wp2_with (first
        | (go_at_call 54; (with_reducible refine HTH.out.mono ?_); rw [HTE.out]; rintro e w1 ⟨rfl, hb⟩; obtain ⟨z0, z1⟩ := HBOX.out _ hb; have k0 : w1.cell? ⟨w.heap.size, 0, none⟩ = some (.int .i64 a) := bcell z0 0; have k1 : w1.cell? ⟨w.heap.size, 1, none⟩ = some (.int .i64 b) := bcell z0 1; have HB1 := Aside0.mk hb; clear hb z0 z1)
        | (go_at_call 43; (with_reducible refine (HRW.out _ HB1.out).mono ?_); rintro e w2 ⟨A2, c2, rfl, hc2, hC2, hb⟩; have HB2 := Aside0.mk (HB1.out.trans (hb.mono HB1.out.size)); have HC2 := Aside0.mk hC2; have HCC := Lib.hid hc2; clear hb hC2 hc2)
        | (go_at_call 83; (with_reducible refine (HGET.out _ _ _ HC2.out HCC.out).mono ?_); rintro e w3 ⟨v3, rfl, hd3, hb⟩; obtain ⟨A3, c3, rfl, -, -⟩ := hd3.reads; have HB3 := Aside0.mk (HB2.out.trans (hb.mono HB2.out.size)); have HD3 := Aside0.mk (Dat.mono (Dat.lower hd3 (Nat.le_trans QB.out.size HB2.out.size)) (fun k hk => Nat.le_trans (Nat.le_trans QB.out.size HB2.out.size) hk)); clear hb hd3)
        | (go_at_call 56; (with_reducible refine (HSH.out _ (below_alloc HB3.out _)).mono ?_); rintro e w4 ⟨rfl, hb⟩; have z2 := (hb.block _ (blt (blk_new _ _))).trans (blk_new _ _); have HB4 := Aside0.mk ((below_alloc HB3.out _).trans (hb.mono (below_alloc HB3.out _).size)); have hz3 : w.heap.size + 1 < w3.heap.size := Nat.lt_of_lt_of_le QS.out HB3.out.size; have HD4 := Aside0.mk (HD3.out.below ((below_alloc (Below.refl _ _) _).trans (hb.mono (by simp)))); obtain ⟨z0, z1⟩ := HBOX.out _ HB4.out; have k0 : w4.cell? ⟨w.heap.size, 0, none⟩ = some (.int .i64 a) := bcell z0 0; have k1 : w4.cell? ⟨w.heap.size, 1, none⟩ = some (.int .i64 b) := bcell z0 1; have g0 : w4.cell? ⟨w3.heap.size, 0, none⟩ = some (.int .u8 kd) := bcell z2 0; have g1 : w4.cell? ⟨w3.heap.size, 1, none⟩ = some (.int .u64 sq) := bcell z2 1; have g2 : w4.cell? ⟨w3.heap.size, 2, none⟩ = some (.slice A3 d.length c3) := bcell z2 2; obtain ⟨t0, t1, t2, t3, t4, t5, f0, f1, f2, f3, f4, f5⟩ := ent_cells z1; have Z1 := Lib.hid z1; clear hb z0 z1 z2))
      clear rs
      have hw1 := HW1.out
      have hw2 := HW2.out
      have hne1 : ¬ w3.heap.size = w.heap.size + 1 := by omega
      have hne2 : ¬ w.heap.size + 1 = w3.heap.size := by omega
      have hi0 : (0 : Int) < (nb : Int) := by omega
      have hi1 : (16 : Int) ≤ (nb : Int) := by omega
      have hi2 : (0 : Int) ≤ (m : Int) + 16 + (nb : Int) - 1 := by omega
      have hi3 : ¬ (nb : Int) = 0 := by omega
      have hi4 : ((nb : Int) == 0) = false := by simp; omega
      have hi5 : ¬ nb = 0 := by omega
      have hq : ((m : Int) + 16 + (nb : Int) - 1).tdiv (nb : Int) = ((m : Int) + 16 + (nb : Int) - 1) / (nb : Int) := Int.tdiv_eq_ediv_of_nonneg hi2
      have hq2 : ((m : Int) + 16 + (nb : Int) - 1) / (nb : Int) ≤ (m : Int) + 16 + (nb : Int) - 1 := Int.ediv_le_self _ hi2
      have hq3 : 0 ≤ ((m : Int) + 16 + (nb : Int) - 1) / (nb : Int) := Int.ediv_nonneg hi2 (by omega)
      have hw5 : IntKind.i64.wrap (((m : Int) + 16 + (nb : Int) - 1) / (nb : Int)) = ((m : Int) + 16 + (nb : Int) - 1) / (nb : Int) := IntWalk.i64_in _ (by omega)
      go_region_held3 (fun w' => w'.cell? ⟨w.heap.size, 0, none⟩ = some (.int .i64 a) ∧ w'.cell? ⟨w.heap.size, 1, none⟩ = some (.int .i64 b) ∧ w'.cell? ⟨w3.heap.size, 0, none⟩ = some (.int .u8 kd) ∧ w'.cell? ⟨w3.heap.size, 1, none⟩ = some (.int .u64 sq) ∧ w'.cell? ⟨w3.heap.size, 2, none⟩ = some (.slice A3 d.length c3)) (go_keep) (fail)
      clear hw1 hw2 hq hq2 hq3 hw5
      go_wp2
      refine post_world (EndE w ⟨a, b, sq, (m + 16 + nb - 1) / nb, kd, d⟩ (.slice A3 d.length c3)) (EndE.drew (EndE.put ⟨a, b, sq, (m + 16 + nb - 1) / nb, kd, d⟩ Z1.out (QB.out.trans (HB4.out.mono QB.out.size)) HD4.out)) ?_
      rintro Y ⟨y, hd, hb⟩
      simp only at y hd
      rw [HKP.out] at y
      obtain ⟨t0, t1, t2, t3, t4, t5, -⟩ := ent_cells y
      exact bodyPost_ret (v := .tuple #[.agg #[.int .i64 a, .int .i64 b, .int .u64 sq, .int .i64 (kpg D.s ((m : Int) + 16 - 16).toNat : Int), .int .u8 kd, .slice A3 d.length c3], .int .i64 0]) (by simp [results, Try.results38, go_sem, t0, t1, t2, t3, t4, t5]) rfl ⟨_, rfl, hd, hb⟩
    · have e1 : (er != 0) = true := bne_iff_ne.2 he
      have HE := Lib.hid he
      rw [if_neg he]
      clear hPE hok he
      go_enter Try.func38, Try.ntmps38
      go_wp2_with fail
      rw [← HW.out]
      go_wp2_with (first
        | (go_at_call 54; (with_reducible refine HTH.out.mono ?_); rw [HTE.out]; rintro e w1 ⟨rfl, hb⟩; obtain ⟨z0, z1⟩ := HBOX.out _ hb; have k0 : w1.cell? ⟨w.heap.size, 0, none⟩ = some (.int .i64 a) := bcell z0 0; have k1 : w1.cell? ⟨w.heap.size, 1, none⟩ = some (.int .i64 b) := bcell z0 1; have HB1 := Aside0.mk hb; clear hb z0 z1)
        | (go_at_call 43; (with_reducible refine (HRW.out _ HB1.out).mono ?_); rintro e w2 ⟨A2, c2, rfl, hc2, hC2, hb⟩; have HB2 := Aside0.mk (HB1.out.trans (hb.mono HB1.out.size)); have HC2 := Aside0.mk hC2; have HCC := Lib.hid hc2; clear hb hC2 hc2)
        | (go_at_call 83; (with_reducible refine (HGET.out _ _ _ HC2.out HCC.out).mono ?_); rintro e w3 ⟨v3, rfl, hd3, hb⟩; obtain ⟨A3, c3, rfl, -, -⟩ := hd3.reads; have HB3 := Aside0.mk (HB2.out.trans (hb.mono HB2.out.size)); have HD3 := Aside0.mk hd3; obtain ⟨z0, z1⟩ := HBOX.out _ HB3.out; obtain ⟨t0, t1, t2, t3, t4, t5, f0, f1, f2, f3, f4, f5⟩ := ent_cells z1; have hz3 : w.heap.size + 1 < w3.heap.size := blt z1; have Z1 := Lib.hid z1; clear hb hd3 z0 z1))
      refine post_world (EndE w zEn (.slice none 0 0)) ((EndE.zero Z1.out (QB.out.trans (HB3.out.mono QB.out.size))).alloc _) ?_
      rintro Y ⟨y, hd, hb⟩
      obtain ⟨t0, t1, t2, t3, t4, t5, -⟩ := ent_cells y
      exact bodyPost_ret (v := .tuple #[.agg #[.int .i64 0, .int .i64 0, .int .u64 0, .int .i64 0, .int .u8 0, .slice none 0 0], .int .i64 er]) (by simp [results, Try.results38, go_sem, t0, t1, t2, t3, t4, t5, zEn]) rfl ⟨_, rfl, hd, hb⟩
end
end Go.Proofs.Ytmbiebdcnadhkaa.Fl

/- segment.Scan over any device: walked. -/
namespace Go.Proofs.Ytmbiebdcnadhkaa.Fl
open Go.RowKit Go.Proofs.YtmbiebdcnadhkaaW.PrintWords Go.Proofs.YtmbiebdcnadhkaaW.PrintMore Go.Maps
set_option linter.unusedSimpArgs false
set_option linter.unusedVariables false
def ScanPost (w : World) (r : Int × List En × Bool) (e : Ending) (w' : World) : Prop :=
  ∃ v, e = .returned (.tuple #[.int .u64 r.1, v, .bool r.2.2]) ∧ kEnt.R TE w' w.heap.size (fun k => w.heap.size ≤ k) v r.2.1 ∧ Below w.heap.size w w'
theorem ent_pages {s : Int × Int × Int} (hs : ShapeOk s) {a b : Int} {raw : List Int} (h : (entL s a b raw).2 = 0) : 1 ≤ (entL s a b raw).1.pages ∧ (entL s a b raw).1.pages ≤ 257 := by
  unfold entL at h ⊢
  by_cases hb : hasB s a b = false
  · rw [if_pos hb] at h; cases h
  · rw [if_neg hb] at h ⊢
    by_cases hp : (parsed raw).2.2.2.2 = 0
    · rw [if_pos hp] at h ⊢
      obtain ⟨m, h1, h2, _, _⟩ := parsed_n hp
      have := kpg_bd hs (n := m) h2
      simp only [h1, show ((m : Int) + 16 - 16).toNat = m by omega]
      omega
    · rw [if_neg hp] at h
      exact absurd h hp
theorem scanF_end {E : Int → En × Int} {n sq : Int} {f : Nat} {page : Int} (h : ¬ (0 ≤ page ∧ page < n)) : scanF E n sq f page = [] := by
  cases f with
  | zero => rfl
  | succ f => rw [scanF, if_neg h]
theorem scanF_bad {E : Int → En × Int} {n sq : Int} {f : Nat} {page : Int} (h : (E page).2 ≠ 0 ∨ (E page).1.kind = 1 ∨ (E page).1.seq ≠ sq) : scanF E n sq f page = [] := by
  cases f with
  | zero => rfl
  | succ f =>
    rw [scanF]
    by_cases h0 : 0 ≤ page ∧ page < n
    · rw [if_pos h0, if_pos h]
    · rw [if_neg h0]
theorem scanF_good {E : Int → En × Int} {n sq : Int} {f : Nat} {page : Int} (h0 : 0 ≤ page ∧ page < n) (h1 : (E page).2 = 0) (h2 : (E page).1.kind ≠ 1) (h3 : (E page).1.seq = sq) : scanF E n sq (f + 1) page = (E page).1 :: scanF E n sq f (page + (E page).1.pages) := by
  rw [scanF, if_pos h0, if_neg]
  rintro (h | h | h)
  · exact h h1
  · exact h2 h
  · exact h h3
/-- An entry put behind a row of entries. -/
theorem ent_app {W : World} {N0 : Nat} {ok : Nat → Prop} {v : Value} {L : List En} (hR : kEnt.R TE W N0 ok v L) {u : Value} {e : En} (hrow : Dat W N0 ok u e.data) :
    ∃ okp : Nat → Prop, kEnt.M W N0 okp e (enC e u) ∧ ∀ k, okp k → ok k ∧ some k ≠ v.ownBlock := by
  refine ⟨_, ⟨u, rfl, hrow.bound⟩, fun k hk => ⟨hk.1, fun e => ?_⟩⟩
  obtain ⟨_, _, _, q, hq, cs, hc⟩ := hk
  obtain rfl : q = TB := by simpa using hq
  obtain ⟨cs', hc'⟩ := own_typed (Kd.R_own hR).choose_spec k e.symm
  exact typ_ne hc hc' (by decide) rfl
theorem scan_app {w4 : World} {B g1 : Nat} {v u : Value} {l : List En} {cs1 : Array Value} (e : En) (hH : w4.heap[g1]? = some (.cells cs1 TE (0, 0))) (hR : kEnt.R TE w4 B (fun k => B ≤ k ∧ k ≠ g1) v l) (hD : Dat w4 B (fun k => B ≤ k) u e.data) (o : Obj) :
    kEnt.R TE (w4.alloc o) B (fun k => (B ≤ k ∧ k ≠ g1) ∧ k ≠ w4.heap.size) v l ∧ ∃ okp : Nat → Prop, kEnt.M (w4.alloc o) B okp e (enC e u) ∧ ∀ k, okp k → ((B ≤ k ∧ k ≠ g1) ∧ k ≠ w4.heap.size) ∧ some k ≠ v.ownBlock := by
  have h1 : kEnt.R TE (w4.alloc o) B (fun k => (B ≤ k ∧ k ≠ g1) ∧ k ≠ w4.heap.size) v l := Kd.R_below (Kd.R_mono (Kd.R_bound hR) (fun k hk => ⟨hk.1, by have := hk.2.2.1; omega⟩)) (below_alloc (Below.refl _ _) _)
  refine ⟨h1, ent_app h1 ((hD.bound.mono (fun k hk => ?_)).below (below_alloc (Below.refl _ _) _))⟩
  obtain ⟨a1, _, a3, q, hq, cs, hc⟩ := hk
  obtain rfl : q = TB := by simpa using hq
  exact ⟨⟨a1, not_typ hH (by decide) hc⟩, by omega⟩
theorem own_ne {w : World} {B : Nat} {ok : Nat → Prop} {v : Value} {l : List En} (h : kEnt.R TE w B ok v l) {k : Nat} (hk : ¬ ok k) : some k ≠ v.ownBlock := fun e => hk (h.1 k e.symm)
section
variable {N0 p : Nat} {D : PD} {w : World} {ok : Nat → Prop}
set_option maxHeartbeats 4000000 in
set_option maxRecDepth 100000 in
theorem Scan_ent (hD : DevIs N0 p D ok w) (hby : BytD D) (a : Int) : Calls Try.prog 15 #[.pointer (some ⟨p, 0, none⟩), .int .i64 a] w (ScanPost w (scanD D a)) := by
  have hs : ShapeOk D.s := by
    obtain ⟨m, v, es, ck, hD⟩ := hD
    exact hD.shape
  have hpg : ∀ x, (entD D a x).2 = 0 → 1 ≤ (entD D a x).1.pages ∧ (entD D a x).1.pages ≤ 257 := fun x h => ent_pages hs h
  have hrd := fun (X : World) (hX : Below w.heap.size w X) (x : Int) => Read_ent (hD.below hX) hby a x
  have hshape := fun (X : World) (hX : Below w.heap.size w X) => Shape_any (hD.below hX)
  unfold scanD
  obtain ⟨E, hE⟩ : ∃ E, E = entD D a := ⟨_, rfl⟩
  rw [← hE] at hpg ⊢
  have hrd : ∀ (X : World), Below w.heap.size w X → ∀ x : Int, Calls Try.prog 38 #[.pointer (some ⟨p, 0, none⟩), .agg #[.int .i64 a, .int .i64 x]] X (EntPost X (E x)) := by rw [hE]; exact hrd
  obtain ⟨n, hn⟩ := Int.eq_ofNat_of_zero_le (show 0 ≤ D.s.2.1 by have := hs.b0; omega)
  have hn0 : 1 ≤ n := by have := hs.b0; omega
  have hn1 : n ≤ 64 := by have := hs.b1; omega
  rw [hn] at hshape ⊢
  have HRD := Lib.hid hrd
  have HSHP := Lib.hid hshape
  have HPG := Lib.hid hpg
  clear hpg hrd hshape hs hD hby hE hn
  unfold scanL
  rcases hh : E 0 with ⟨⟨ha, hb, hsq, hpgs, hkd, hdt⟩, her⟩
  have hr0 := HRD.out w (Below.refl _ _) 0
  have hp0 := HPG.out 0
  rw [hh] at hr0 hp0
  simp only at hp0 ⊢
  have HR0 := Lib.hid hr0
  have HP0 := Lib.hid hp0
  clear hr0 hp0 hh
  by_cases c1 : her = 0
  · subst c1
    by_cases c2 : hkd = 1
    · subst c2
      by_cases c3 : 0 < hdt.length
      · rw [if_pos (.inr (.inr c3))]
        have e3 : decide ((0 : Int) < (hdt.length : Int)) = true := by simp; omega
        have C3 := Lib.hid c3
        clear c3 HP0
        go_enter Try.func15, Try.ntmps15
        go_wp2_with fail
        go_step3
        go_wp2_with (go_at_call 38; (with_reducible refine HR0.out.mono ?_); rintro e w1 ⟨v1, rfl, hd1, hb1⟩; obtain ⟨A1, c1, rfl, -, -⟩ := hd1.reads; have HB1 := Aside0.mk hb1; clear hb1 hd1)
        try rw [Exit.noGoto_ret]
        go_ret3
        exact ⟨_, rfl, Kd.R_nil _ _ _ _ _, below_alloc HB1.out _⟩
      · obtain ⟨hp1, hp2⟩ := HP0.out rfl
        have hdt0 : hdt = [] := List.eq_nil_of_length_eq_zero (by omega)
        subst hdt0
        rw [if_neg (by simp)]
        obtain ⟨L, hL⟩ : ∃ L, L = scanF E (n : Int) hsq 64 hpgs := ⟨_, rfl⟩
        rw [← hL]
        have HL := Lib.hid hL
        clear hL c3 HP0
        go_enter Try.func15, Try.ntmps15
        go_wp2_with fail
        go_step3
        go_wp2_with (go_at_call 38; (with_reducible refine HR0.out.mono ?_); rintro e w1 ⟨v1, rfl, hd1, hb1⟩; obtain ⟨A1, c1, rfl, -, -⟩ := hd1.reads; have HB1 := Aside0.mk hb1; clear hb1 hd1)
        go_step3
        go_wp2_with fail
        go_loopw [9, 10] (fun v9 v10 wr => ∃ (f : Nat) (page : Int) (l : List En), v10 = .int .i64 page ∧ 1 ≤ page ∧ page ≤ 321 ∧ kEnt.R TE wr w.heap.size (fun k => w.heap.size ≤ k ∧ k ≠ w1.heap.size) v9 l ∧ L = l ++ scanF E (n : Int) hsq f page ∧ (n : Int) - page ≤ f ∧ (l.length : Int) ≤ page ∧ Below w.heap.size w wr ∧ wr.heap[w1.heap.size]? = some (.cells #[.int .i64 ha, .int .i64 hb, .int .u64 hsq, .int .i64 hpgs, .int .u8 1, .slice A1 0 c1] TE (0, 0))) (fun _ v10 _ => ((n : Int) - intOf v10).toNat)
        case atStart => exact ⟨64, hpgs, [], rfl, hp1, by omega, Kd.R_nil _ _ _ _ _, by rw [HL.out]; rfl, by omega, by simp; omega, below_alloc HB1.out _, blk_new _ _⟩
        case round =>
          have rs := fun (X : World) => run_shape2 X D.s.1 (n : Int) D.s.2.2
          obtain ⟨f, page, l, rfl, hpa, hpb, hR, hLL, hf, hll, hb, hH⟩ := hrel
          obtain ⟨A9, c9, rfl⟩ := Kd.R_slice hR
          have HR := Aside0.mk hR
          have HLL := Lib.hid hLL
          have HB := Aside0.mk hb
          have HH := Lib.hid hH
          have HLT := Lib.hid hll
          obtain ⟨y0, y1, y2, y3, y4, y5, -⟩ := ent_cells hH
          clear hR hLL hb hH hll
          by_cases hlt : page < (n : Int)
          · have hfit : fitsB page 0 ((n : Int) - 1) = true := by unfold fitsB; rw [decide_eq_true_iff]; omega
            have HFIT := Lib.hid hfit
            clear hfit y0 y1 y2 y3 y4 y5
            rcases hx : E page with ⟨⟨xa, xb, xsq, xpg, xkd, xdt⟩, xer⟩
            have hrx := fun (X : World) (hX : Below w.heap.size w X) => HRD.out X hX page
            rw [hx] at hrx
            have HRX := Lib.hid hrx
            have HX := Lib.hid hx
            clear hrx hx
            by_cases x1 : xer = 0
            · subst x1
              by_cases x2 : xkd = 1
              · subst x2
                have HBAD := Lib.hid (show (E page).2 ≠ 0 ∨ (E page).1.kind = 1 ∨ (E page).1.seq ≠ hsq from .inr (.inl (by rw [HX.out])))
                go_wp2_with (first
                  | (go_at_call 56; (with_reducible refine (HSHP.out _ HB.out).mono ?_); rintro e w2 ⟨rfl, hb2⟩; have HB2 := Aside0.mk (HB.out.trans (hb2.mono HB.out.size)); have HR2 := Aside0.mk (Kd.R_below HR.out hb2); have HH2 := Lib.hid ((hb2.block _ (blt HH.out)).trans HH.out); clear hb2)
                  | (go_at_call 59; (with_reducible refine (Fits_any _ _ _ _).mono ?_); rw [HFIT.out]; rintro e w3 ⟨rfl, rfl⟩)
                  | (go_at_call 38; (with_reducible refine (HRX.out _ HB2.out).mono ?_); rintro e w4 ⟨v4, rfl, hd4, hb4⟩; obtain ⟨A4, c4, rfl, -, -⟩ := hd4.reads; have HB4 := Aside0.mk (HB2.out.trans (hb4.mono HB2.out.size)); have HR4 := Aside0.mk (Kd.R_below HR2.out hb4); have h4 := (hb4.block _ (blt HH2.out)).trans HH2.out; obtain ⟨y0, y1, y2, y3, y4, y5, -⟩ := ent_cells h4; have HH4 := Lib.hid h4; have HD4 := Aside0.mk (Dat.mono (Dat.lower hd4 HB2.out.size) (fun k hk => Nat.le_trans HB2.out.size hk)); have hz4 : w1.heap.size < w4.heap.size := blt h4; clear hb4 hd4 h4))
                try rw [Exit.noGoto_ret]
                go_ret3
                rw [HLL.out, scanF_bad HBAD.out, List.append_nil]
                exact ⟨_, rfl, Kd.R_below (Kd.R_mono HR4.out (fun k hk => hk.1)) (below_alloc (Below.refl _ _) _), below_alloc HB4.out _⟩
              · have e2 : (xkd == 1) = false := by simpa using x2
                by_cases x3 : xsq = hsq
                · subst x3
                  have hpx := HPG.out page
                  rw [HX.out] at hpx
                  obtain ⟨hq1, hq2⟩ := hpx rfl
                  simp only at hq1 hq2
                  obtain ⟨f, rfl⟩ : ∃ f', f = f' + 1 := ⟨f - 1, by omega⟩
                  have hgood := scanF_good (E := E) (n := (n : Int)) (sq := xsq) (f := f) (page := page) ⟨by omega, hlt⟩ (by rw [HX.out]) (by rw [HX.out]; exact x2) (by rw [HX.out])
                  rw [HX.out] at hgood
                  simp only at hgood
                  have HGOOD := Lib.hid hgood
                  clear hgood hpx x2
                  go_wp2_with (first
                    | (go_at_call 56; (with_reducible refine (HSHP.out _ HB.out).mono ?_); rintro e w2 ⟨rfl, hb2⟩; have HB2 := Aside0.mk (HB.out.trans (hb2.mono HB.out.size)); have HR2 := Aside0.mk (Kd.R_below HR.out hb2); have HH2 := Lib.hid ((hb2.block _ (blt HH.out)).trans HH.out); clear hb2)
                    | (go_at_call 59; (with_reducible refine (Fits_any _ _ _ _).mono ?_); rw [HFIT.out]; rintro e w3 ⟨rfl, rfl⟩)
                    | (go_at_call 38; (with_reducible refine (HRX.out _ HB2.out).mono ?_); rintro e w4 ⟨v4, rfl, hd4, hb4⟩; obtain ⟨A4, c4, rfl, -, -⟩ := hd4.reads; have HB4 := Aside0.mk (HB2.out.trans (hb4.mono HB2.out.size)); have hr4 := Kd.R_below HR2.out hb4; have h4 := (hb4.block _ (blt HH2.out)).trans HH2.out; obtain ⟨y0, y1, y2, y3, y4, y5, -⟩ := ent_cells h4; have hz4 : w1.heap.size < w4.heap.size := blt h4; obtain ⟨hr5, okp, hm5, hok5⟩ := scan_app ⟨xa, xb, xsq, xpg, xkd, xdt⟩ h4 hr4 (Dat.mono (Dat.lower hd4 HB2.out.size) (fun k hk => Nat.le_trans HB2.out.size hk)) (.cells #[.int .i64 xa, .int .i64 xb, .int .u64 xsq, .int .i64 xpg, .int .u8 xkd, .slice A4 xdt.length c4] TE); have HR5 := Aside0.mk hr5; have HM5 := Aside0.mk hm5; have HOK5 := Lib.hid hok5; have HB5 := Aside0.mk (below_alloc HB4.out (.cells #[.int .i64 xa, .int .i64 xb, .int .u64 xsq, .int .i64 xpg, .int .u8 xkd, .slice A4 xdt.length c4] TE)); have HZ4 := Lib.hid h4; clear hb4 hd4 h4 hr4 hr5 hm5 hok5)
                    | (at_builtin; refine Kd.R_append kEnt (w0 := w) w.heap.size rfl (.tmp 63) (.tmp 65) 41 TE (.agg #[.int .i64 0, .int .i64 0, .int .u64 0, .int .i64 0, .int .u8 0, .slice none 0 0]) 64 rfl Try.underlying41 info_ent rfl (by decide) (by decide) (.slice A9 l.length c9) l ⟨xa, xb, xsq, xpg, xkd, xdt⟩ (enC ⟨xa, xb, xsq, xpg, xkd, xdt⟩ (.slice A4 xdt.length c4)) (fun k => (w.heap.size ≤ k ∧ k ≠ w1.heap.size) ∧ k ≠ w4.heap.size) okp rfl (by simp [Act.eval]) HM5.out HOK5.out (fun k hk => by have := HB4.out.size; have := blt HZ4.out; simp at hk; omega) HR5.out HB5.out HB5.out.size (by have := HLT.out; omega) ?_; intro v6 w6 hr6 hb6 hg6 hat6; have hbx := (hg6.block w4.heap.size (by simp) (own_ne HR5.out (by simp))).trans (blk_new w4 _); have hb1 := (hg6.block w1.heap.size (by simp; omega) (own_ne HR5.out (by simp))).trans ((Below.heap_alloc _ _ _ (blt HZ4.out)).trans HZ4.out); have HX6 := Lib.hid hbx; have HH6 := Lib.hid hb1; obtain ⟨z0, z1, z2, z3, z4, z5, -⟩ := ent_cells hbx; have HR6 := Aside0.mk hr6; have HB6 := Aside0.mk hb6; clear hr6 hb6 hg6 hat6 hbx hb1 y0 y1 y2 y3 y4 y5))
                  refine ⟨⟨f, page + xpg, l ++ [⟨xa, xb, xsq, xpg, xkd, xdt⟩], by go_num, by omega, by omega, Kd.R_mono HR6.out (fun k hk => hk.1), by rw [HLL.out, HGOOD.out]; simp, by omega, by have := HLT.out; simp; omega, HB6.out, HH6.out⟩, by simp [intOf]; omega⟩
                · have e3 : (xsq != hsq) = true := bne_iff_ne.2 x3
                  have HBAD := Lib.hid (show (E page).2 ≠ 0 ∨ (E page).1.kind = 1 ∨ (E page).1.seq ≠ hsq from .inr (.inr (by rw [HX.out]; exact x3)))
                  clear x2 x3
                  go_wp2_with (first
                    | (go_at_call 56; (with_reducible refine (HSHP.out _ HB.out).mono ?_); rintro e w2 ⟨rfl, hb2⟩; have HB2 := Aside0.mk (HB.out.trans (hb2.mono HB.out.size)); have HR2 := Aside0.mk (Kd.R_below HR.out hb2); have HH2 := Lib.hid ((hb2.block _ (blt HH.out)).trans HH.out); clear hb2)
                    | (go_at_call 59; (with_reducible refine (Fits_any _ _ _ _).mono ?_); rw [HFIT.out]; rintro e w3 ⟨rfl, rfl⟩)
                    | (go_at_call 38; (with_reducible refine (HRX.out _ HB2.out).mono ?_); rintro e w4 ⟨v4, rfl, hd4, hb4⟩; obtain ⟨A4, c4, rfl, -, -⟩ := hd4.reads; have HB4 := Aside0.mk (HB2.out.trans (hb4.mono HB2.out.size)); have HR4 := Aside0.mk (Kd.R_below HR2.out hb4); have h4 := (hb4.block _ (blt HH2.out)).trans HH2.out; obtain ⟨y0, y1, y2, y3, y4, y5, -⟩ := ent_cells h4; have HH4 := Lib.hid h4; have HD4 := Aside0.mk (Dat.mono (Dat.lower hd4 HB2.out.size) (fun k hk => Nat.le_trans HB2.out.size hk)); have hz4 : w1.heap.size < w4.heap.size := blt h4; clear hb4 hd4 h4))
                  try rw [Exit.noGoto_ret]
                  go_ret3
                  rw [HLL.out, scanF_bad HBAD.out, List.append_nil]
                  exact ⟨_, rfl, Kd.R_below (Kd.R_mono HR4.out (fun k hk => hk.1)) (below_alloc (Below.refl _ _) _), below_alloc HB4.out _⟩
            · have e1 : (xer != 0) = true := bne_iff_ne.2 x1
              have HBAD := Lib.hid (show (E page).2 ≠ 0 ∨ (E page).1.kind = 1 ∨ (E page).1.seq ≠ hsq from .inl (by rw [HX.out]; exact x1))
              clear x1
              go_wp2_with (first
                | (go_at_call 56; (with_reducible refine (HSHP.out _ HB.out).mono ?_); rintro e w2 ⟨rfl, hb2⟩; have HB2 := Aside0.mk (HB.out.trans (hb2.mono HB.out.size)); have HR2 := Aside0.mk (Kd.R_below HR.out hb2); have HH2 := Lib.hid ((hb2.block _ (blt HH.out)).trans HH.out); clear hb2)
                | (go_at_call 59; (with_reducible refine (Fits_any _ _ _ _).mono ?_); rw [HFIT.out]; rintro e w3 ⟨rfl, rfl⟩)
                | (go_at_call 38; (with_reducible refine (HRX.out _ HB2.out).mono ?_); rintro e w4 ⟨v4, rfl, hd4, hb4⟩; obtain ⟨A4, c4, rfl, -, -⟩ := hd4.reads; have HB4 := Aside0.mk (HB2.out.trans (hb4.mono HB2.out.size)); have HR4 := Aside0.mk (Kd.R_below HR2.out hb4); have h4 := (hb4.block _ (blt HH2.out)).trans HH2.out; obtain ⟨y0, y1, y2, y3, y4, y5, -⟩ := ent_cells h4; have HH4 := Lib.hid h4; have HD4 := Aside0.mk (Dat.mono (Dat.lower hd4 HB2.out.size) (fun k hk => Nat.le_trans HB2.out.size hk)); have hz4 : w1.heap.size < w4.heap.size := blt h4; clear hb4 hd4 h4))
              try rw [Exit.noGoto_ret]
              go_ret3
              rw [HLL.out, scanF_bad HBAD.out, List.append_nil]
              exact ⟨_, rfl, Kd.R_below (Kd.R_mono HR4.out (fun k hk => hk.1)) (below_alloc (Below.refl _ _) _), below_alloc HB4.out _⟩
          · have hfit : fitsB page 0 ((n : Int) - 1) = false := by unfold fitsB; rw [decide_eq_false_iff_not]; omega
            have HFIT := Lib.hid hfit
            have HEND := Lib.hid (show ¬ (0 ≤ page ∧ page < (n : Int)) from fun h => hlt h.2)
            clear hfit y0 y1 y2 y3 y4 y5
            go_wp2_with (first
              | (go_at_call 56; (with_reducible refine (HSHP.out _ HB.out).mono ?_); rintro e w2 ⟨rfl, hb2⟩; have HB2 := Aside0.mk (HB.out.trans (hb2.mono HB.out.size)); have HR2 := Aside0.mk (Kd.R_below HR.out hb2); have h2 := (hb2.block _ (blt HH.out)).trans HH.out; obtain ⟨y0, y1, y2, y3, y4, y5, -⟩ := ent_cells h2; clear hb2 h2)
              | (go_at_call 59; (with_reducible refine (Fits_any _ _ _ _).mono ?_); rw [HFIT.out]; rintro e w3 ⟨rfl, rfl⟩))
            try rw [Exit.noGoto_ret]
            go_ret3
            rw [HLL.out, scanF_end HEND.out, List.append_nil]
            exact ⟨_, rfl, Kd.R_mono HR2.out (fun k hk => hk.1), HB2.out⟩
    · rw [if_pos (.inr (.inl c2))]
      have e2 : (hkd != 1) = true := bne_iff_ne.2 c2
      clear c2 HP0
      go_enter Try.func15, Try.ntmps15
      go_wp2_with fail
      go_step3
      go_wp2_with (go_at_call 38; (with_reducible refine HR0.out.mono ?_); rintro e w1 ⟨v1, rfl, hd1, hb1⟩; obtain ⟨A1, c1, rfl, -, -⟩ := hd1.reads; have HB1 := Aside0.mk hb1; clear hb1 hd1)
      try rw [Exit.noGoto_ret]
      go_ret3
      exact ⟨_, rfl, Kd.R_nil _ _ _ _ _, below_alloc HB1.out _⟩
  · rw [if_pos (.inl c1)]
    have e1 : (her != 0) = true := bne_iff_ne.2 c1
    clear c1 HP0
    go_enter Try.func15, Try.ntmps15
    go_wp2_with fail
    go_step3
    go_wp2_with (go_at_call 38; (with_reducible refine HR0.out.mono ?_); rintro e w1 ⟨v1, rfl, hd1, hb1⟩; obtain ⟨A1, c1, rfl, -, -⟩ := hd1.reads; have HB1 := Aside0.mk hb1; clear hb1 hd1)
    try rw [Exit.noGoto_ret]
    go_ret3
    exact ⟨_, rfl, Kd.R_nil _ _ _ _ _, below_alloc HB1.out _⟩
end
end Go.Proofs.Ytmbiebdcnadhkaa.Fl

/- slices.SortFunc over found segments: off the shelf. No condition. -/
namespace Go.Proofs.Ytmbiebdcnadhkaa.Fl
open Go.RowKit Go.Proofs.YtmbiebdcnadhkaaW.PrintWords Go.Proofs.YtmbiebdcnadhkaaW.PrintMore Go.Maps
set_option linter.unusedSimpArgs false
set_option linter.unusedVariables false
abbrev TFo : TypeId := 144
/-- The shelf's numbers, as they are here. -/
def sortRen : Go.Shelf.Ren := ⟨fun n => if n = 6 then 96 else if n = 14 then 115 else if n = 15 then 116 else if n = 20 then 127 else if n = 21 then 128 else if n = 22 then 129 else if n = 23 then 130 else if n = 24 then 131 else if n = 25 then 132 else if n = 26 then 133 else if n = 27 then 134 else if n = 28 then 135 else if n = 29 then 136 else if n = 46 then 142 else if n = 47 then 143 else if n = 48 then 144 else if n = 49 then 145 else if n = 50 then 146 else if n = 57 then 148 else n, fun n => if n = 0 then 0 else if n = 3 then 3 else if n = 4 then 4 else if n = 5 then 5 else if n = 9 then 9 else if n = 22 then 97 else if n = 24 then 144 else if n = 25 then 151 else if n = 39 then 160 else if n = 45 then 179 else if n = 46 then 180 else if n = 50 then 184 else if n = 53 then 176 else if n = 55 then 25 else if n = 66 then 193 else if n = 70 then 196 else if n = 76 then 199 else if n = 77 then 67 else n, fun n => n⟩
theorem sortLays : SlLaysF0.n6 Try.prog sortRen where
  mixed := by kernel_rfl
  f6 := ⟨Try.f96.name, by kernel_rfl, by kernel_rfl⟩
  f14 := ⟨Try.f115.name, by kernel_rfl, by kernel_rfl⟩
  f15 := by kernel_rfl
  f20 := ⟨Try.f127.name, by kernel_rfl, by kernel_rfl⟩
  f21 := ⟨Try.f128.name, by kernel_rfl, by kernel_rfl⟩
  f22 := ⟨Try.f129.name, by kernel_rfl, by kernel_rfl⟩
  f23 := ⟨Try.f130.name, by kernel_rfl, by kernel_rfl⟩
  f24 := ⟨Try.f131.name, by kernel_rfl, by kernel_rfl⟩
  f25 := ⟨Try.f132.name, by kernel_rfl, by kernel_rfl⟩
  f26 := ⟨Try.f133.name, by kernel_rfl, by kernel_rfl⟩
  f27 := ⟨Try.f134.name, by kernel_rfl, by kernel_rfl⟩
  f28 := by kernel_rfl
  f29 := by kernel_rfl
  f46 := ⟨Try.f142.name, by kernel_rfl, by kernel_rfl⟩
  f47 := by kernel_rfl
  f48 := by kernel_rfl
  f49 := ⟨Try.f145.name, by kernel_rfl, by kernel_rfl⟩
  f50 := ⟨Try.f146.name, by kernel_rfl, by kernel_rfl⟩
  f57 := ⟨Try.f148.name, by kernel_rfl, by kernel_rfl⟩
  t0 := by kernel_rfl
  a0 := fun w => by kernel_rfl
  z0 := fun w => by kernel_rfl
  v0 := fun w => by kernel_rfl
  t3 := by kernel_rfl
  a3 := fun w => by kernel_rfl
  z3 := fun w => by kernel_rfl
  v3 := fun w => by kernel_rfl
  t4 := by kernel_rfl
  a4 := fun w => by kernel_rfl
  z4 := fun w => by kernel_rfl
  v4 := fun w => by kernel_rfl
  t5 := by kernel_rfl
  a5 := fun w => by kernel_rfl
  z5 := fun w => by kernel_rfl
  v5 := fun w => by kernel_rfl
  t9 := by kernel_rfl
  a9 := fun w => by kernel_rfl
  z9 := fun w => by kernel_rfl
  v9 := fun w => by kernel_rfl
  t22 := by kernel_rfl
  a22 := fun w => by kernel_rfl
  z22 := fun w => by kernel_rfl
  v22 := fun w => by kernel_rfl
  t25 := by kernel_rfl
  a25 := fun w => by kernel_rfl
  z25 := fun w => by kernel_rfl
  v25 := fun w => by kernel_rfl
  t39 := by kernel_rfl
  a39 := fun w => by kernel_rfl
  z39 := fun w => by kernel_rfl
  v39 := fun w => by kernel_rfl
  t45 := by kernel_rfl
  a45 := fun w => by kernel_rfl
  z45 := fun w => by kernel_rfl
  v45 := fun w => by kernel_rfl
  t46 := by kernel_rfl
  a46 := fun w => by kernel_rfl
  z46 := fun w => by kernel_rfl
  v46 := fun w => by kernel_rfl
  t50 := by kernel_rfl
  a50 := fun w => by kernel_rfl
  z50 := fun w => by kernel_rfl
  v50 := fun w => by kernel_rfl
  t53 := by kernel_rfl
  a53 := fun w => by kernel_rfl
  z53 := fun w => by kernel_rfl
  v53 := fun w => by kernel_rfl
  t55 := by kernel_rfl
  a55 := fun w => by kernel_rfl
  z55 := fun w => by kernel_rfl
  v55 := fun w => by kernel_rfl
  t66 := by kernel_rfl
  a66 := fun w => by kernel_rfl
  z66 := fun w => by kernel_rfl
  v66 := fun w => by kernel_rfl
  t70 := by kernel_rfl
  a70 := fun w => by kernel_rfl
  z70 := fun w => by kernel_rfl
  v70 := fun w => by kernel_rfl
  t76 := by kernel_rfl
  a76 := fun w => by kernel_rfl
  z76 := fun w => by kernel_rfl
  v76 := fun w => by kernel_rfl
  t77 := by kernel_rfl
  a77 := fun w => by kernel_rfl
  z77 := fun w => by kernel_rfl
  v77 := fun w => by kernel_rfl
instance : Inhabited (FV En) := ⟨⟨0, 0, none, 0, []⟩⟩
theorem clo_cells (W : World) (o1 o2 : Obj) (a b : Int) : ((((W.alloc o1).alloc o2).alloc (.cells #[.int .i64 a, .int .i64 b] 3)).drew).cell? ⟨W.heap.size + 2, 0, none⟩ = some (.int .i64 a) ∧ ((((W.alloc o1).alloc o2).alloc (.cells #[.int .i64 a, .int .i64 b] 3)).drew).cell? ⟨W.heap.size + 2, 1, none⟩ = some (.int .i64 b) := by
  have h := blk_new ((W.alloc o1).alloc o2) (.cells #[.int .i64 a, .int .i64 b] 3)
  have hs : ((W.alloc o1).alloc o2).heap.size = W.heap.size + 2 := by
    show ((W.heap.push o1).push o2).size = _
    rw [Array.size_push, Array.size_push]
  rw [hs] at h
  exact ⟨bcell h 0, bcell h 1⟩
set_option maxHeartbeats 1000000 in
set_option maxRecDepth 100000 in
/-- The closure: in whatever world, blocks are laid. -/
theorem Order_any (x y : FV En) (W : World) : Calls Try.prog 92 #[.agg #[.int .i64 x.seg, .int .u64 x.seq, .slice x.A x.l.length x.c], .agg #[.int .i64 y.seg, .int .u64 y.seq, .slice y.A y.l.length y.c]] W fun e w' => e = .returned (.int .i64 (cmpF x y)) ∧ ∃ q os', w' = Go.Sort.grow (W.drewN q) os' := by
  obtain ⟨xa, xq, xA, xc, xl⟩ := x
  obtain ⟨ya, yq, yA, yc, yl⟩ := y
  obtain ⟨xn, hxn⟩ : ∃ n, n = xl.length := ⟨_, rfl⟩
  obtain ⟨yn, hyn⟩ : ∃ n, n = yl.length := ⟨_, rfl⟩
  obtain ⟨c1, hc1⟩ : ∃ c, c = cmpI xq yq := ⟨_, rfl⟩
  obtain ⟨c2, hc2⟩ : ∃ c, c = cmpI xa ya := ⟨_, rfl⟩
  unfold cmpF
  simp only [← hxn, ← hyn, ← hc1, ← hc2]
  have H1 := Lib.hid hc1
  have H2 := Lib.hid hc2
  clear hxn hyn hc1 hc2
  go_enter Try.func92, Try.ntmps92
  go_wp2_with fail
  go_region_held3 (fun w' => w'.cell? ⟨W.heap.size, 0, none⟩ = some (.int .i64 xa) ∧ w'.cell? ⟨W.heap.size, 1, none⟩ = some (.int .u64 xq) ∧ w'.cell? ⟨W.heap.size + 1, 0, none⟩ = some (.int .i64 ya) ∧ w'.cell? ⟨W.heap.size + 1, 1, none⟩ = some (.int .u64 yq)) (go_keep)
    (first
      | (go_at_call 94; (with_reducible refine (Compare_u64 _ _ _).mono ?_); rw [← H1.out]; rintro e w1 ⟨rfl, rfl⟩)
      | (go_at_call 95; (with_reducible refine (Compare_int _ _ _).mono ?_); rw [← H2.out]; rintro e w1 ⟨rfl, rfl⟩)
      | (go_at_call 93; (refine (Or_two (a := c1) (b := c2) (clo_cells W _ _ c1 c2).1 (clo_cells W _ _ c1 c2).2).mono ?_); rintro e w1 ⟨rfl, rfl⟩)
      | fail)
  go_wp2
  go_ret
  exact ⟨rfl, 1, _, by rw [Go.Sort.alloc_eq_grow, Go.Sort.alloc_eq_grow, Go.Sort.alloc_eq_grow, Go.Sort.grow_grow, Go.Sort.grow_grow]; rfl⟩
theorem ofList_get (zs : List (FV En)) {i : Nat} {z : FV En} (h : zs[i]? = some z) : zs.toArray[i]! = z := by
  have hl := (List.getElem?_eq_some_iff.1 h).1
  rw [getElem!_pos zs.toArray i (by simpa using hl)]
  simpa using (List.getElem?_eq_some_iff.1 h).2
def SortedF (zs : List (FV En)) : Prop := zs.Pairwise (fun x y => ¬ (y.seq < x.seq ∨ y.seq = x.seq ∧ y.seg < x.seg))
theorem sort_upd (w : World) (blk n : Nat) (d : Array (FV En)) (os : Array Obj) : Upd (fun k => k = blk) w (Go.Proofs.sortWorldK encF 3 w blk 0 n d os) := by
  refine ⟨rfl, rfl, rfl, ?_, fun k hk hn => ?_⟩
  · unfold Go.Proofs.sortWorldK
    rw [Go.Sort.size_grow]
    have : (Go.Sort.putRowK encF 3 (Go.Sort.ahead w n) blk 0 d).heap.size = w.heap.size := by simp [Go.Sort.putRowK, Go.Sort.putRow, Go.Sort.mapBlock, Go.Sort.ahead]
    omega
  · unfold Go.Proofs.sortWorldK
    rw [Go.Sort.heap_grow_old _ _ (by simp [Go.Sort.putRowK, Go.Sort.putRow, Go.Sort.mapBlock, Go.Sort.ahead]; exact hk)]
    show ((w.heap.modify blk _))[k]? = _
    rw [Array.getElem?_modify, if_neg (fun e => hn e.symm)]
set_option maxHeartbeats 1000000 in
/-- The row sorted. -/
theorem Sort_some {zs : List (FV En)} {blk cap : Nat} {w : World} (hH : Go.Sort.HoldsK encF 3 w blk 0 zs.toArray) (hblk : blk < w.heap.size) (hsz : zs.length < 1000) :
    Calls Try.prog 96 #[.slice (some ⟨blk, 0, none⟩) zs.length cap, .func (.func 92) #[] #[]] w fun e w' => e = .returned (.tuple #[]) ∧ ∃ zs', zs'.Perm zs ∧ SortedF zs' ∧ Go.Sort.HoldsK encF 3 w' blk 0 zs'.toArray ∧ Upd (fun k => k = blk) w w' := by
  have eg : ∀ args w, (callFunc 92 args).run Try.prog w = .ok (.enter 92 args) w := enters_of Try.func92 (by kernel_rfl) rfl
  have hcon := AnyQ.slices_SortFunc sortLays 3 (fun w => by kernel_rfl) (fun w => by kernel_rfl) encF (fun _ => rfl) (fun x v hv => by simp [encF] at hv; rcases hv with rfl | rfl | rfl <;> rfl) cmpF cmpF_swo 92 #[] blk 0 cap zs.toArray w eg (fun _ _ _ _ x y => Order_any x y _) hH hblk (by simp; omega)
  change Calls Try.prog 96 _ _ _ at hcon
  refine hcon.mono fun e w' ⟨he, d', n, os, hp, hs, hw⟩ => ⟨he, d'.toList, ?_, ?_, ?_, ?_⟩
  · have h3 := hp.2.2
    have h1 := hp.1
    simp only [List.size_toArray] at h1 h3
    rw [Array.extract_eq_self_of_le (by omega), Array.extract_eq_self_of_le (by simp)] at h3
    simpa using h3
  · have h1 := hp.1
    simp only [List.size_toArray] at h1
    unfold SortedF
    rw [List.pairwise_iff_getElem]
    intro i j hi hj hij
    have hlj : j < d'.size := by simpa using hj
    have := hs i j (Nat.zero_le _) hij (by rw [List.size_toArray]; omega)
    rw [cmpF_lt, decide_eq_false_iff_not, getElem!_pos d' j hlj, getElem!_pos d' i (by omega)] at this
    simpa using this
  · rw [hw]
    have h1 := hp.1
    exact Go.Proofs.holdsK_sortWorldK_c encF 3 w blk 0 zs.toArray d' n os hH hblk h1
  · rw [hw]
    exact sort_upd w blk n d' os
end Go.Proofs.Ytmbiebdcnadhkaa.Fl

/- A row of found segments: as a row of one's own, as cells that are read; sorted; at none. -/
namespace Go.Proofs.Ytmbiebdcnadhkaa.Fl
open Go.RowKit Go.Proofs.YtmbiebdcnadhkaaW.PrintWords Go.Proofs.YtmbiebdcnadhkaaW.PrintMore Go.Maps
set_option linter.unusedSimpArgs false
set_option linter.unusedVariables false
def kFV : Kd (FV En) where
  sz := 3
  E := []
  K := fun _ x cs => cs = encF x
  M := fun _ _ _ x cs => cs = encF x
  K_len := by
    rintro w x cs rfl
    rfl
  K_one := by
    rintro w x cs rfl u hu
    simp only [encF, List.mem_cons, List.not_mem_nil, or_false] at hu
    rcases hu with rfl | rfl | rfl <;> rfl
  K_below := by
    rintro w w1 x cs hb rfl
    rfl
  K_of_M := by
    rintro w base ok x cs rfl
    rfl
  M_mono := by
    rintro w base ok ok' x cs hok rfl
    rfl
  M_bound := by
    rintro w base ok x cs rfl
    rfl
  M_move := by
    rintro w w1 base ok x cs hm rfl
    rfl
  M_lower := by
    rintro w base base' ok x cs hb rfl
    rfl
theorem info_found : (Try.prog.info? TFo).map (fun i => (i.zero, i.size, i.bytes)) = some (some (.agg #[.int .i64 0, .int .u64 0, .slice none 0 0]), 3, 40) := by kernel_rfl
structure FCell (w : World) (g i : Nat) (x : FV En) : Prop where
  c0 : w.cell? ⟨g, i * 3, none⟩ = some (.int .i64 x.seg)
  c1 : w.cell? ⟨g, i * 3 + 1, none⟩ = some (.int .u64 x.seq)
  c2 : w.cell? ⟨g, i * 3 + 2, none⟩ = some (.slice x.A x.l.length x.c)
theorem FCell.below {w w' : World} {g i : Nat} {x : FV En} (h : FCell w g i x) (hb : Below w.heap.size w w') : FCell w' g i x :=
  have f : ∀ {a : Addr} {v : Value}, w.cell? a = some v → w'.cell? a = some v := fun h => (hb.cell (blt_of_cell h)).trans h
  ⟨f h.c0, f h.c1, f h.c2⟩
/-- The cells of a row of found segments. -/
def FRow (w : World) (A : Option Addr) (l : List (FV En)) : Prop := ∀ (i : Nat) (x : FV En), l[i]? = some x → ∃ g, A = some ⟨g, 0, none⟩ ∧ FCell w g i x
theorem FRow.below {w w' : World} {A : Option Addr} {l : List (FV En)} (h : FRow w A l) (hb : Below w.heap.size w w') : FRow w' A l := fun i e hi => by
  obtain ⟨g, h1, h2⟩ := h i e hi
  exact ⟨g, h1, h2.below hb⟩
theorem FRow.nil (w : World) (A : Option Addr) : FRow w A [] := fun i e hi => by simp at hi
theorem FRow.ofHolds {w : World} {g : Nat} {zs : List (FV En)} (h : Go.Sort.HoldsK encF 3 w g 0 zs.toArray) : FRow w (some ⟨g, 0, none⟩) zs := fun i x hi => by
  have hl : i < zs.toArray.size := by simpa using (List.getElem?_eq_some_iff.1 hi).1
  have e := ofList_get zs hi
  have f : ∀ c u, c < 3 → (encF x)[c]? = some u → w.cell? ⟨g, i * 3 + c, none⟩ = some u := fun c u hc hu => by
    have h1 := (h.cell (i := i) (c := c) hl hc).1
    rw [e, Nat.zero_add] at h1
    rw [h1]
    obtain ⟨hlt, hu⟩ := List.getElem?_eq_some_iff.1 hu
    rw [getElem!_pos (encF x) c hlt, hu]
  exact ⟨g, rfl, f 0 _ (by omega) rfl, f 1 _ (by omega) rfl, f 2 _ (by omega) rfl⟩
/-- A row of one's own that is not empty holds its cells, as the sort asks. -/
theorem holds_of {w : World} {base : Nat} {ok : Nat → Prop} {v : Value} {zs : List (FV En)} (h : kFV.R TFo w base ok v zs) (h0 : 0 < zs.length) :
    ∃ g cap cs, v = .slice (some ⟨g, 0, none⟩) zs.length cap ∧ zs.length ≤ cap ∧ ok g ∧ base ≤ g ∧ w.heap[g]? = some (.cells cs TFo (0, 0)) ∧ Go.Sort.HoldsK encF 3 w g 0 zs.toArray := by
  obtain ⟨hok, inner, ho, hr⟩ := h
  rcases ho.2 with ⟨_, h2⟩ | ⟨g, cap, cur, rfl, hb, hg, h1, h2, h3, h4⟩
  · omega
  · refine ⟨g, cap, cur, rfl, h1, hok g rfl, hb, hg, fun j hj => ⟨?_, bfrozen hg _⟩⟩
    have hj3 : j < zs.length * 3 := by simpa using hj
    have hi : j / 3 < zs.length := by omega
    obtain ⟨x, hx⟩ : ∃ x, zs[j / 3]? = some x := ⟨_, List.getElem?_eq_getElem hi⟩
    have h5 := hr.2 (j / 3) x hx
    have h6 : (inner.drop (j / 3 * 3)).take 3 = encF x := h5
    rw [Go.Sort.get_flatK _ _ _ _ (by simpa using hj3), ofList_get zs hx, bcell hg, Nat.zero_add]
    have hm : j % 3 < 3 := Nat.mod_lt _ (by omega)
    have h7 : inner[j]? = (encF x)[j % 3]? := by
      rw [← h6, List.getElem?_take, if_pos hm, List.getElem?_drop]
      congr 1
      omega
    have h8 : cur.toList[j]? = inner[j]? := by
      rw [← h4, List.getElem?_take, if_pos (show j < zs.length * kFV.sz from hj3)]
    rw [← Array.getElem?_toList, h8, h7]
    have hl : j % 3 < (encF x).length := hm
    rw [List.getElem?_eq_getElem hl, getElem!_pos (encF x) _ hl]
    rfl
/-- The records of a found segment: rows that were made from base on. -/
def FEnt (base : Nat) (w : World) (z : FV En) : Prop := kEnt.R TE w base (fun k => base ≤ k) (.slice z.A z.l.length z.c) z.l
theorem FEnt.typed {base : Nat} {w w' : World} {z : FV En} (h : FEnt base w z) (hm : ∀ (k : Nat) (cs : Array Value) (q : TypeId), (q = TE ∨ q = TB) → w.heap[k]? = some (.cells cs q (0, 0)) → w'.heap[k]? = w.heap[k]?) : FEnt base w' z := by
  refine Kd.R_mono (Kd.R_move (Kd.R_bound h) (fun k hk => ?_)) (fun k hk => hk.1)
  obtain ⟨_, _, _, q, hq, cs, hc⟩ := hk
  refine hm k cs q ?_ hc
  simpa [kEnt] using hq
theorem FEnt.below {base : Nat} {w w' : World} {z : FV En} (h : FEnt base w z) (hb : Below w.heap.size w w') : FEnt base w' z := Kd.R_below h hb
/-- A change of a block of another kind leaves the records. -/
theorem FEnt.upd {base g : Nat} {w w' : World} {z : FV En} {cs : Array Value} (h : FEnt base w z) (hg : w.heap[g]? = some (.cells cs TFo (0, 0))) (hu : Upd (fun k => k = g) w w') : FEnt base w' z :=
  h.typed (fun k cs' q hq hk => hu.block k (blt hk) (fun e => by
    rw [e, hg] at hk
    injection hk with hk
    injection hk with _ hk _
    rcases hq with rfl | rfl <;> exact absurd hk (by decide)))
theorem FEnt.grown {base : Nat} {ok : Nat → Prop} {w w1 : World} {v : Value} {zs : List (FV En)} {z : FV En} (h : FEnt base w z) (hR : kFV.R TFo w base ok v zs) (hg : w.grownBy w1 v.ownBlock) : FEnt base w1 z :=
  h.typed (fun k cs' q hq hk => hg.block k (blt hk) (Kd.R_ne hR hk (by rcases hq with rfl | rfl <;> decide)))
/-! ### The sort at no element -/
set_option maxHeartbeats 1000000 in
set_option maxRecDepth 100000 in
theorem Insertion_none (p : Option Addr) (cap : Nat) (fv : Value) (w : World) : Calls Try.prog 127 #[.slice p 0 cap, .int .i64 0, .int .i64 0, fv] w fun e w' => e = .returned (.tuple #[]) ∧ w = w' := by
  go_enter Try.func127, Try.ntmps127
  go_wp2
  refine wp_loop_rounds 1 ?_
  rw [rounds_succ]
  go_wp2
  go_end0
  exact ⟨rfl, rfl⟩
set_option maxHeartbeats 1000000 in
set_option maxRecDepth 100000 in
theorem Pdq_none (p : Option Addr) (cap : Nat) (lim : Int) (fv : Value) (w : World) : Calls Try.prog 115 #[.slice p 0 cap, .int .i64 0, .int .i64 0, .int .i64 lim, fv] w fun e w' => e = .returned (.tuple #[]) ∧ w = w' := by
  go_enter Try.func115, Try.ntmps115
  go_wp2
  refine wp_loop_rounds 1 ?_
  rw [rounds_succ]
  go_wp2_with (go_at_call 127; (with_reducible refine (Insertion_none _ _ _ _).mono ?_); rintro e w' ⟨rfl, rfl⟩)
  (try simp only [Exit.inBlock, Exit.then]); refine bodyPost_ret (results_none rfl _ _ _) rfl ?_
  exact ⟨rfl, rfl⟩
set_option maxHeartbeats 1000000 in
set_option maxRecDepth 100000 in
theorem Sort_none (p : Option Addr) (cap : Nat) (fv : Value) (w : World) : Calls Try.prog 96 #[.slice p 0 cap, fv] w fun e w' => e = .returned (.tuple #[]) ∧ w = w' := by
  have hl : Calls Try.prog 116 #[.int .u64 0] w fun e w' => (∃ l : Int, e = .returned (.int .i64 l)) ∧ w = w' :=
    (Any.bits_Len (SlLaysF0.n15.bits (P := Try.prog) (ρ := sortRen) { sortLays with }) 0 w (by omega) (by omega)).mono fun _ _ ⟨he, hw⟩ => ⟨⟨_, he⟩, hw.symm⟩
  have HL := Lib.hid hl
  clear hl
  go_enter Try.func96, Try.ntmps96
  go_wp2_with (first
    | (go_at_call 116; (refine HL.out.mono ?_); rintro e w' ⟨⟨l, rfl⟩, rfl⟩)
    | (go_at_call 115; (with_reducible refine (Pdq_none _ _ _ _ _).mono ?_); rintro e w' ⟨rfl, rfl⟩)
    | fail)
  go_end0
  exact ⟨rfl, rfl⟩
end Go.Proofs.Ytmbiebdcnadhkaa.Fl

/- Records that lie one behind the other are read as they were put. No program in sight. -/
namespace Go.Proofs.Ytmbiebdcnadhkaa.Fl
set_option linter.unusedSimpArgs false
set_option linter.unusedVariables false
/-- What is known of a device's pages. -/
structure Sound (D : PD) : Prop where
  sh : ShapeOk D.s
  lens : ∀ q ∈ D.mp, q.2.length = D.s.2.2.toNat
theorem DevIs.sound {N0 p : Nat} {D : PD} {ok : Nat → Prop} {w : World} (h : DevIs N0 p D ok w) : Sound D := by
  obtain ⟨m, v, es, ck, h⟩ := h
  exact ⟨h.shape, h.lens⟩
section
variable {D : PD} {a b : Int} {l : List Int}
theorem writeE_zero (h : hasB D.s a b = true) (hl : (l.length : Int) ≤ D.s.2.2) (hu : usedB D a b = false) : writeE D a b l = 0 := by
  unfold writeE
  rw [if_neg (by rw [h]; decide), if_neg (by omega), if_neg (by rw [hu]; decide)]
theorem got_write (h : hasB D.s a b = true) (hl : (l.length : Int) ≤ D.s.2.2) (hu : usedB D a b = false) (c d : Int) :
    gotD (writeD D a b l) c d = if c = a ∧ d = b then full D.s.2.2.toNat l else gotD D c d := by
  have h0 := writeE_zero h hl hu
  unfold gotD
  rw [writeD_s]
  unfold writeD
  rw [if_pos h0]
  unfold readD numB
  simp only
  by_cases hc : c = a ∧ d = b
  · obtain ⟨rfl, rfl⟩ := hc
    rw [if_pos h, look_put, if_pos rfl, if_pos ⟨rfl, rfl⟩, Option.getD_some, full_full (by omega)]
  · have hne : ¬ ((c, d) = (a, b)) := fun e => hc ⟨congrArg Prod.fst e, congrArg Prod.snd e⟩
    rw [look_put, if_neg hne, if_neg hc]
theorem used_write (h : hasB D.s a b = true) (hl : (l.length : Int) ≤ D.s.2.2) (hu : usedB D a b = false) (c d : Int) :
    usedB (writeD D a b l) c d = (decide (c = a ∧ d = b) || usedB D c d) := by
  have h0 := writeE_zero h hl hu
  unfold usedB
  rw [writeD_s]
  unfold writeD
  rw [if_pos h0]
  simp only
  by_cases hc : c = a ∧ d = b
  · obtain ⟨rfl, rfl⟩ := hc
    rw [look_put, if_pos rfl, h]
    simp
  · have hne : ¬ ((c, d) = (a, b)) := fun e => hc ⟨congrArg Prod.fst e, congrArg Prod.snd e⟩
    rw [look_put, if_neg hne, decide_eq_false hc]
    rfl
/-- Pages that may be written, one behind the other. -/
def FreeRun (D : PD) (a b : Int) (rs : List (List Int)) : Prop := ∀ i : Nat, i < rs.length → hasB D.s a (b + (i : Int)) = true ∧ usedB D a (b + (i : Int)) = false
theorem FreeRun.head {r : List Int} {rs : List (List Int)} (h : FreeRun D a b (r :: rs)) : hasB D.s a b = true ∧ usedB D a b = false := by
  have := h 0 (by simp)
  simpa using this
theorem FreeRun.tail {r : List Int} {rs : List (List Int)} (h : FreeRun D a b (r :: rs)) (hl : (r.length : Int) ≤ D.s.2.2) : FreeRun (writeD D a b r) a (b + 1) rs := fun i hi => by
  have h1 := h (i + 1) (by simp; omega)
  rw [writeD_s, used_write h.head.1 hl h.head.2]
  rw [show b + 1 + (i : Int) = b + ((i + 1 : Nat) : Int) by omega, h1.2, Bool.or_false]
  exact ⟨h1.1, decide_eq_false (fun hh => by omega)⟩
theorem got_wr : ∀ (rs : List (List Int)) (b : Int) (D : PD), FreeRun D a b rs → (∀ r ∈ rs, (r.length : Int) ≤ D.s.2.2) → ∀ c d : Int, gotD (wrD a b rs D) c d = if c = a ∧ b ≤ d ∧ d < b + rs.length then full D.s.2.2.toNat (rs.getD (d - b).toNat []) else gotD D c d
  | [], b, D, _, _, c, d => by
    rw [if_neg (fun h => by simp at h; omega)]
    rfl
  | r :: rs, b, D, h, hl, c, d => by
    have hr := hl r (by simp)
    show gotD (wrD a (b + 1) rs (writeD D a b r)) c d = _
    rw [got_wr rs (b + 1) (writeD D a b r) (h.tail hr) (fun q hq => by rw [writeD_s]; exact hl q (by simp [hq])), writeD_s, got_write h.head.1 hr h.head.2]
    by_cases h1 : c = a ∧ b + 1 ≤ d ∧ d < b + 1 + rs.length
    · rw [if_pos h1, if_pos ⟨h1.1, by omega, by simp; omega⟩]
      obtain ⟨k, hk⟩ := Int.eq_ofNat_of_zero_le (show 0 ≤ d - (b + 1) by omega)
      rw [hk, show d - b = ((k + 1 : Nat) : Int) by omega]
      rfl
    · rw [if_neg h1]
      by_cases h2 : c = a ∧ d = b
      · rw [if_pos h2, if_pos ⟨h2.1, by omega, by simp; omega⟩, h2.2, Int.sub_self]
        rfl
      · rw [if_neg h2, if_neg]
        rintro ⟨x1, x2, x3⟩
        simp at x3
        exact h1 ⟨x1, by omega, by omega⟩
theorem used_wr : ∀ (rs : List (List Int)) (b : Int) (D : PD), FreeRun D a b rs → (∀ r ∈ rs, (r.length : Int) ≤ D.s.2.2) → ∀ c d : Int, usedB (wrD a b rs D) c d = (decide (c = a ∧ b ≤ d ∧ d < b + rs.length) || usedB D c d)
  | [], b, D, _, _, c, d => by
    rw [decide_eq_false (fun h => by simp at h; omega)]
    rfl
  | r :: rs, b, D, h, hl, c, d => by
    have hr := hl r (by simp)
    show usedB (wrD a (b + 1) rs (writeD D a b r)) c d = _
    rw [used_wr rs (b + 1) (writeD D a b r) (h.tail hr) (fun q hq => by rw [writeD_s]; exact hl q (by simp [hq])), used_write h.head.1 hr h.head.2, ← Bool.or_assoc, ← Bool.decide_or]
    congr 1
    refine decide_eq_decide.2 ⟨?_, ?_⟩
    · rintro (⟨x1, x2, x3⟩ | ⟨x1, x2⟩)
      · exact ⟨x1, by omega, by simp; omega⟩
      · exact ⟨x1, by omega, by simp; omega⟩
    · rintro ⟨x1, x2, x3⟩
      simp at x3
      by_cases hd : d = b
      · exact .inr ⟨x1, hd⟩
      · exact .inl ⟨x1, by omega, by omega⟩
end
/-! ### A record that was put -/
/-- A record's bytes in the parts that its pages have. -/
def parts (s : Int × Int × Int) (kd sq : Int) (l : List Int) : List (List Int) := chunkL s.2.2.toNat (rec kd sq l)
theorem nb_pos {s : Int × Int × Int} (hs : ShapeOk s) : 16 ≤ s.2.2.toNat ∧ s.2.2.toNat ≤ 256 ∧ ((s.2.2.toNat : Nat) : Int) = s.2.2 := by
  have := hs.c0
  have := hs.c1
  omega
theorem parts_len {s : Int × Int × Int} (hs : ShapeOk s) (kd sq : Int) (l : List Int) : (parts s kd sq l).length = kpg s l.length := by
  unfold parts kpg
  rw [chunk_len (by have := nb_pos hs; omega), rec_len]
theorem parts_le {s : Int × Int × Int} (hs : ShapeOk s) {kd sq : Int} {l r : List Int} (h : r ∈ parts s kd sq l) : (r.length : Int) ≤ s.2.2 := by
  have h1 := chunk_le (by have := nb_pos hs; omega) r h
  have := nb_pos hs
  omega
structure RecOk (kd sq : Int) (l : List Int) : Prop where
  kd : KindOk kd
  sq : SeqOk sq
  byt : Byt l
  len : l.length ≤ 4096
/-- Where an append succeeds. -/
theorem appE_zero {D : PD} (a b : Int) (n : Nat) : (appE D a b n).2 = 0 ↔ (hasB D.s a b = true ∧ n ≤ 4096 ∧ b + (kpg D.s n : Int) ≤ D.s.2.1 ∧ anyUsedD a b (kpg D.s n) D = false) := by
  unfold appE
  by_cases h1 : hasB D.s a b = false
  · rw [if_pos h1, h1]; simp
  · rw [if_neg h1]
    by_cases h2 : 4096 < n
    · rw [if_pos h2]; simp; omega
    · rw [if_neg h2]
      by_cases h3 : D.s.2.1 < b + (kpg D.s n : Int)
      · rw [if_pos h3]; simp; omega
      · rw [if_neg h3]
        by_cases h4 : anyUsedD a b (kpg D.s n) D = true
        · rw [if_pos h4, h4]; simp
        · rw [if_neg h4]
          simp only [Bool.not_eq_false] at h1
          simp only [Bool.not_eq_true] at h4
          simp [h1, h4]; omega
theorem appE_one {D : PD} {a b : Int} {n : Nat} (h : (appE D a b n).2 = 0) : appE D a b n = ((kpg D.s n : Int), 0) := by
  obtain ⟨h1, h2, h3, h4⟩ := (appE_zero a b n).1 h
  unfold appE
  rw [if_neg (by rw [h1]; decide), if_neg (by omega), if_neg (by omega), if_neg (by rw [h4]; decide)]
theorem app_run {D : PD} (hs : ShapeOk D.s) {a b kd sq : Int} {l : List Int} (h : (appE D a b l.length).2 = 0) : FreeRun D a b (parts D.s kd sq l) := by
  obtain ⟨h1, h2, h3, h4⟩ := (appE_zero a b l.length).1 h
  intro i hi
  rw [parts_len hs] at hi
  have h5 := (hasB_iff _ _ _).1 h1
  refine ⟨(hasB_iff _ _ _).2 ⟨h5.1, h5.2.1, by omega, by omega⟩, ?_⟩
  unfold anyUsedD at h4
  rw [List.any_eq_false] at h4
  have := h4 i (by simpa using hi)
  simpa using this
theorem appD_ok {D : PD} {a b : Int} {n : Nat} {bs : List Int} (h : (appE D a b n).2 = 0) : appD D a b n bs = wrD a b (chunkL D.s.2.2.toNat bs) D := by unfold appD; rw [if_pos h]
theorem appD_s (D : PD) (a b : Int) (n : Nat) (bs : List Int) : (appD D a b n bs).s = D.s := by
  unfold appD
  split
  · exact wrD_s _ _ _ _
  · rfl
/-- A record lies at a page. -/
structure Holds (D : PD) (a q kd sq : Int) (l : List Int) : Prop where
  ok : RecOk kd sq l
  has : hasB D.s a q = true
  room : q + (kpg D.s l.length : Int) ≤ D.s.2.1
  got : ∀ i : Nat, i < kpg D.s l.length → gotD D a (q + (i : Int)) = full D.s.2.2.toNat ((parts D.s kd sq l).getD i [])
theorem app_holds {D : PD} (hs : ShapeOk D.s) {a b kd sq : Int} {l : List Int} (hr : RecOk kd sq l) (h : (appE D a b l.length).2 = 0) : Holds (appD D a b l.length (rec kd sq l)) a b kd sq l := by
  obtain ⟨h1, h2, h3, h4⟩ := (appE_zero a b l.length).1 h
  have hrun := app_run (kd := kd) (sq := sq) hs h
  refine ⟨hr, by rw [appD_s]; exact h1, by rw [appD_s]; exact h3, fun i hi => ?_⟩
  rw [appD_s] at hi ⊢
  rw [appD_ok h]
  have := got_wr (parts D.s kd sq l) b D hrun (fun r hr => parts_le hs hr) a (b + (i : Int))
  unfold parts at this
  rw [this, if_pos ⟨rfl, by omega, by have := parts_len hs kd sq l; unfold parts at this; omega⟩, show (b + (i : Int) - b).toNat = i by omega]
  rfl
theorem app_got {D : PD} (hs : ShapeOk D.s) {a b kd sq : Int} {l : List Int} (h : (appE D a b l.length).2 = 0) {c d : Int} (hcd : ¬ (c = a ∧ b ≤ d ∧ d < b + (kpg D.s l.length : Int))) : gotD (appD D a b l.length (rec kd sq l)) c d = gotD D c d := by
  rw [appD_ok h]
  have := got_wr (parts D.s kd sq l) b D (app_run hs h) (fun r hr => parts_le hs hr) c d
  unfold parts at this
  rw [this, if_neg]
  have hl := parts_len hs kd sq l
  unfold parts at hl
  rw [hl]
  exact hcd
theorem app_used {D : PD} (hs : ShapeOk D.s) {a b kd sq : Int} {l : List Int} (h : (appE D a b l.length).2 = 0) (c d : Int) : usedB (appD D a b l.length (rec kd sq l)) c d = (decide (c = a ∧ b ≤ d ∧ d < b + (kpg D.s l.length : Int)) || usedB D c d) := by
  rw [appD_ok h]
  have := used_wr (parts D.s kd sq l) b D (app_run hs h) (fun r hr => parts_le hs hr) c d
  have hl := parts_len hs kd sq l
  unfold parts at this hl
  rw [this, hl]
theorem Holds.keep {D : PD} (hs : ShapeOk D.s) {a b kd sq : Int} {l : List Int} (h : (appE D a b l.length).2 = 0) {c q kd2 sq2 : Int} {l2 : List Int} (hh : Holds D c q kd2 sq2 l2) (hd : c ≠ a ∨ q + (kpg D.s l2.length : Int) ≤ b) : Holds (appD D a b l.length (Fl.rec kd sq l)) c q kd2 sq2 l2 := by
  refine ⟨hh.ok, by rw [appD_s]; exact hh.has, by rw [appD_s]; exact hh.room, fun i hi => ?_⟩
  rw [appD_s] at hi ⊢
  rw [app_got hs h (by omega)]
  exact hh.got i hi
/-- A record's pages, one behind the other. -/
theorem pad_flat {n : Nat} (hn : 1 ≤ n) : ∀ (k : Nat) (bs : List Int), bs.length ≤ k → ∃ m, ((chunkL n bs).map (full n)).flatten = bs ++ List.replicate m 255
  | 0, bs, h => by
    have : bs = [] := List.eq_nil_of_length_eq_zero (by omega)
    subst this
    exact ⟨0, by rw [chunkL_nil]; rfl⟩
  | k + 1, bs, h => by
    by_cases h0 : 0 < bs.length
    · rw [chunkL_cons h0 hn, List.map_cons, List.flatten_cons]
      by_cases h1 : bs.length ≤ n
      · rw [List.take_of_length_le h1, List.drop_of_length_le h1, chunkL_nil]
        exact ⟨n - bs.length, by simp [full]⟩
      · obtain ⟨m, hm⟩ := pad_flat hn k (bs.drop n) (by rw [List.length_drop]; omega)
        refine ⟨m, ?_⟩
        rw [hm, full_self (by rw [List.length_take]; omega), ← List.append_assoc, List.take_append_drop]
    · have : bs = [] := List.eq_nil_of_length_eq_zero (by omega)
      subst this
      exact ⟨0, by rw [chunkL_nil]; rfl⟩
theorem flat_range {α : Type} (f : Nat → List α) (g : List (List α)) : ∀ k, k = g.length → (∀ i, i < k → f i = g.getD i []) → (List.range k).flatMap f = g.flatten := by
  intro k hk h
  have : (List.range k).map f = g := by
    refine List.ext_getElem (by simp [hk]) (fun i h1 h2 => ?_)
    simp only [List.getElem_map, List.getElem_range]
    rw [h i (by omega), List.getD_eq_getElem?_getD, List.getElem?_eq_getElem h2]
    rfl
  rw [List.flatMap_def, this]
theorem raw_split {D : PD} {a q : Int} {k : Nat} (hk : k ≤ nRaw D.s a q) : ∃ r, rawD D a q = rawK D a q k ++ r := by
  unfold rawD
  obtain ⟨m, hm⟩ : ∃ m, nRaw D.s a q = k + m := ⟨nRaw D.s a q - k, by omega⟩
  rw [hm]
  unfold rawK
  rw [List.range_add, List.flatMap_append]
  exact ⟨_, rfl⟩
theorem parsed_rec {kd sq : Int} {l rest : List Int} (hr : RecOk kd sq l) (hb : Byt rest) (hl : rest.length ≤ 700000) : parsed (rec kd sq l ++ rest) = (kd, sq, l, ((l.length : Nat) : Int) + 16, 0) := by
  have h1 := Go.Proofs.Ytmbiebdcnadhkaa.FrMore.get_rec (l.length + rest.length + 100) kd sq l rest ⟨hr.kd.k0, hr.kd.k1⟩ ⟨hr.sq.k0, hr.sq.k1⟩ hr.byt hb hr.len hl (Nat.le_refl _)
  have hlen : (rec kd sq l ++ rest).length = l.length + 16 + rest.length := by rw [List.length_append, rec_len]
  have hbb : Byt (rec kd sq l ++ rest) := Byt.append (rec_byt hr.kd hr.byt) hb
  have h2 := Go.Proofs.Ytmbiebdcnadhkaa.FrameFacts.get_is (l.length + rest.length + 100) (rec kd sq l ++ rest) hbb (by have := hr.len; omega) (by omega)
  have h3 : some (parsed (rec kd sq l ++ rest)) = some (kd, sq, l, ((l.length : Nat) : Int) + 16, 0) := h2.symm.trans h1
  exact Option.some.inj h3
theorem raw_len {D : PD} (hs : Sound D) (a b : Int) : (rawD D a b).length ≤ 16384 := by
  have hl : ∀ x, (gotD D a x).length ≤ 256 := fun x => by
    unfold gotD readD numB
    split
    · rw [full_length (look_len hs.lens _)]
      have := hs.sh.c1
      omega
    · simp
  have h1 := rawK_len (b := b) hl (nRaw D.s a b)
  have h2 := nRaw_le hs.sh a b
  unfold rawD
  omega
theorem Holds.ent {D : PD} (hs : Sound D) (hb : BytD D) {a q kd sq : Int} {l : List Int} (h : Holds D a q kd sq l) : entD D a q = (⟨a, q, sq, (kpg D.s l.length : Int), kd, l⟩, 0) := by
  have hn := nb_pos hs.sh
  have hq := (hasB_iff _ _ _).1 h.has
  have hnr : kpg D.s l.length ≤ nRaw D.s a q := by
    unfold nRaw
    have := h.room
    rw [if_pos hq]
    omega
  obtain ⟨r, hr⟩ := raw_split hnr
  have hk : rawK D a q (kpg D.s l.length) = ((parts D.s kd sq l).map (full D.s.2.2.toNat)).flatten := by
    refine flat_range _ _ _ (by rw [List.length_map, parts_len hs.sh]) (fun i hi => ?_)
    rw [h.got i hi, List.getD_eq_getElem?_getD, List.getD_eq_getElem?_getD, List.getElem?_map]
    rw [List.getElem?_eq_getElem (by rw [parts_len hs.sh]; exact hi)]
    rfl
  obtain ⟨m, hm⟩ := pad_flat (n := D.s.2.2.toNat) (by omega) _ (Fl.rec kd sq l) (Nat.le_refl _)
  unfold parts at hk
  rw [hm] at hk
  have hraw : rawD D a q = Fl.rec kd sq l ++ (List.replicate m 255 ++ r) := by rw [hr, hk, List.append_assoc]
  have hby := hb.raw a q
  have hlen := raw_len hs a q
  rw [hraw] at hby hlen
  rw [List.length_append] at hlen
  have hp := parsed_rec h.ok (rest := List.replicate m 255 ++ r) (fun x hx => hby x (List.mem_append.2 (.inr hx))) (by omega)
  unfold entD entL
  rw [if_neg (by rw [h.has]; decide), hraw, hp]
  simp only [if_true]
  rw [show ((l.length : Nat) : Int) + 16 - 16 = (l.length : Int) by omega, Int.toNat_natCast]
/-- A page that isn't used holds no record. -/
theorem unused_ent {D : PD} (hs : Sound D) {a q : Int} (hu : usedB D a q = false) (hh : hasB D.s a q = true) : (entD D a q).2 = 13 := by
  have hn := nb_pos hs.sh
  have hq := (hasB_iff _ _ _).1 hh
  have hg : gotD D a q = full D.s.2.2.toNat [] := by
    unfold usedB at hu
    rw [hh, Bool.true_and] at hu
    unfold gotD readD numB
    rw [if_pos hh]
    cases hl : look (a, q) D.mp with
    | none => rfl
    | some x => rw [hl] at hu; cases hu
  obtain ⟨r, hr⟩ := raw_split (D := D) (a := a) (q := q) (k := 1) (by unfold nRaw; rw [if_pos hq]; omega)
  have h1 : rawK D a q 1 = full D.s.2.2.toNat [] := by
    unfold rawK
    simp [hg]
  obtain ⟨m, hm⟩ : ∃ m, D.s.2.2.toNat = m + 1 := ⟨D.s.2.2.toNat - 1, by omega⟩
  have hraw : rawD D a q = 255 :: (List.replicate m 255 ++ r) := by
    rw [hr, h1, hm]
    rfl
  unfold entD entL
  rw [if_neg (by rw [hh]; decide), hraw]
  have hp : (parsed (255 :: (List.replicate m 255 ++ r))).2.2.2.2 = 13 := by
    unfold parsed Go.Proofs.Ytmbiebdcnadhkaa.FrameFacts.parsed
    have hh : Go.Proofs.Ytmbiebdcnadhkaa.FrameFacts.head (255 :: (List.replicate m 255 ++ r)) = 13 := by
      unfold Go.Proofs.Ytmbiebdcnadhkaa.FrameFacts.head
      have hrd : Go.Proofs.YtmbiebdcnadhkaaW.PrintWords.rd (255 :: (List.replicate m 255 ++ r)) 0 = 255 := rfl
      rw [if_neg (by simp), if_pos hrd]
    rw [if_neg (by rw [hh]; decide), hh]
  rw [if_neg (by rw [hp]; decide), hp]
/-! ### Records one behind the other -/
def Chain (D : PD) (a sq : Int) : Int → List (Int × List Int) → Int → Prop
  | q, [], e => q = e
  | q, r :: rs, e => Holds D a q r.1 sq r.2 ∧ r.1 ≠ 1 ∧ Chain D a sq (q + (kpg D.s r.2.length : Int)) rs e
def entsL (s : Int × Int × Int) (a sq : Int) : Int → List (Int × List Int) → List En
  | _, [] => []
  | q, r :: rs => ⟨a, q, sq, (kpg s r.2.length : Int), r.1, r.2⟩ :: entsL s a sq (q + (kpg s r.2.length : Int)) rs
theorem Chain.scan {D : PD} (hs : Sound D) (hb : BytD D) {a sq e : Int} (he : (entD D a e).2 ≠ 0) : ∀ {rs : List (Int × List Int)} {q : Int} {f : Nat}, Chain D a sq q rs e → D.s.2.1 - q ≤ f → scanF (entD D a) D.s.2.1 sq f q = entsL D.s a sq q rs
  | [], q, f, h, _ => by
    obtain rfl : q = e := h
    rw [scanF_bad (.inl he)]
    rfl
  | r :: rs, q, f, ⟨h1, h2, h3⟩, hf => by
    have hq := (hasB_iff _ _ _).1 h1.has
    obtain ⟨f, rfl⟩ : ∃ g, f = g + 1 := ⟨f - 1, by omega⟩
    have hent := h1.ent hs hb
    have hk := kpg_bd hs.sh h1.ok.len
    rw [scanF_good ⟨by omega, by omega⟩ (by rw [hent]) (by rw [hent]; exact h2) (by rw [hent]), hent]
    simp only
    rw [Chain.scan hs hb he h3 (by omega)]
    rfl
theorem no_ent {D : PD} {a e : Int} (h : hasB D.s a e = false) : (entD D a e).2 = 6 := by
  unfold entD entL
  rw [if_pos h]
theorem Chain.keep {D : PD} (hs : ShapeOk D.s) {a b kd sq sq2 : Int} {l : List Int} (h : (appE D a b l.length).2 = 0) {c : Int} : ∀ {rs : List (Int × List Int)} {q e : Int}, Chain D c sq2 q rs e → c ≠ a ∨ e ≤ b → Chain (appD D a b l.length (rec kd sq l)) c sq2 q rs e
  | [], _, _, hc, _ => hc
  | r :: rs, q, e, ⟨h1, h2, h3⟩, hd => by
    have he : ∀ {rs : List (Int × List Int)} {q e : Int}, Chain D c sq2 q rs e → q ≤ e := by
      intro rs
      induction rs with
      | nil => intro q e h; exact Int.le_of_eq h
      | cons r rs ih => intro q e h; have := ih h.2.2; omega
    have hle := he h3
    have hd2 : c ≠ a ∨ q + (kpg D.s r.2.length : Int) ≤ b := by
      rcases hd with hd | hd
      · exact .inl hd
      · exact .inr (by omega)
    have h4 := Chain.keep hs h h3 hd (kd := kd) (sq := sq)
    refine ⟨h1.keep hs h hd2, h2, ?_⟩
    rw [appD_s]
    exact h4
theorem Chain.snoc {D : PD} {a sq : Int} {r : Int × List Int} : ∀ {rs : List (Int × List Int)} {q e : Int}, Chain D a sq q rs e → Holds D a e r.1 sq r.2 → r.1 ≠ 1 → Chain D a sq q (rs ++ [r]) (e + (kpg D.s r.2.length : Int))
  | [], q, e, hc, h, hk => by
    obtain rfl : q = e := hc
    exact ⟨h, hk, rfl⟩
  | x :: rs, q, e, ⟨h1, h2, h3⟩, h, hk => ⟨h1, h2, Chain.snoc h3 h hk⟩
end Go.Proofs.Ytmbiebdcnadhkaa.Fl

/- scan.Segments: walked. No condition. -/
namespace Go.Proofs.Ytmbiebdcnadhkaa.Fl
open Go.RowKit Go.Proofs.YtmbiebdcnadhkaaW.PrintWords Go.Proofs.YtmbiebdcnadhkaaW.PrintMore Go.Maps
set_option linter.unusedSimpArgs false
set_option linter.unusedVariables false
abbrev Seg3 := Int × Int × List En
def toT (z : FV En) : Seg3 := (z.seg, z.seq, z.l)
def segF (D : PD) (i : Nat) : Option Seg3 := if (scanD D (i : Int)).2.2 = true then some ((i : Int), (scanD D (i : Int)).1, (scanD D (i : Int)).2.1) else none
/-- The segments that have a head, by their place. -/
def segsL (D : PD) (n : Nat) : List Seg3 := (List.range n).filterMap (segF D)
theorem segsL_succ (D : PD) (n : Nat) : segsL D (n + 1) = segsL D n ++ (segF D n).toList := by
  unfold segsL
  rw [List.range_succ, List.filterMap_append]
  cases h : segF D n <;> simp [h]
theorem segsL_len (D : PD) (n : Nat) : (segsL D n).length ≤ n := by
  unfold segsL
  exact Nat.le_trans (List.length_filterMap_le _ _) (by simp)
def SegsPost (w : World) (D : PD) (e : Ending) (w' : World) : Prop :=
  ∃ A c zs, e = .returned (.slice A zs.length c) ∧ (zs.map toT).Perm (segsL D D.s.1.toNat) ∧ SortedF zs ∧ FRow w' A zs ∧ (∀ z ∈ zs, FEnt w.heap.size w' z) ∧ Below w.heap.size w w' ∧ (∀ ad, A = some ad → 0 < zs.length → w.heap.size ≤ ad.block)
section
variable {N0 p : Nat} {D : PD} {w : World} {ok : Nat → Prop}
set_option maxHeartbeats 4000000 in
set_option maxRecDepth 100000 in
theorem Segments_any (hD : DevIs N0 p D ok w) (hby : BytD D) : Calls Try.prog 51 #[.pointer (some ⟨p, 0, none⟩)] w (SegsPost w D) := by
  have hs := hD.sound.sh
  obtain ⟨n, hn⟩ := Int.eq_ofNat_of_zero_le (show 0 ≤ D.s.1 by have := hs.a0; omega)
  have n2 : n ≤ 16 := by have := hs.a1; omega
  have hsc := fun (X : World) (hX : Below w.heap.size w X) (a : Int) => Scan_ent (hD.below hX) hby a
  have hsh := Shape_any hD
  rw [hn] at hsh
  have rs := fun (X : World) => run_shape1 X (n : Int) D.s.2.1 D.s.2.2
  have HSC := Lib.hid hsc
  have HSH := Lib.hid hsh
  have HN := Lib.hid (show D.s.1.toNat = n by omega)
  clear hD hs hsc hsh hn hby
  go_enter Try.func51, Try.ntmps51
  go_wp2_with (first
    | (go_at_call 56; (with_reducible refine HSH.out.mono ?_); rintro e w1 ⟨rfl, hb⟩; have HB1 := Aside0.mk hb; clear hb)
    | fail)
  go_loopw [3, 12] (fun v3 v12 wr => ∃ (k : Nat) (zs : List (FV En)), k ≤ n ∧ v12 = .int .i64 (k : Int) ∧ kFV.R TFo wr w.heap.size (fun j => w.heap.size ≤ j) v3 zs ∧ zs.map toT = segsL D k ∧ (∀ z ∈ zs, FEnt w.heap.size wr z) ∧ Below w.heap.size w wr) (fun _ v12 _ => n - (intOf v12).toNat)
  case atStart => exact ⟨0, [], Nat.zero_le _, rfl, Kd.R_nil _ _ _ _ _, rfl, fun z hz => by simp at hz, HB1.out⟩
  case round =>
    obtain ⟨k, zs, hk, rfl, hR, hz, hE, hb⟩ := hrel
    obtain ⟨A3, c3, rfl⟩ := Kd.R_slice hR
    have hzl : zs.length ≤ k := by
      have h1 := segsL_len D k
      rw [← hz, List.length_map] at h1
      exact h1
    have HR := Aside0.mk hR
    have HZ := Lib.hid hz
    have HE := Lib.hid hE
    have HB := Aside0.mk hb
    clear hR hz hE hb
    by_cases hlt : k < n
    · have q1 : (k : Int) < (n : Int) := by omega
      rcases hx : scanD D (k : Int) with ⟨sq, es, is⟩
      have hsc := HSC.out wr HB.out (k : Int)
      rw [hx] at hsc
      have HSK := Lib.hid hsc
      have HX := Lib.hid hx
      clear hsc hx
      cases is with
      | false =>
        have hnx : segsL D (k + 1) = segsL D k := by
          rw [segsL_succ]
          unfold segF
          rw [HX.out, if_neg (by simp)]
          simp
        have HNX := Lib.hid hnx
        clear hnx
        go_wp2_with (first
          | (go_at_call 15; (with_reducible refine HSK.out.mono ?_); rintro e w4 ⟨v4, rfl, hr4, hb4⟩; obtain ⟨A4, c4, rfl⟩ := Kd.R_slice hr4; have HB4 := Aside0.mk hb4; clear hr4 hb4)
          | fail)
        exact ⟨⟨k + 1, zs, by omega, by go_num, Kd.R_below HR.out HB4.out, by rw [HNX.out]; exact HZ.out, fun z hz => (HE.out z hz).below HB4.out, HB.out.trans (HB4.out.mono HB.out.size)⟩, by simp [intOf]; omega⟩
      | true =>
        have hnx : segsL D (k + 1) = segsL D k ++ [((k : Int), sq, es)] := by
          rw [segsL_succ]
          unfold segF
          rw [HX.out, if_pos rfl]
          rfl
        have HNX := Lib.hid hnx
        obtain ⟨m, hm⟩ : ∃ m, m = es.length := ⟨_, rfl⟩
        have HM := Lib.hid hm
        clear hnx hm
        go_wp2_with (first
          | (go_at_call 15; (with_reducible refine HSK.out.mono ?_); rintro e w4 ⟨v4, rfl, hr4, hb4⟩; obtain ⟨A4, c4, hv4⟩ := Kd.R_slice hr4; (rw [← HM.out] at hv4); subst hv4; have hz4 : FEnt w.heap.size w4 ⟨(k : Int), sq, A4, c4, es⟩ := (by show kEnt.R TE w4 w.heap.size (fun k => w.heap.size ≤ k) (.slice A4 es.length c4) es; rw [← HM.out]; exact Kd.R_mono (Kd.R_lower hr4 HB.out.size) (fun k hk => Nat.le_trans HB.out.size hk)); have HZ4 := Lib.hid hz4; have HB4 := Aside0.mk (HB.out.trans (hb4.mono HB.out.size)); have HR4 := Aside0.mk (Kd.R_below HR.out hb4); have HE4 := Lib.hid (fun z hz => (HE.out z hz).below hb4); clear hr4 hb4 hz4)
          | (at_builtin; refine Kd.R_append kFV (w0 := w) w.heap.size rfl (.tmp 23) (.tmp 28) 97 TFo (.agg #[.int .i64 0, .int .u64 0, .slice none 0 0]) 40 rfl Try.underlying97 info_found rfl (by decide) (by decide) (.slice A3 zs.length c3) zs ⟨(k : Int), sq, A4, c4, es⟩ [.int .i64 (k : Int), .int .u64 sq, .slice A4 m c4] (fun j => w.heap.size ≤ j) (fun _ => False) rfl (by simp [Act.eval]) (by rw [HM.out]; rfl) (fun _ h => h.elim) (fun j hj => Nat.le_trans HB4.out.size hj) HR4.out HB4.out HB4.out.size (by omega) ?_; intro v1 w5 hr1 hb5 hg hat; have HR5 := Aside0.mk hr1; have HB5 := Aside0.mk hb5; have HE5 := Lib.hid (fun z hz => (HE4.out z hz).grown HR4.out hg); have HZ5 := Lib.hid (HZ4.out.grown HR4.out hg); clear hr1 hb5 hg hat)
          | fail)
        refine ⟨⟨k + 1, zs ++ [⟨(k : Int), sq, A4, c4, es⟩], by omega, by go_num, HR5.out, by rw [HNX.out, List.map_append, HZ.out]; rfl, fun z hz => ?_, HB5.out⟩, by simp [intOf]; omega⟩
        rcases List.mem_append.1 hz with hz | hz
        · exact HE5.out z hz
        · rw [List.mem_singleton.1 hz]; exact HZ5.out
    · obtain rfl : k = n := by omega
      by_cases h0 : 0 < zs.length
      · obtain ⟨g, cap, cs, hv, hcap, hg0, hg1, hgb, hH⟩ := holds_of HR.out h0
        injection hv with e1 e2 e3
        subst e1 e3
        have hso := Sort_some (cap := c3) hH (blt hgb) (by omega)
        have HSO := Lib.hid hso
        have HGB := Lib.hid hgb
        clear hso hH hgb hcap
        go_wp2_with (first
          | (go_at_call 96; (refine HSO.out.mono ?_); rintro e w5 ⟨rfl, zs', hp, hs, hH, hu⟩; have HP := Lib.hid hp; have HS := Lib.hid hs; have HH := Lib.hid hH; have HU := Aside0.mk hu; clear hp hs hH hu)
          | fail)
        go_ret
        refine ⟨some ⟨g, 0, none⟩, c3, zs', by rw [HP.out.length_eq]; rfl, ?_, HS.out, FRow.ofHolds HH.out, fun z hz => (HE.out z (HP.out.mem_iff.1 hz)).upd HGB.out HU.out, HB.out.trans (HU.out.below HB.out.size (fun k hk => by rw [hk]; exact hg1)), fun ad hA _ => by injection hA with hA; rw [← hA]; exact hg1⟩
        rw [HN.out, ← HZ.out]
        exact HP.out.map toT
      · obtain rfl : zs = [] := List.eq_nil_of_length_eq_zero (by omega)
        go_wp2_with (first
          | (go_at_call 96; (refine (Sort_none _ _ _ _).mono ?_); rintro e w5 ⟨rfl, rfl⟩)
          | fail)
        go_ret
        exact ⟨A3, c3, [], rfl, by rw [HN.out, ← HZ.out], List.Pairwise.nil, FRow.nil _ _, fun z hz => by simp at hz, HB.out, fun ad _ h0 => by simp at h0⟩
end
end Go.Proofs.Ytmbiebdcnadhkaa.Fl

/- scan.joined, All, Next: walked. No condition. -/
namespace Go.Proofs.Ytmbiebdcnadhkaa.Fl
open Go.RowKit Go.Proofs.YtmbiebdcnadhkaaW.PrintWords Go.Proofs.YtmbiebdcnadhkaaW.PrintMore Go.Maps
set_option linter.unusedSimpArgs false
set_option linter.unusedVariables false
def joinL (zs : List (FV En)) : List En := zs.flatMap (·.l)
theorem joinL_succ {zs : List (FV En)} {k : Nat} {z : FV En} (h : zs[k]? = some z) : joinL (zs.take (k + 1)) = joinL (zs.take k) ++ z.l := by
  unfold joinL
  rw [List.take_add_one, h, List.flatMap_append]
  simp
theorem joinL_len {zs : List (FV En)} (h : ∀ z ∈ zs, z.l.length ≤ 1000) : (joinL zs).length ≤ 1000 * zs.length := by
  induction zs with
  | nil => simp [joinL]
  | cons z zs ih =>
    have h1 := ih (fun y hy => h y (List.mem_cons_of_mem _ hy))
    have h2 := h z List.mem_cons_self
    unfold joinL at h1 ⊢
    rw [List.flatMap_cons, List.length_append, List.length_cons]
    omega
def JoinPost (w : World) (L : List En) (e : Ending) (w' : World) : Prop :=
  ∃ v, e = .returned v ∧ kEnt.R TE w' 0 (fun _ => True) v L ∧ Below w.heap.size w w'
theorem grown_below {B : Nat} {w W w1 : World} {v : Value} (hb : Below B w W) (hB : B ≤ W.heap.size) (hg : W.grownBy w1 v.ownBlock) (hv : ∀ k, v.ownBlock = some k → B ≤ k) : Below B w w1 :=
  ⟨hg.os.trans hb.os, hg.tape.trans hb.tape, hg.output.trans hb.output, Nat.le_trans hb.size hg.size, fun k hk => (hg.block k (by omega) (fun e => by have := hv k e.symm; omega)).trans (hb.block k hk)⟩
theorem FEnt.rows {base : Nat} {w : World} {z : FV En} (h : FEnt base w z) : ReadsRow (kEnt.M w 0 (fun k => ∃ cs, w.heap[k]? = some (.cells cs TB (0, 0)))) 6 w z.A z.l.length z.l := by
  obtain ⟨A, c, hv, _, hr⟩ := OwnRow.reads h.2
  injection hv with e1 e2 e3
  subst e1 e3
  refine hr.imp_ (Below.refl _ _) (fun x cs hx => ?_)
  refine kEnt.M_mono (fun k hk => ?_) (kEnt.M_bound (kEnt.M_lower (Nat.zero_le base) hx))
  obtain ⟨_, _, _, q, hq, hc⟩ := hk
  obtain rfl : q = TB := by simpa [kEnt] using hq
  exact hc
set_option maxHeartbeats 4000000 in
set_option maxRecDepth 100000 in
theorem Joined_any {w : World} {A : Option Addr} {c B : Nat} {zs : List (FV En)} (hF : FRow w A zs) (hE : ∀ z ∈ zs, FEnt B w z) (hl : zs.length ≤ 100) (hl2 : ∀ z ∈ zs, z.l.length ≤ 1000) :
    Calls Try.prog 90 #[.slice A zs.length c] w (JoinPost w (joinL zs)) := by
  obtain ⟨n, hn⟩ : ∃ n, n = zs.length := ⟨_, rfl⟩
  have htk : zs.take n = zs := List.take_of_length_le (by omega)
  have hjl : ∀ k, k ≤ n → (joinL (zs.take k)).length ≤ 1000 * 100 := fun k hk => by
    have h1 := joinL_len (zs := zs.take k) (fun z hz => hl2 z (List.mem_of_mem_take hz))
    rw [List.length_take] at h1
    have : min k zs.length ≤ 100 := by omega
    have h2 := Nat.mul_le_mul_left 1000 this
    omega
  have HF := Lib.hid hF
  have HE := Lib.hid hE
  have HN := Lib.hid hn
  have HL2 := Lib.hid hl2
  have HJL := Lib.hid hjl
  have HTK := Lib.hid htk
  rw [← hn] at hl
  rw [← hn]
  clear hF hE hn hl2 htk hjl
  go_enter Try.func90, Try.ntmps90
  go_wp2
  go_loopw [3, 8] (fun v3 v8 wr => ∃ (k : Nat), k ≤ n ∧ v8 = .int .i64 (k : Int) ∧ kEnt.R TE wr 0 (fun _ => True) v3 (joinL (zs.take k)) ∧ (∀ j, v3.ownBlock = some j → w.heap.size ≤ j) ∧ Below w.heap.size w wr) (fun _ v8 _ => n - (intOf v8).toNat)
  case atStart => exact ⟨0, Nat.zero_le _, rfl, Kd.R_nil _ _ _ _ _, fun j hj => by simp [Value.ownBlock] at hj, Below.refl _ _⟩
  case round =>
    obtain ⟨k, hk, rfl, hR, hv, hb⟩ := hrel
    obtain ⟨A3, c3, rfl⟩ := Kd.R_slice hR
    have hjk := HJL.out k hk
    obtain ⟨L, hL⟩ : ∃ L, L = joinL (zs.take k) := ⟨_, rfl⟩
    rw [← hL] at hR hv hjk ⊢
    have HLL := Lib.hid hL
    have HR := Aside0.mk hR
    have HV := Lib.hid hv
    have HB := Aside0.mk hb
    clear hR hv hb hL
    by_cases hlt : k < n
    · obtain ⟨z, hz⟩ : ∃ z, zs[k]? = some z := ⟨_, List.getElem?_eq_getElem (by have := HN.out; omega)⟩
      obtain ⟨g, hA, hc⟩ := HF.out k z hz
      have hc := hc.below HB.out
      subst hA
      have d0 := hc.c0; have d1 := hc.c1; have d2 := hc.c2
      have hzl := HL2.out z (List.mem_of_getElem? hz)
      have hze := (HE.out z (List.mem_of_getElem? hz)).below HB.out
      have hnx := joinL_succ hz
      rw [← HLL.out] at hnx
      obtain ⟨zseg, zseq, zA, zc, zl⟩ := z
      obtain ⟨m, hm⟩ : ∃ m, m = zl.length := ⟨_, rfl⟩
      simp only [← hm] at d0 d1 d2 hzl hnx
      obtain ⟨Y, hY⟩ : ∃ Y, Y = wr.alloc (.cells #[.int .i64 zseg, .int .u64 zseq, .slice zA m zc] TFo) := ⟨_, rfl⟩
      have y0 : Y.heap[wr.heap.size]? = some (.cells #[.int .i64 zseg, .int .u64 zseq, .slice zA m zc] TFo (0, 0)) := by rw [hY]; exact blk_new wr _
      have yb : Below wr.heap.size wr Y := by rw [hY]; exact below_alloc (Below.refl _ _) _
      have b2 : Y.cell? ⟨wr.heap.size, 2, none⟩ = some (.slice zA m zc) := bcell y0 2
      have hRY := Kd.R_below HR.out yb
      have hrw := (hze.below yb).rows
      have hmm : L.length + m ≤ 200000 := by omega
      have HM := Lib.hid hm
      have HNX := Lib.hid hnx
      have HY := Lib.hid hY
      have YB := Aside0.mk (HB.out.trans (yb.mono HB.out.size))
      have HRY := Aside0.mk hRY
      have HRW := Lib.hid hrw
      have k0 : (0 : Int) ≤ (k : Int) := by omega
      have k2 : (k : Int) < (n : Int) := by omega
      clear hz hc hze hY y0 yb hRY hrw hm hnx
      go_wp2_with (first
        | (rw [← HY.out])
        | (at_builtin; refine Kd.R_append_rows kEnt (Rr := kEnt.M Y 0 (fun k => ∃ cs, Y.heap[k]? = some (.cells cs TB (0, 0)))) (w0 := Y) 0 rfl (.tmp 12) (.tmp 14) 41 TE (.agg #[.int .i64 0, .int .i64 0, .int .u64 0, .int .i64 0, .int .u8 0, .slice none 0 0]) 64 rfl Try.underlying41 info_ent rfl (by decide) (by decide) (.slice A3 L.length c3) L zl zA m zc (fun _ => True) (fun k => ∃ cs, Y.heap[k]? = some (.cells cs TB (0, 0))) rfl (by simp [Act.eval]) HRY.out (by rw [HM.out]; exact HRW.out) (fun _ _ h => h) (fun k hk => ⟨trivial, by obtain ⟨cs, hc⟩ := hk; exact Kd.R_ne HRY.out hc (by decide)⟩) (fun _ _ => trivial) (Below.refl _ _) (Nat.zero_le _) (by omega) ?_; intro v1 w5 hr1 _ hg hat; have HR5 := Aside0.mk hr1; have HB5 := Aside0.mk (grown_below YB.out YB.out.size hg HV.out); have HV5 := Lib.hid (show ∀ j, v1.ownBlock = some j → w.heap.size ≤ j from fun j hj => hat.elim (fun e => HV.out j (by rw [← e]; exact hj)) (fun ⟨b, e, hb⟩ => by rw [e] at hj; injection hj with hj; have := YB.out.size; omega)); clear hr1 hg hat)
        | fail)
      exact ⟨⟨k + 1, by omega, by go_num, by rw [HNX.out]; exact HR5.out, HV5.out, HB5.out⟩, by simp [intOf]; omega⟩
    · obtain rfl : k = n := by omega
      go_wp2
      go_ret
      exact ⟨_, rfl, by rw [← HTK.out, ← HLL.out]; exact HR.out, HB.out⟩
/-- What segments are found, in order. -/
def FoundOf (D : PD) (zs : List (FV En)) : Prop := (zs.map toT).Perm (segsL D D.s.1.toNat) ∧ SortedF zs
theorem FoundOf.len {D : PD} {zs : List (FV En)} (h : FoundOf D zs) (hs : ShapeOk D.s) : zs.length ≤ 16 := by
  have h1 := h.1.length_eq
  have h2 := segsL_len D D.s.1.toNat
  rw [List.length_map] at h1
  have := hs.a1
  omega
theorem FoundOf.mem {D : PD} {zs : List (FV En)} (h : FoundOf D zs) {z : FV En} (hz : z ∈ zs) : ∃ i : Nat, i < D.s.1.toNat ∧ (scanD D (i : Int)).2.2 = true ∧ z.seg = (i : Int) ∧ z.seq = (scanD D (i : Int)).1 ∧ z.l = (scanD D (i : Int)).2.1 := by
  have h1 : toT z ∈ segsL D D.s.1.toNat := h.1.mem_iff.1 (List.mem_map_of_mem hz)
  unfold segsL at h1
  rw [List.mem_filterMap] at h1
  obtain ⟨i, hi, h2⟩ := h1
  unfold segF at h2
  split at h2
  · rename_i h3
    injection h2 with h2
    injection h2 with e1 e2
    injection e2 with e2 e3
    exact ⟨i, by simpa using hi, h3, e1.symm, e2.symm, e3.symm⟩
  · cases h2
theorem scanD_len (D : PD) (a : Int) : (scanD D a).2.1.length ≤ 64 := by
  unfold scanD scanL
  split
  · simp
  · have : ∀ (f : Nat) (E : Int → En × Int) (n sq page : Int), (scanF E n sq f page).length ≤ f := by
      intro f
      induction f with
      | zero => intro E n sq page; simp [scanF]
      | succ f ih =>
        intro E n sq page
        unfold scanF
        split
        · split
          · simp
          · have := ih E n sq (page + (E page).1.pages)
            simp
            omega
        · simp
    exact this _ _ _ _ _
theorem FoundOf.small {D : PD} {zs : List (FV En)} (h : FoundOf D zs) : ∀ z ∈ zs, z.l.length ≤ 1000 := fun z hz => by
  obtain ⟨i, _, _, _, _, h2⟩ := h.mem hz
  have := scanD_len D (i : Int)
  rw [h2]
  omega
def AllPost (w : World) (D : PD) (e : Ending) (w' : World) : Prop :=
  ∃ v zs, e = .returned v ∧ FoundOf D zs ∧ kEnt.R TE w' 0 (fun _ => True) v (joinL zs) ∧ Below w.heap.size w w'
set_option maxHeartbeats 4000000 in
set_option maxRecDepth 100000 in
theorem All_any {N0 p : Nat} {D : PD} {w : World} {ok : Nat → Prop} (hD : DevIs N0 p D ok w) (hby : BytD D) : Calls Try.prog 86 #[.pointer (some ⟨p, 0, none⟩)] w (AllPost w D) := by
  have hsg := Segments_any hD hby
  have hs := hD.sound.sh
  have HSG := Lib.hid hsg
  have HS := Lib.hid hs
  clear hsg hD hs
  go_enter Try.func86, Try.ntmps86
  go_wp2_with (first
    | (go_at_call 51; (with_reducible refine HSG.out.mono ?_); rintro e w1 ⟨A, c, zs, rfl, hp, hs, hF, hE, hb, -⟩; have HP := Lib.hid (show FoundOf D zs from ⟨hp, hs⟩); have HJ := Lib.hid (Joined_any (c := c) hF hE (by have := (show FoundOf D zs from ⟨hp, hs⟩).len HS.out; omega) (show FoundOf D zs from ⟨hp, hs⟩).small); have HB := Aside0.mk hb; clear hp hs hF hE hb)
    | (go_at_call 90; (with_reducible refine HJ.out.mono ?_); rintro e w2 ⟨v, rfl, hr, hb⟩; obtain ⟨A9, c9, hv9⟩ := Kd.R_slice hr; subst hv9; have HR := Aside0.mk hr; have HB2 := Aside0.mk (HB.out.trans (hb.mono HB.out.size)); clear hr hb)
    | fail)
  go_ret
  exact ⟨_, zs, rfl, HP.out, HR.out, HB2.out⟩
/-! ### Next -/
def maxL (l : List Int) : Int := l.foldl (fun m x => if m < x then x else m) 0
theorem maxL_snoc (l : List Int) (x : Int) : maxL (l ++ [x]) = if maxL l < x then x else maxL l := by
  unfold maxL
  rw [List.foldl_append]
  rfl
def nextV (l : List Int) : Int := if maxL l = 18446744073709551615 then maxL l else maxL l + 1
theorem maxL_bd {l : List Int} (h : ∀ x ∈ l, 0 ≤ x ∧ x ≤ 18446744073709551615) : 0 ≤ maxL l ∧ maxL l ≤ 18446744073709551615 := by
  have : ∀ (l : List Int) (m : Int), 0 ≤ m ∧ m ≤ 18446744073709551615 → (∀ x ∈ l, 0 ≤ x ∧ x ≤ 18446744073709551615) → 0 ≤ l.foldl (fun m x => if m < x then x else m) m ∧ l.foldl (fun m x => if m < x then x else m) m ≤ 18446744073709551615 := by
    intro l
    induction l with
    | nil => intro m hm _; exact hm
    | cons x l ih =>
      intro m hm hl
      refine ih _ ?_ (fun y hy => hl y (List.mem_cons_of_mem _ hy))
      have := hl x List.mem_cons_self
      show 0 ≤ (if m < x then x else m) ∧ (if m < x then x else m) ≤ 18446744073709551615
      split <;> omega
  exact this l 0 (by omega) h
set_option maxHeartbeats 4000000 in
set_option maxRecDepth 100000 in
theorem Next_any {w : World} {A : Option Addr} {c : Nat} {zs : List (FV En)} (hF : FRow w A zs) (hl : zs.length ≤ 1000) (hq : ∀ z ∈ zs, 0 ≤ z.seq ∧ z.seq ≤ 18446744073709551615) :
    Calls Try.prog 89 #[.slice A zs.length c] w fun e w' => e = .returned (.int .u64 (nextV (zs.map (·.seq)))) ∧ Below w.heap.size w w' := by
  obtain ⟨n, hn⟩ : ∃ n, n = zs.length := ⟨_, rfl⟩
  have hmx : ∀ k, k ≤ n → 0 ≤ maxL ((zs.take k).map (·.seq)) ∧ maxL ((zs.take k).map (·.seq)) ≤ 18446744073709551615 := fun k hk => maxL_bd (fun x hx => by
    obtain ⟨z, hz, rfl⟩ := List.mem_map.1 hx
    exact hq z (List.mem_of_mem_take hz))
  have htk : zs.take n = zs := List.take_of_length_le (by omega)
  have HF := Lib.hid hF
  have HN := Lib.hid hn
  have HMX := Lib.hid hmx
  have HTK := Lib.hid htk
  rw [← hn] at hl
  rw [← hn]
  clear hF hn hmx htk hq
  go_enter Try.func89, Try.ntmps89
  go_wp2
  go_loopw [3, 8] (fun v3 v8 wr => ∃ (k : Nat), k ≤ n ∧ v8 = .int .i64 (k : Int) ∧ v3 = .int .u64 (maxL ((zs.take k).map (·.seq))) ∧ Below w.heap.size w wr) (fun _ v8 _ => n - (intOf v8).toNat)
  case atStart => exact ⟨0, Nat.zero_le _, rfl, rfl, Below.refl _ _⟩
  case round =>
    obtain ⟨k, hk, rfl, rfl, hb⟩ := hrel
    obtain ⟨M, hM⟩ : ∃ M, M = maxL ((zs.take k).map (·.seq)) := ⟨_, rfl⟩
    have hmk := HMX.out k hk
    rw [← hM] at hmk ⊢
    obtain ⟨m0, m1⟩ := hmk
    have HMM := Lib.hid hM
    have HB := Aside0.mk hb
    clear hb hM
    by_cases hlt : k < n
    · obtain ⟨z, hz⟩ : ∃ z, zs[k]? = some z := ⟨_, List.getElem?_eq_getElem (by have := HN.out; omega)⟩
      obtain ⟨g, hA, hc⟩ := HF.out k z hz
      have hc := hc.below HB.out
      subst hA
      have d0 := hc.c0; have d1 := hc.c1; have d2 := hc.c2
      have hnx : maxL ((zs.take (k + 1)).map (·.seq)) = if M < z.seq then z.seq else M := by
        rw [List.take_add_one, hz, List.map_append, HMM.out]
        exact maxL_snoc _ _
      obtain ⟨zseg, zseq, zA, zc, zl⟩ := z
      obtain ⟨m, hm⟩ : ∃ m, m = zl.length := ⟨_, rfl⟩
      simp only [← hm] at d0 d1 d2 hnx
      have k0 : (0 : Int) ≤ (k : Int) := by omega
      have k2 : (k : Int) < (n : Int) := by omega
      by_cases hx : M < zseq
      · rw [if_pos hx] at hnx
        have HNX := Lib.hid hnx
        have emx : (if M < zseq then zseq else M) = zseq := if_pos hx
        have emx2 : max M zseq = zseq := Int.max_eq_right (by omega)
        clear hz hc hm hnx
        go_wp2
        exact ⟨⟨k + 1, by omega, by go_num, by rw [HNX.out], below_alloc HB.out _⟩, by simp [intOf]; omega⟩
      · rw [if_neg hx] at hnx
        have HNX := Lib.hid hnx
        have emx : (if M < zseq then zseq else M) = M := if_neg hx
        have emx2 : max M zseq = M := Int.max_eq_left (by omega)
        clear hz hc hm hnx
        go_wp2
        exact ⟨⟨k + 1, by omega, by go_num, by rw [HNX.out], below_alloc HB.out _⟩, by simp [intOf]; omega⟩
    · obtain rfl : k = n := by omega
      have hnv : nextV (zs.map (·.seq)) = if M = 18446744073709551615 then M else M + 1 := by
        unfold nextV
        rw [HMM.out, HTK.out]
      have HNV := Lib.hid hnv
      clear hnv
      by_cases hx : M = 18446744073709551615
      · have e1 : (M == 18446744073709551615) = true := by simpa using hx
        have HX := Lib.hid hx
        clear hx
        go_wp2
        go_ret
        exact ⟨by rw [HNV.out, if_pos HX.out]; rfl, HB.out⟩
      · have e1 : (M == 18446744073709551615) = false := by simpa using hx
        have HX := Lib.hid hx
        have ew : IntKind.u64.wrap (M + 1) = M + 1 := IntWalk.u64_in _ (by omega)
        clear hx
        go_wp2
        go_ret
        exact ⟨by rw [HNV.out, if_neg HX.out]; rfl, HB.out⟩
end Go.Proofs.Ytmbiebdcnadhkaa.Fl

/- A device alone in memory; chapter 14's example: walked. No condition. -/
namespace Go.Proofs.Ytmbiebdcnadhkaa.Fl
open Go.RowKit Go.Proofs.YtmbiebdcnadhkaaW.PrintWords Go.Proofs.YtmbiebdcnadhkaaW.PrintMore Go.Maps
set_option linter.unusedSimpArgs false
set_option linter.unusedVariables false
/-- One device above N0; blocks of K stay as they are when it is written. -/
def Solo (N0 p : Nat) (K : Nat → Prop) (D : PD) (w : World) : Prop :=
  ∃ ok : Nat → Prop, DevIs N0 p D ok w ∧ (∀ k, ok k → N0 ≤ k) ∧ N0 ≤ w.heap.size ∧ (∀ k, K k → k < w.heap.size ∧ (¬ ok k ∨ ∃ cs fr, w.heap[k]? = some (.cells cs TB fr)))
theorem solo_frame (N0 p : Nat) : DevFrame N0 p (Solo N0 p) where
  dev := fun h => by
    obtain ⟨ok, hD, _⟩ := h
    exact ⟨ok, hD⟩
  keep := fun {K D w w'} h hb => by
    obtain ⟨ok, hD, h1, h0, hK⟩ := h
    refine ⟨_, hD.bound.below hb, fun k h => h1 k h.1, Nat.le_trans h0 hb.size, fun k hk => ?_⟩
    rcases hk with hk | hk
    · exact ⟨Nat.lt_of_lt_of_le (hK k hk).1 hb.size, (hK k hk).2.imp (fun h2 h => h2 h.1) (fun ⟨cs, fr, e⟩ => ⟨cs, fr, (hb.block k (hK k hk).1).trans e⟩)⟩
    · exact ⟨hk.2, .inl (fun h => by have := h.2.2; omega)⟩
  less := fun h hk => by
    obtain ⟨ok, hD, h1, h0, hK⟩ := h
    exact ⟨ok, hD, h1, h0, fun k h => hK k (hk k h)⟩
  upd := fun {K D D' w f args res} h hc => by
    obtain ⟨ok, hD, h1, h0, hK⟩ := h
    refine (hc ok hD).mono fun e w1 ⟨he, hD1, hu⟩ => ⟨he, ⟨_, hD1, ?_, ?_, ?_⟩, upd_below hu h0 h1, fun k hk => hu.block k (hK k hk).1 (fun h => (hK k hk).2.elim (fun h2 => h2 h.1) (fun ⟨cs, fr, e⟩ => h.2 cs fr e))⟩
    · exact fun k hk => hk.elim (h1 k) (fun h => Nat.le_trans h0 h)
    · exact Nat.le_trans h0 hu.size
    · exact fun k hk => ⟨Nat.lt_of_lt_of_le (hK k hk).1 hu.size, (hK k hk).2.elim (fun h2 => .inl (fun h => h.elim h2 (fun h => by have := (hK k hk).1; omega))) (fun ⟨cs, fr, e⟩ => .inr ⟨cs, fr, (hu.block k (hK k hk).1 (fun h => h.2 cs fr e)).trans e⟩)⟩
  size := fun h => by
    obtain ⟨ok, hD, h1, h0, hK⟩ := h
    exact h0
  lt := fun h k hk => by
    obtain ⟨ok, hD, h1, h0, hK⟩ := h
    exact (hK k hk).1
theorem Solo.new {N0 p : Nat} {D : PD} {w w1 : World} (hN : N0 ≤ w.heap.size) (hD : DevIs N0 p D (fun k => w.heap.size ≤ k) w1) (hb : Below w.heap.size w w1) : Solo N0 p (fun _ => False) D w1 :=
  ⟨_, hD, fun k hk => Nat.le_trans hN hk, Nat.le_trans hN hb.size, fun _ h => h.elim⟩
/-! ### Bytes stay bytes -/
theorem BytD.new (s : Int × Int × Int) : BytD ⟨s, [], []⟩ := fun a b => by
  unfold gotD
  split
  · exact Byt.full Byt.nil
  · exact Byt.nil
theorem writeE_inv {D : PD} {a b : Int} {l : List Int} (h : writeE D a b l = 0) : hasB D.s a b = true ∧ (l.length : Int) ≤ D.s.2.2 ∧ usedB D a b = false := by
  unfold writeE at h
  by_cases h1 : hasB D.s a b = false
  · rw [if_pos h1] at h; cases h
  · rw [if_neg h1] at h
    by_cases h2 : D.s.2.2 < (l.length : Int)
    · rw [if_pos h2] at h; cases h
    · rw [if_neg h2] at h
      by_cases h3 : usedB D a b = true
      · rw [if_pos h3] at h; cases h
      · exact ⟨by simpa using h1, by omega, by simpa using h3⟩
theorem BytD.write {D : PD} (h : BytD D) (a b : Int) {l : List Int} (hl : Byt l) : BytD (writeD D a b l) := by
  by_cases h0 : writeE D a b l = 0
  · obtain ⟨h1, h2, h3⟩ := writeE_inv h0
    intro c d
    rw [got_write h1 h2 h3]
    split
    · exact Byt.full hl
    · exact h c d
  · unfold writeD
    rw [if_neg h0]
    exact h
theorem BytD.wr (a : Int) : ∀ (rs : List (List Int)) (b : Int) (D : PD), BytD D → (∀ r ∈ rs, Byt r) → BytD (wrD a b rs D)
  | [], _, _, h, _ => h
  | r :: rs, b, D, h, k => BytD.wr a rs (b + 1) _ (h.write a b (k r (by simp))) (fun q hq => k q (by simp [hq]))
theorem BytD.app {D : PD} (hs : ShapeOk D.s) (h : BytD D) (a b : Int) (n : Nat) {bs : List Int} (hb : Byt bs) : BytD (appD D a b n bs) := by
  unfold appD
  split
  · exact BytD.wr a _ b D h (chunk_byt (by have := nb_pos hs; omega) hb)
  · exact h
/-! ### The example -/
theorem C_one7 {w : World} {g : Nat} (h : w.cell? ⟨g, 0, none⟩ = some (.int .u8 7)) : kB.C w (some ⟨g, 0, none⟩) [(7 : Int)].length [7] := by
  refine Kd.C_of_reads (d := 0) ⟨rfl, by simp, fun _ => ⟨_, rfl, fun j hj => ?_⟩⟩
  have : j = 0 := by simp at hj; exact hj
  subst this
  exact h
end Go.Proofs.Ytmbiebdcnadhkaa.Fl

/- The document's Append: walked, whatever stands round the device. No condition. -/
namespace Go.Proofs.Ytmbiebdcnadhkaa.Fl
open Go.RowKit Go.Proofs.YtmbiebdcnadhkaaW.PrintWords Go.Proofs.YtmbiebdcnadhkaaW.PrintMore Go.Maps
set_option linter.unusedSimpArgs false
set_option linter.unusedVariables false
section
variable {N0 x : Nat} {s : Int × Int × Int} {G : (Nat → Prop) → List Pg → World → Prop} {K : Nat → Prop} {ps : List Pg} {w : World} {A : Option Addr} {c : Nat} {l : List Int} {kind seq : Int}
end
end Go.Proofs.Ytmbiebdcnadhkaa.Fl

/- A slice of records, its cells; Few: walked. No condition. -/
namespace Go.Proofs.Ytmbiebdcnadhkaa.Fl
open Go.RowKit Go.Proofs.YtmbiebdcnadhkaaW.PrintWords Go.Proofs.YtmbiebdcnadhkaaW.PrintMore Go.Maps
set_option linter.unusedSimpArgs false
set_option linter.unusedVariables false
structure RecT where
  seg : Int
  page : Int
  seq : Int
  kind : Int
  l : List Int
/-! ### The pages that an append adds -/
theorem appP_len {s : Int × Int × Int} (hs : ShapeOk s) (ps : List Pg) (a b : Int) (n : Nat) {bs : List Int} (hb : bs.length = n + 16) : (appP s ps a b n bs).length ≤ ps.length + 257 := by
  unfold appP
  split
  · rename_i h
    have h1 := wrP_len s a (chunkL s.2.2.toNat bs) b ps
    have h2 := chunk_len (n := s.2.2.toNat) (by have := nb_pos hs; omega) bs
    have h3 : n ≤ 4096 := by
      unfold appR at h
      by_cases h1 : hasB s a b = false
      · rw [if_pos h1] at h; cases h
      · rw [if_neg h1] at h
        by_cases h2 : 4096 < n
        · rw [if_pos h2] at h; cases h
        · omega
    have h4 := kpg_bd hs h3
    unfold kpg at h4
    rw [hb] at h2
    omega
  · omega
theorem BytP.app {s : Int × Int × Int} (hs : ShapeOk s) {ps : List Pg} (h : BytP ps) (a b : Int) (n : Nat) {bs : List Int} (hb : Byt bs) : BytP (appP s ps a b n bs) := by
  unfold appP
  split
  · exact h.wr a _ b ps (chunk_byt (by have := nb_pos hs; omega) hb)
  · exact h
end Go.Proofs.Ytmbiebdcnadhkaa.Fl

/- SegmentPuts: walked. No condition but what every argument brings. -/
namespace Go.Proofs.Ytmbiebdcnadhkaa.Fl
open Go.RowKit Go.Proofs.YtmbiebdcnadhkaaW.PrintWords Go.Proofs.YtmbiebdcnadhkaaW.PrintMore Go.Maps
set_option linter.unusedSimpArgs false
set_option linter.unusedVariables false
end Go.Proofs.Ytmbiebdcnadhkaa.Fl

/- The document's Raw: walked. -/
namespace Go.Proofs.Ytmbiebdcnadhkaa.Fl
open Go.RowKit Go.Proofs.YtmbiebdcnadhkaaW.PrintWords Go.Proofs.YtmbiebdcnadhkaaW.PrintMore Go.Maps
set_option linter.unusedSimpArgs false
set_option linter.unusedVariables false
section
variable {N0 x : Nat} {s : Int × Int × Int} {ps : List Pg} {w : World} {ok : Nat → Prop}
end
end Go.Proofs.Ytmbiebdcnadhkaa.Fl

/- The document's Entry: walked. -/
namespace Go.Proofs.Ytmbiebdcnadhkaa.Fl
open Go.RowKit Go.Proofs.YtmbiebdcnadhkaaW.PrintWords Go.Proofs.YtmbiebdcnadhkaaW.PrintMore Go.Maps
set_option linter.unusedSimpArgs false
set_option linter.unusedVariables false
section
variable {N0 x : Nat} {s : Int × Int × Int} {ps : List Pg} {w : World} {ok : Nat → Prop}
end
end Go.Proofs.Ytmbiebdcnadhkaa.Fl

/- The document's Scan: walked. -/
namespace Go.Proofs.Ytmbiebdcnadhkaa.Fl
open Go.RowKit Go.Proofs.YtmbiebdcnadhkaaW.PrintWords Go.Proofs.YtmbiebdcnadhkaaW.PrintMore Go.Maps
set_option linter.unusedSimpArgs false
set_option linter.unusedVariables false
section
variable {N0 x : Nat} {s : Int × Int × Int} {ps : List Pg} {w : World} {ok : Nat → Prop}
end
end Go.Proofs.Ytmbiebdcnadhkaa.Fl

/- Clean, Fits of any number, and entries compared: walked. -/
namespace Go.Proofs.Ytmbiebdcnadhkaa.Fl
open Go.RowKit Go.Proofs.YtmbiebdcnadhkaaW.PrintWords Go.Proofs.YtmbiebdcnadhkaaW.PrintMore Go.Maps
set_option linter.unusedSimpArgs false
set_option linter.unusedVariables false
end Go.Proofs.Ytmbiebdcnadhkaa.Fl

/- Entries compared, and Clean: walked. -/
namespace Go.Proofs.Ytmbiebdcnadhkaa.Fl
open Go.RowKit Go.Proofs.YtmbiebdcnadhkaaW.PrintWords Go.Proofs.YtmbiebdcnadhkaaW.PrintMore Go.Maps
set_option linter.unusedSimpArgs false
set_option linter.unusedVariables false
end Go.Proofs.Ytmbiebdcnadhkaa.Fl

/- Slices of entries compared, and Clean: walked. -/
namespace Go.Proofs.Ytmbiebdcnadhkaa.Fl
open Go.RowKit Go.Proofs.YtmbiebdcnadhkaaW.PrintWords Go.Proofs.YtmbiebdcnadhkaaW.PrintMore Go.Maps
set_option linter.unusedSimpArgs false
set_option linter.unusedVariables false
structure ECell (w : World) (g i : Nat) (e : En) (A : Option Addr) (c : Nat) : Prop where
  c0 : w.cell? ⟨g, i * 6, none⟩ = some (.int .i64 e.a)
  c1 : w.cell? ⟨g, i * 6 + 1, none⟩ = some (.int .i64 e.b)
  c2 : w.cell? ⟨g, i * 6 + 2, none⟩ = some (.int .u64 e.seq)
  c3 : w.cell? ⟨g, i * 6 + 3, none⟩ = some (.int .i64 e.pages)
  c4 : w.cell? ⟨g, i * 6 + 4, none⟩ = some (.int .u8 e.kind)
  c5 : w.cell? ⟨g, i * 6 + 5, none⟩ = some (.slice A e.data.length c)
  row : kB.C w A e.data.length e.data
  cap : e.data.length ≤ c
def ERow (w : World) (A : Option Addr) (l : List En) : Prop := ∀ (i : Nat) (e : En), l[i]? = some e → ∃ g A1 c1, A = some ⟨g, 0, none⟩ ∧ ECell w g i e A1 c1
theorem ERow.take {w : World} {A : Option Addr} {l : List En} (h : ERow w A l) (k : Nat) : ERow w A (l.take k) := fun i e hi => by
  rw [List.getElem?_take] at hi
  split at hi
  · exact h i e hi
  · cases hi
/-- Whether no page of a segment is used. -/
def cleanD (D : PD) (a : Int) : Bool := hasB D.s a 0 && (List.range D.s.2.1.toNat).all fun i => !usedB D a (i : Int)
section
variable {N0 p : Nat} {D : PD} {w : World} {ok : Nat → Prop}
set_option maxHeartbeats 2000000 in
set_option maxRecDepth 100000 in
theorem Clean_any (hD : DevIs N0 p D ok w) (a : Int) : Calls Try.prog 45 #[.pointer (some ⟨p, 0, none⟩), .int .i64 a] w fun e w' => e = .returned (.bool (cleanD D a)) ∧ Below w.heap.size w w' := by
  have hs : ShapeOk D.s := by
    obtain ⟨m, v, es, ck, hD⟩ := hD
    exact hD.shape
  have hth := there_any hD a 0
  have hshape := fun (X : World) (hX : Below w.heap.size w X) => Shape_any (hD.below hX)
  have hus := fun (X : World) (hX : Below w.heap.size w X) (y : Int) => Used_any (hD.below hX) a y
  obtain ⟨n, hn⟩ := Int.eq_ofNat_of_zero_le (show 0 ≤ D.s.2.1 by have := hs.b0; omega)
  have hn1 : n ≤ 64 := by have := hs.b1; omega
  have hcl : cleanD D a = (hasB D.s a 0 && (List.range n).all fun i => !usedB D a (i : Int)) := by unfold cleanD; rw [hn]; rfl
  rw [hcl]
  rw [hn] at hshape
  have HTH := Lib.hid hth
  have HSHP := Lib.hid hshape
  have HUS := Lib.hid hus
  clear hth hshape hus hs hD hcl hn
  cases hb : hasB D.s a 0 with
  | false =>
    have HTE := Lib.hid (show hasE D.s a 0 = 6 by unfold hasE; rw [hb]; rfl)
    clear hb
    go_enter Try.func45, Try.ntmps45
    go_wp2_with (go_at_call 54; (with_reducible refine HTH.out.mono ?_); rw [HTE.out]; rintro e w1 ⟨rfl, hb⟩; have HB1 := Aside0.mk hb; clear hb)
    go_ret
    exact ⟨rfl, HB1.out⟩
  | true =>
    have HTE := Lib.hid (show hasE D.s a 0 = 0 by unfold hasE; rw [hb]; rfl)
    clear hb
    go_enter Try.func45, Try.ntmps45
    have rs := fun (X : World) => run_shape2 X D.s.1 (n : Int) D.s.2.2
    go_wp2_with (first
      | (go_at_call 54; (with_reducible refine HTH.out.mono ?_); rw [HTE.out]; rintro e w1 ⟨rfl, hb⟩; have HB1 := Aside0.mk hb; clear hb)
      | (go_at_call 56; (with_reducible refine (HSHP.out _ HB1.out).mono ?_); rintro e w2 ⟨rfl, hb2⟩; have HB2 := Aside0.mk (HB1.out.trans (hb2.mono HB1.out.size)); clear hb2))
    go_loopw [5, 13] (fun v5 v13 wr => ∃ k : Nat, k ≤ n ∧ v13 = .int .i64 (k : Int) ∧ ((List.range k).all fun i => !usedB D a (i : Int)) = true ∧ Below w.heap.size w wr) (fun _ v13 _ => n - (intOf v13).toNat)
    case atStart => exact ⟨0, Nat.zero_le _, rfl, rfl, HB2.out⟩
    case round =>
      obtain ⟨k, hk, rfl, hal, hb⟩ := hrel
      have HBW := Aside0.mk hb
      have HAL := Lib.hid hal
      clear hb hal
      by_cases hlt : k < n
      · have k0 : (0 : Int) ≤ (k : Int) := by omega
        have k2 : (k : Int) < (n : Int) := by omega
        cases hu : usedB D a (k : Int) with
        | true =>
          have HU := Lib.hid hu
          have HF := Lib.hid (show ((List.range n).all fun i => !usedB D a (i : Int)) = false by
            rw [List.all_eq_false]
            exact ⟨k, List.mem_range.2 hlt, by rw [hu]; decide⟩)
          clear hu
          go_wp2_with (go_at_call 58; (with_reducible refine (HUS.out _ HBW.out _).mono ?_); rw [HU.out]; rintro e w3 ⟨rfl, rfl⟩)
          go_ret
          rw [HF.out]
          exact ⟨rfl, HBW.out⟩
        | false =>
          have HU := Lib.hid hu
          clear hu
          go_wp2_with (go_at_call 58; (with_reducible refine (HUS.out _ HBW.out _).mono ?_); rw [HU.out]; rintro e w3 ⟨rfl, rfl⟩)
          exact ⟨⟨k + 1, by omega, by go_num, by rw [List.range_succ, List.all_append, HAL.out]; simp [HU.out], HBW.out⟩, by simp [intOf]; omega⟩
      · obtain rfl : k = n := by omega
        go_wp2
        go_ret
        rw [HAL.out]
        exact ⟨rfl, HBW.out⟩
end
end Go.Proofs.Ytmbiebdcnadhkaa.Fl

/- What the two devices, alike, say of a segment: the same. No program in sight. -/
namespace Go.Proofs.Ytmbiebdcnadhkaa.Fl
open Go.RowKit Go.Proofs.YtmbiebdcnadhkaaW.PrintWords Go.Proofs.YtmbiebdcnadhkaaW.PrintMore Go.Maps
set_option linter.unusedSimpArgs false
set_option linter.unusedVariables false
section
variable {D : PD} {s : Int × Int × Int} {ps : List Pg}
end
end Go.Proofs.Ytmbiebdcnadhkaa.Fl

/- Taken: the document's device that has what a device has: walked. -/
namespace Go.Proofs.Ytmbiebdcnadhkaa.Fl
open Go.RowKit Go.Proofs.YtmbiebdcnadhkaaW.PrintWords Go.Proofs.YtmbiebdcnadhkaaW.PrintMore Go.Maps
set_option linter.unusedSimpArgs false
set_option linter.unusedVariables false
/-- E has the pages of D that v has. -/
structure Snap (D E : PD) (v : Int → Int → Prop) : Prop where
  sh : E.s = D.s
  used : ∀ c d, usedB E c d = true ↔ (usedB D c d = true ∧ v c d)
  got : ∀ c d, usedB E c d = true → gotD E c d = gotD D c d
theorem used_has {D : PD} {c d : Int} (h : usedB D c d = true) : hasB D.s c d = true := by
  unfold usedB at h
  rw [Bool.and_eq_true] at h
  exact h.1
theorem got_len {D : PD} (hs : Sound D) {c d : Int} (h : hasB D.s c d = true) : (gotD D c d).length = D.s.2.2.toNat := by
  unfold gotD readD numB
  rw [if_pos h, full_length (look_len hs.lens _)]
theorem Snap.step {D E : PD} {v : Int → Int → Prop} (hs : Sound D) (h : Snap D E v) {a b : Int} (hu : usedB D a b = true) (hv : ¬ v a b) : Snap D (writeD E a b (gotD D a b)) (fun c d => v c d ∨ (c = a ∧ d = b)) := by
  have hh := used_has hu
  have hl := got_len hs hh
  have hle : ((gotD D a b).length : Int) ≤ E.s.2.2 := by rw [hl, h.sh]; have := hs.sh.c0; omega
  have hh2 : hasB E.s a b = true := by rw [h.sh]; exact hh
  have hu2 : usedB E a b = false := by
    cases he : usedB E a b with
    | false => rfl
    | true => exact absurd ((h.used a b).1 he).2 hv
  refine ⟨by rw [writeD_s]; exact h.sh, fun c d => ?_, fun c d hcd => ?_⟩
  · rw [used_write hh2 hle hu2, Bool.or_eq_true, decide_eq_true_iff, h.used]
    constructor
    · rintro (⟨rfl, rfl⟩ | ⟨h1, h2⟩)
      · exact ⟨hu, .inr ⟨rfl, rfl⟩⟩
      · exact ⟨h1, .inl h2⟩
    · rintro ⟨h1, h2 | h2⟩
      · exact .inr ⟨h1, h2⟩
      · exact .inl h2
  · rw [got_write hh2 hle hu2]
    split
    · rename_i he
      rw [he.1, he.2, h.sh]
      exact full_self hl
    · rename_i he
      rw [used_write hh2 hle hu2, Bool.or_eq_true, decide_eq_true_iff] at hcd
      exact h.got c d (hcd.resolve_left he)
/-- Taken's device half made. -/
def TInv (w : World) (z : Nat) (D : PD) (n : Nat) (v : Int → Int → Prop) (wr : World) : Prop :=
  ∃ E ps okx, RefIs w.heap.size (z + 1) D.s ps okx wr ∧ Sim E D.s ps ∧ BytP ps ∧ Snap D E v ∧ ps.length ≤ n ∧ (∀ k, okx k → z < k) ∧ wr.heap[z]? = some (.cells #[.int .i64 D.s.1, .int .i64 D.s.2.1, .int .i64 D.s.2.2] 23 (0, 0)) ∧ Below w.heap.size w wr
theorem TInv.cells {w : World} {z : Nat} {D : PD} {n : Nat} {v : Int → Int → Prop} {wr : World} (h : TInv w z D n v wr) : wr.cell? ⟨z, 0, none⟩ = some (.int .i64 D.s.1) ∧ wr.cell? ⟨z, 1, none⟩ = some (.int .i64 D.s.2.1) ∧ wr.cell? ⟨z, 2, none⟩ = some (.int .i64 D.s.2.2) := by
  obtain ⟨E, ps, okx, h1, h2, h3, h4, h5, h6, h7, h8⟩ := h
  exact ⟨bcell h7 0, bcell h7 1, bcell h7 2⟩
section
variable {N0 p : Nat} {D : PD} {w : World} {ok : Nat → Prop}
end
end Go.Proofs.Ytmbiebdcnadhkaa.Fl

/- same and Clash: walked. -/
namespace Go.Proofs.Ytmbiebdcnadhkaa.Fl
open Go.RowKit Go.Proofs.YtmbiebdcnadhkaaW.PrintWords Go.Proofs.YtmbiebdcnadhkaaW.PrintMore Go.Maps
set_option linter.unusedSimpArgs false
set_option linter.unusedVariables false
section
variable {N0 N1 x y : Nat} {s : Int × Int × Int} {ps qs : List Pg} {w : World} {okX okY : Nat → Prop}
end
end Go.Proofs.Ytmbiebdcnadhkaa.Fl

