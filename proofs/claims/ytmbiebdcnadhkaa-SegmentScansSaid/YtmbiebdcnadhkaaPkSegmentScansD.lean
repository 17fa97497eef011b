import Derived.Test.YtmbiebdcnadhkaaPkSegmentScansC
import Derived.IntWalk
import Derived.Test.YtmbiebdcnadhkaaPkSegmentScansA
import Derived.Lib.MinMax
import Derived.ProofKit
import Derived.Lib.SmallJoins
import Derived.Test.YtmbiebdcnadhkaaWMore
import Derived.Test.YtmbiebdcnadhkaaPkSegmentScansB
import Derived.Deep.Slices
namespace Go.Proofs.Ytmbiebdcnadhkaa.Fl
open Go.RowKit Go.Proofs.YtmbiebdcnadhkaaW.PrintWords Go.Proofs.YtmbiebdcnadhkaaW.PrintMore Go.Maps
set_option linter.unusedSimpArgs false
set_option linter.unusedVariables false
def nRaw (s : Int × Int × Int) (a b : Int) : Nat := if 0 ≤ a ∧ a < s.1 ∧ 0 ≤ b ∧ b < s.2.1 then (s.2.1 - b).toNat else 0
def rawK (D : PD) (a b : Int) (k : Nat) : List Int := (List.range k).flatMap fun (i : Nat) => gotD D a (b + (i : Int))
def rawD (D : PD) (a b : Int) : List Int := rawK D a b (nRaw D.s a b)
theorem rawK_succ (D : PD) (a b : Int) (k : Nat) : rawK D a b (k + 1) = rawK D a b k ++ gotD D a (b + (k : Int)) := by
  simp [rawK, List.range_succ]
theorem nRaw_le {s : Int × Int × Int} (hs : ShapeOk s) (a b : Int) : nRaw s a b ≤ 64 := by
  have := hs.b1
  unfold nRaw
  split <;> omega
theorem nRaw_lt {s : Int × Int × Int} {a b : Int} {i : Nat} (h : i < nRaw s a b) : hasB s a (b + (i : Int)) = true ∧ 0 ≤ b ∧ b + (i : Int) < 64 + s.2.1 := by
  unfold nRaw at h
  split at h
  · simp [hasB, fitsB]
    omega
  · omega
theorem nRaw_eq {s : Int × Int × Int} {a b : Int} (hb : 0 ≤ b) : hasB s a (b + (nRaw s a b : Int)) = false := by
  have h : ¬ (0 ≤ a ∧ a ≤ s.1 - 1 ∧ 0 ≤ b + (nRaw s a b : Int) ∧ b + (nRaw s a b : Int) ≤ s.2.1 - 1) := by
    unfold nRaw
    split <;> omega
  simp only [hasB, fitsB]
  rw [Bool.and_eq_false_iff]
  by_cases h1 : 0 ≤ a ∧ a ≤ s.1 - 1
  · exact .inr (decide_eq_false (by omega))
  · exact .inl (decide_eq_false h1)
theorem gotD_len {N0 p : Nat} {D : PD} {ok : Nat → Prop} {w : World} (hD : DevIs N0 p D ok w) (a b : Int) : (gotD D a b).length ≤ 256 := by
  obtain ⟨m, v, es, ck, hD⟩ := hD
  unfold gotD readD numB
  split
  · rw [full_length (look_len hD.lens _)]
    have := hD.shape.c1
    omega
  · simp
section
variable {N0 p : Nat} {D : PD} {w : World} {ok : Nat → Prop}
theorem rawK_len {a b : Int} (hl : ∀ x, (gotD D a x).length ≤ 256) : ∀ k, (rawK D a b k).length ≤ 256 * k
  | 0 => by simp [rawK]
  | k + 1 => by
    rw [rawK_succ, List.length_append]
    have := rawK_len (b := b) hl k
    have := hl (b + (k : Int))
    omega
set_option maxHeartbeats 2000000 in
set_option maxRecDepth 100000 in
theorem Raw_any (hD : DevIs N0 p D ok w) (a b : Int) : Calls Try.prog 43 #[.pointer (some ⟨p, 0, none⟩), .int .i64 a, .int .i64 b] w fun e w' => ∃ A c, e = .returned (.slice A (rawD D a b).length c) ∧ (rawD D a b).length ≤ c ∧ kB.C w' A (rawD D a b).length (rawD D a b) ∧ Below w.heap.size w w' := by
  have hs : ShapeOk D.s := by
    obtain ⟨m, v, es, ck, hD⟩ := hD
    exact hD.shape
  have hlen : ∀ k, (rawK D a b k).length ≤ 256 * k := rawK_len (gotD_len hD a)
  have hglen := gotD_len hD a
  have hrd := fun (V : World) (hV : Below w.heap.size w V) (x : Int) => Read_any (hD.below hV) a x
  have hn := nRaw_le hs a b
  have hnl := fun i => @nRaw_lt D.s a b i
  have hne := @nRaw_eq D.s a b
  unfold rawD
  obtain ⟨n, hnn⟩ : ∃ n, n = nRaw D.s a b := ⟨_, rfl⟩
  rw [← hnn] at hn hne hnl ⊢
  have hb1 := hs.b1
  have HLEN := Lib.hid hlen
  have HGL := Lib.hid hglen
  have HRD := Lib.hid hrd
  have HNL := Lib.hid hnl
  have HNE := Lib.hid hne
  clear hlen hglen hrd hnl hne hnn hs hD
  go_enter Try.func43, Try.ntmps43
  go_wp2
  go_loopw [2, 7] (fun v2 v7 wr => ∃ i : Nat, i ≤ n ∧ v2 = .int .i64 (b + (i : Int)) ∧ kB.R TB wr w.heap.size (fun k => w.heap.size ≤ k) v7 (rawK D a b i) ∧ Below w.heap.size w wr) (fun v2 _ _ => n - (intOf v2 - b).toNat)
  case atStart => exact ⟨0, Nat.zero_le _, by simp, Kd.R_nil _ _ _ _ _, Below.refl _ _⟩
  case round =>
    obtain ⟨i, hi, rfl, hR, hb⟩ := hrel
    obtain ⟨A7, c7, rfl⟩ := Kd.R_slice hR
    have HR := Aside0.mk hR
    have HB := Aside0.mk hb
    clear hR hb
    have hLn := HLEN.out i
    have HLN := Lib.hid hLn
    clear hLn
    by_cases hb0 : 0 ≤ b
    · have g0 : (0 : Int) ≤ b + (i : Int) := by omega
      by_cases hin : i < n
      · obtain ⟨hh, -, hlt⟩ := HNL.out i hin
        have he : hasE D.s a (b + (i : Int)) = 0 := by unfold hasE; rw [if_pos hh]
        have HG := Lib.hid (HGL.out (b + (i : Int)))
        clear hh
        go_wp2_with (first
          | (at_builtin; refine Kd.R_append_row (Value.int .u8) (0 : Int) (w0 := w) w.heap.size rfl (.tmp 21) (.tmp 22) 36 TB (.int .u8 0) 1 rfl Try.underlying36 info_u8 rfl (by decide) (.slice A7 (rawK D a b i).length c7) (rawK D a b i) (gotD D a (b + (i : Int))) _ _ _ (fun k => w.heap.size ≤ k) rfl rfl (fun k hk => Nat.le_trans HB2.out.size hk) HR2.out HC2.out HB2.out HB2.out.size (by have := HG.out; have := HLN.out; omega) ?_; intro v3 w3 ho3 hb3 hg3 hat3; clear hg3 hat3; have HO3 := Aside0.mk ho3; have HB3 := Aside0.mk hb3; clear ho3 hb3)
          | (go_at_call 60; (with_reducible refine (HRD.out _ HB.out _).mono ?_); rintro e w2 ⟨v, rfl, hrow, hb2⟩; obtain ⟨A8, c8, rfl, _, hC2⟩ := hrow.reads; have HR2 := Aside0.mk (Kd.R_below HR.out hb2); have HC2 := Aside0.mk hC2; have HB2 := Aside0.mk (HB.out.trans (hb2.mono HB.out.size)); clear hrow hb2 hC2; rw [he]))
        refine ⟨⟨i + 1, hin, by congr 1; push_cast; omega, by rw [rawK_succ]; exact HO3.out, HB3.out⟩, ?_⟩
        simp only [intOf]
        omega
      · have hii : i = n := by omega
        subst hii
        have he : hasE D.s a (b + (i : Int)) = 6 := by unfold hasE; rw [HNE.out hb0]; rfl
        have HG := Lib.hid (HGL.out (b + (i : Int)))
        go_wp2_with (go_at_call 60; (with_reducible refine (HRD.out _ HB.out _).mono ?_); rintro e w2 ⟨v, rfl, hrow, hb2⟩; obtain ⟨A8, c8, rfl, _, hC2⟩ := hrow.reads; have HR2 := Aside0.mk (Kd.R_below HR.out hb2); have HB2 := Aside0.mk (HB.out.trans (hb2.mono HB.out.size)); clear hrow hb2 hC2; rw [he])
        obtain ⟨A9, c9, e9, hc9, hC9⟩ := (Row.ofR HR2.out).reads
        cases e9
        have HC9 := Aside0.mk hC9
        have HCC := Lib.hid hc9
        clear hC9 hc9
        go_ret
        first | exact ⟨_, _, rfl, HCC.out, HC9.out, HB2.out⟩ | exact ⟨_, HCC.out, HC9.out, HB2.out⟩ | exact ⟨HCC.out, HC9.out, HB2.out⟩ | exact ⟨A7, ⟨c7, rfl⟩, HCC.out, HC9.out, HB2.out⟩ | exact ⟨_, _, ⟨rfl, rfl⟩, HCC.out, HC9.out, HB2.out⟩
    · have hn0 : n = 0 := by
        by_cases hn0 : 0 < n
        · exact absurd (HNL.out 0 hn0).2.1 hb0
        · omega
      have hii : i = n := by omega
      subst hii
      have g0 : ¬ (0 : Int) ≤ b + (i : Int) := by omega
      have g1 : decide ((0 : Int) ≤ b + (i : Int)) = false := decide_eq_false g0
      clear hn0
      obtain ⟨A9, c9, e9, hc9, hC9⟩ := (Row.ofR HR.out).reads
      cases e9
      have HC9 := Aside0.mk hC9
      have HCC := Lib.hid hc9
      clear hC9 hc9
      go_wp2
      go_ret
      first | exact ⟨_, _, rfl, HCC.out, HC9.out, HB.out⟩ | exact ⟨_, HCC.out, HC9.out, HB.out⟩ | exact ⟨A7, c7, rfl, HCC.out, HC9.out, HB.out⟩ | exact ⟨A7, ⟨c7, rfl⟩, HCC.out, HC9.out, HB.out⟩
end
end Go.Proofs.Ytmbiebdcnadhkaa.Fl
namespace Go.Proofs.Ytmbiebdcnadhkaa.Fl
open Go.RowKit Go.Proofs.YtmbiebdcnadhkaaW.PrintWords Go.Proofs.YtmbiebdcnadhkaaW.PrintMore Go.Maps
set_option linter.unusedSimpArgs false
set_option linter.unusedVariables false
def Dat (w : World) (base : Nat) (ok : Nat → Prop) (v : Value) (l : List Int) : Prop :=
  ∃ A c, v = .slice A l.length c ∧ l.length ≤ c ∧ l.length ≤ 9223372036854775807 ∧ (l = [] ∨ ∃ g off cs, A = some ⟨g, off, none⟩ ∧ base ≤ g ∧ ok g ∧ w.heap[g]? = some (.cells cs TB (0, 0)) ∧ ∀ j x, l[j]? = some x → cs[off + j]? = some (.int .u8 x))
section
variable {w w' : World} {base base' : Nat} {ok ok' : Nat → Prop} {v : Value} {l : List Int}
theorem Dat.nil (w : World) (base : Nat) (ok : Nat → Prop) : Dat w base ok (.slice none 0 0) [] := ⟨none, 0, rfl, Nat.le_refl _, by simp, .inl rfl⟩
theorem Dat.move (h : Dat w base ok v l) (hm : ∀ k, ok k → w'.heap[k]? = w.heap[k]?) : Dat w' base ok v l := by
  obtain ⟨A, c, h1, h2, h3, h4⟩ := h
  refine ⟨A, c, h1, h2, h3, h4.imp id ?_⟩
  rintro ⟨g, off, cs, e, hb, ho, hh, hc⟩
  exact ⟨g, off, cs, e, hb, ho, (hm g ho).trans hh, hc⟩
theorem Dat.mono (h : Dat w base ok v l) (hk : ∀ k, ok k → ok' k) : Dat w base ok' v l := by
  obtain ⟨A, c, h1, h2, h3, h4⟩ := h
  refine ⟨A, c, h1, h2, h3, h4.imp id ?_⟩
  rintro ⟨g, off, cs, e, hb, ho, hh, hc⟩
  exact ⟨g, off, cs, e, hb, hk g ho, hh, hc⟩
theorem Dat.lower (h : Dat w base ok v l) (hb : base' ≤ base) : Dat w base' ok v l := by
  obtain ⟨A, c, h1, h2, h3, h4⟩ := h
  refine ⟨A, c, h1, h2, h3, h4.imp id ?_⟩
  rintro ⟨g, off, cs, e, hg, ho, hh, hc⟩
  exact ⟨g, off, cs, e, by omega, ho, hh, hc⟩
theorem Dat.bound (h : Dat w base ok v l) : Dat w base (fun k => ok k ∧ base ≤ k ∧ k < w.heap.size ∧ ∃ q, q ∈ [TB] ∧ ∃ cells, w.heap[k]? = some (.cells cells q (0, 0))) v l := by
  obtain ⟨A, c, h1, h2, h3, h4⟩ := h
  refine ⟨A, c, h1, h2, h3, h4.imp id ?_⟩
  rintro ⟨g, off, cs, e, hg, ho, hh, hc⟩
  exact ⟨g, off, cs, e, hg, ⟨ho, hg, blt hh, TB, by simp, cs, hh⟩, hh, hc⟩
theorem Dat.step (h : Dat w base ok v l) (hm : ∀ k, ok k → k < w.heap.size → w'.heap[k]? = w.heap[k]?) : Dat w' base ok v l :=
  Dat.mono (Dat.move (Dat.bound h) (fun k hk => hm k hk.1 hk.2.2.1)) (fun _ hk => hk.1)
theorem Dat.below (h : Dat w base ok v l) (hb : Below w.heap.size w w') : Dat w' base ok v l := h.step (fun k _ hlt => hb.block k hlt)
theorem Dat.typed (h : Dat w base ok v l) (hm : ∀ k cs, w.heap[k]? = some (.cells cs TB (0, 0)) → ok k → w'.heap[k]? = w.heap[k]?) : Dat w' base ok v l :=
  Dat.mono (Dat.move (Dat.bound h) (fun k hk => by
    obtain ⟨h1, _, _, q, hq, cs, hc⟩ := hk
    obtain rfl : q = TB := by simpa using hq
    exact hm k cs hc h1)) (fun _ hk => hk.1)
theorem Dat.reads (h : Dat w base ok v l) : ∃ A c, v = .slice A l.length c ∧ l.length ≤ c ∧ kB.C w A l.length l := by
  obtain ⟨A, c, h1, h2, h3, h4⟩ := h
  refine ⟨A, c, h1, h2, Kd.C_of_reads (d := 0) ⟨rfl, h3, fun hn => ?_⟩⟩
  rcases h4 with rfl | ⟨g, off, cs, e, hg, ho, hh, hc⟩
  · simp at hn
  · refine ⟨_, e, fun j hj => ?_⟩
    have ha : (⟨g, off, none⟩ : Addr).add j = ⟨g, off + j, none⟩ := Addr.add_lit _ _ _
    rw [ha]
    have := hc j _ (List.getElem?_eq_getElem hj)
    simp [World.cell?, hh, this, List.getD_eq_getElem?_getD, hj]
theorem Dat.ofRow (h : Row w base ok v l) : Dat w base ok v l := by
  obtain ⟨A, c, h1, h2, h3, h4⟩ := h
  exact ⟨A, c, h1, h2, h3, h4.imp (fun h => h.2) id⟩
theorem Dat.ofR (h : kB.R TB w base ok v l) : Dat w base ok v l := Dat.ofRow (Row.ofR h)
theorem Dat.ofQ (h : kB.Q TB w base ok v l) : Dat w base ok v l := by
  obtain ⟨A, c, rfl, hlc, hC⟩ := Kd.Q_reads h
  obtain ⟨h0, inner, hq, hr⟩ := h
  have hm : l.length ≤ 9223372036854775807 := hC.2.1
  refine ⟨A, c, rfl, hlc, hm, ?_⟩
  rcases hq.2 with ⟨hn, _⟩ | ⟨g, off, cap, cur, e, hg, hh, hle, hmx, hs, ht⟩
  · exact .inl (List.eq_nil_of_length_eq_zero hn)
  · injection e with e1 e2 e3
    subst e1
    refine .inr ⟨g, off * 1, cur, rfl, hg, h0 g (by simp [Value.ownBlock]), hh, fun j x hj => ?_⟩
    have h3 := hr.2 j x hj
    have h4 : (inner.drop (j * 1)).take 1 = [.int .u8 x] := h3
    have h5 : inner[j]? = some (.int .u8 x) := by
      have := congrArg (fun l => l[0]?) h4
      simpa using this
    rw [← ht, List.getElem?_take] at h5
    split at h5
    · rw [List.getElem?_drop] at h5
      have h6 : cur.toList[off * 1 + j]? = some (Value.int .u8 x) := h5
      simpa using h6
    · cases h5
end
def kDat : Kd (List Int) where
  sz := 1
  E := [TB]
  K := fun w xs cs => ∃ A c, cs = [.slice A xs.length c] ∧ xs.length ≤ c ∧ kB.C w A xs.length xs
  M := fun w base ok xs cs => ∃ v, cs = [v] ∧ Dat w base ok v xs
  K_len := by
    rintro w x cs ⟨A, c, rfl, _⟩
    rfl
  K_one := by
    rintro w x cs ⟨A, c, rfl, _⟩ u hu
    rw [List.mem_singleton.1 hu]
    rfl
  K_below := by
    rintro w w1 x cs hb ⟨A, c, rfl, hl, hr⟩
    exact ⟨A, c, rfl, hl, Kd.C_below hr hb⟩
  K_of_M := by
    rintro w base ok x cs ⟨v, rfl, h⟩
    obtain ⟨A, c, rfl, hl, hr⟩ := h.reads
    exact ⟨A, c, rfl, hl, hr⟩
  M_mono := by
    rintro w base ok ok' x cs hok ⟨v, rfl, h⟩
    exact ⟨v, rfl, h.mono hok⟩
  M_bound := by
    rintro w base ok x cs ⟨v, rfl, h⟩
    exact ⟨v, rfl, h.bound⟩
  M_move := by
    rintro w w1 base ok x cs hm ⟨v, rfl, h⟩
    exact ⟨v, rfl, h.move hm⟩
  M_lower := by
    rintro w base base' ok x cs hb ⟨v, rfl, h⟩
    exact ⟨v, rfl, h.lower hb⟩
structure En where
  a : Int
  b : Int
  seq : Int
  pages : Int
  kind : Int
  data : List Int
def zEn : En := ⟨0, 0, 0, 0, 0, []⟩
abbrev TE : TypeId := 47
def enC (e : En) (v : Value) : List Value := [.int .i64 e.a, .int .i64 e.b, .int .u64 e.seq, .int .i64 e.pages, .int .u8 e.kind, v]
def kEnt : Kd En where
  sz := 6
  E := [TB]
  K := fun w e cs => ∃ A c, cs = enC e (.slice A e.data.length c) ∧ e.data.length ≤ c ∧ kB.C w A e.data.length e.data
  M := fun w base ok e cs => ∃ v, cs = enC e v ∧ Dat w base ok v e.data
  K_len := by
    rintro w x cs ⟨A, c, rfl, _⟩
    rfl
  K_one := by
    rintro w x cs ⟨A, c, rfl, _⟩ u hu
    simp only [enC, List.mem_cons, List.not_mem_nil, or_false] at hu
    rcases hu with rfl | rfl | rfl | rfl | rfl | rfl <;> rfl
  K_below := by
    rintro w w1 x cs hb ⟨A, c, rfl, hl, hr⟩
    exact ⟨A, c, rfl, hl, Kd.C_below hr hb⟩
  K_of_M := by
    rintro w base ok x cs ⟨v, rfl, h⟩
    obtain ⟨A, c, rfl, hl, hr⟩ := h.reads
    exact ⟨A, c, rfl, hl, hr⟩
  M_mono := by
    rintro w base ok ok' x cs hok ⟨v, rfl, h⟩
    exact ⟨v, rfl, h.mono hok⟩
  M_bound := by
    rintro w base ok x cs ⟨v, rfl, h⟩
    exact ⟨v, rfl, h.bound⟩
  M_move := by
    rintro w w1 base ok x cs hm ⟨v, rfl, h⟩
    exact ⟨v, rfl, h.move hm⟩
  M_lower := by
    rintro w base base' ok x cs hb ⟨v, rfl, h⟩
    exact ⟨v, rfl, h.lower hb⟩
theorem info_ent : (Try.prog.info? TE).map (fun i => (i.zero, i.size, i.bytes)) = some (some (.agg #[.int .i64 0, .int .i64 0, .int .u64 0, .int .i64 0, .int .u8 0, .slice none 0 0]), 6, 64) := by kernel_rfl
def parsed (l : List Int) : Int × Int × List Int × Int × Int := Go.Proofs.Ytmbiebdcnadhkaa.FrameFacts.parsed l
def entL (s : Int × Int × Int) (a b : Int) (raw : List Int) : En × Int :=
  if hasB s a b = false then (zEn, 6) else if (parsed raw).2.2.2.2 = 0 then (⟨a, b, (parsed raw).2.1, (kpg s ((parsed raw).2.2.2.1 - 16).toNat : Int), (parsed raw).1, (parsed raw).2.2.1⟩, 0) else (zEn, (parsed raw).2.2.2.2)
structure ParsedOk (raw : List Int) : Prop where
  n : ∃ m : Nat, (parsed raw).2.2.2.1 = (m : Int) + 16 ∧ m ≤ 4096 ∧ m + 16 ≤ raw.length ∧ (parsed raw).2.2.1.length = m
theorem parsed_ok {raw : List Int} (h : (parsed raw).2.2.2.2 = 0) : ParsedOk raw := by
  unfold parsed Go.Proofs.Ytmbiebdcnadhkaa.FrameFacts.parsed at h
  by_cases hh : Go.Proofs.Ytmbiebdcnadhkaa.FrameFacts.head raw = 0
  · rw [if_pos hh] at h
    obtain ⟨_, h16, h4, h5⟩ := Go.Proofs.Ytmbiebdcnadhkaa.FrameFacts.head_zero hh
    split at h
    · rename_i hs
      refine ⟨Go.Proofs.Ytmbiebdcnadhkaa.FrameFacts.dl raw, ?_, h4, h5, ?_⟩
      · unfold parsed Go.Proofs.Ytmbiebdcnadhkaa.FrameFacts.parsed
        rw [if_pos hh, if_pos hs]
        simp
      · unfold parsed Go.Proofs.Ytmbiebdcnadhkaa.FrameFacts.parsed
        rw [if_pos hh, if_pos hs]
        simp only [List.length_drop, List.length_take]
        omega
    · simp at h
  · rw [if_neg hh] at h
    exact absurd h hh
def ParsedN (raw : List Int) (n : Int) (d : List Int) : Prop := ∃ m : Nat, n = (m : Int) + 16 ∧ m ≤ 4096 ∧ m + 16 ≤ raw.length ∧ d.length = m
theorem parsed_n {raw : List Int} (h : (parsed raw).2.2.2.2 = 0) : ParsedN raw (parsed raw).2.2.2.1 (parsed raw).2.2.1 := (parsed_ok h).n
def scanF (E : Int → En × Int) (n sq : Int) : Nat → Int → List En
  | 0, _ => []
  | f + 1, page => if 0 ≤ page ∧ page < n then (if (E page).2 ≠ 0 ∨ (E page).1.kind = 1 ∨ (E page).1.seq ≠ sq then [] else (E page).1 :: scanF E n sq f (page + (E page).1.pages)) else []
def scanL (E : Int → En × Int) (n : Int) : Int × List En × Bool :=
  if (E 0).2 ≠ 0 ∨ (E 0).1.kind ≠ 1 ∨ 0 < (E 0).1.data.length then (0, [], false) else ((E 0).1.seq, scanF E n (E 0).1.seq 64 (E 0).1.pages, true)
def entD (D : PD) (a b : Int) : En × Int := entL D.s a b (rawD D a b)
def scanD (D : PD) (a : Int) : Int × List En × Bool := scanL (entD D a) D.s.2.1
def BytD (D : PD) : Prop := ∀ a b, Byt (gotD D a b)
theorem BytD.raw {D : PD} (h : BytD D) (a b : Int) : Byt (rawD D a b) := by
  intro x hx
  unfold rawD rawK at hx
  rw [List.mem_flatMap] at hx
  obtain ⟨i, _, hi⟩ := hx
  exact h _ _ x hi
section
variable {w : World} {A : Option Addr} {c : Nat} {l : List Int}
theorem Get_ok (hl : Byt l) (hm : l.length ≤ 800000) (h : kB.C w A l.length l) (hc : l.length ≤ c) :
    Calls Try.prog 83 #[.slice A l.length c] w fun e w' => ∃ v, e = .returned (.tuple #[.agg #[.int .u8 (parsed l).1, .int .u64 (parsed l).2.1, v], .int .i64 (parsed l).2.2.2.1, .int .i64 (parsed l).2.2.2.2]) ∧ Dat w' w.heap.size (fun k => w.heap.size ≤ k) v (parsed l).2.2.1 ∧ Below w.heap.size w w' := by
  refine (Go.Proofs.Ytmbiebdcnadhkaa.QFrame.frame_Get.calls (l.length + 40) A c l (parsed l).1 (parsed l).2.1 (parsed l).2.2.1 (parsed l).2.2.2.1 (parsed l).2.2.2.2 w h hc (Go.Proofs.Ytmbiebdcnadhkaa.FrameFacts.get_is _ l hl hm (Nat.le_refl _))).mono fun e w' ⟨v, e1, hq, hb⟩ => ⟨v, e1, ?_, hb⟩
  exact (Dat.ofQ (Kd.Q_mono (Kd.Q_bound hq) (ok' := fun k => w.heap.size ≤ k) (fun k hk => hk.2.1)))
theorem Parse_ok (hl : Byt l) (hm : l.length ≤ 800000) (h : kB.C w A l.length l) (hc : l.length ≤ c) :
    Calls Try.prog 84 #[.slice A l.length c] w fun e w' => ∃ v, e = .returned (.tuple #[.agg #[.int .u8 (parsed l).1, .int .u64 (parsed l).2.1, v], .int .i64 (parsed l).2.2.2.1, .int .i64 (parsed l).2.2.2.2]) ∧ Dat w' w.heap.size (fun k => w.heap.size ≤ k) v (parsed l).2.2.1 ∧ Below w.heap.size w w' := by
  refine (Go.Proofs.Ytmbiebdcnadhkaa.QFrame.spenceref11_Parse.calls (l.length + 40 + 3) A c l (parsed l).1 (parsed l).2.1 (parsed l).2.2.1 (parsed l).2.2.2.1 (parsed l).2.2.2.2 w h hc (Go.Proofs.Ytmbiebdcnadhkaa.FrameFacts.parse_is _ l hl hm (Nat.le_refl _))).mono fun e w' ⟨v, e1, hq, hb⟩ => ⟨v, e1, ?_, hb⟩
  exact (Dat.ofR (Kd.R_mono (Kd.R_bound hq) (ok' := fun k => w.heap.size ≤ k) (fun k hk => hk.2.1)))
end
end Go.Proofs.Ytmbiebdcnadhkaa.Fl
namespace Go.Proofs.Ytmbiebdcnadhkaa.Fl
open Go.RowKit Go.Proofs.YtmbiebdcnadhkaaW.PrintWords Go.Proofs.YtmbiebdcnadhkaaW.PrintMore Go.Maps
set_option linter.unusedSimpArgs false
set_option linter.unusedVariables false
def EntPost (w : World) (r : En × Int) (e : Ending) (w' : World) : Prop :=
  ∃ v, e = .returned (.tuple #[.agg #[.int .i64 r.1.a, .int .i64 r.1.b, .int .u64 r.1.seq, .int .i64 r.1.pages, .int .u8 r.1.kind, v], .int .i64 r.2]) ∧ Dat w' w.heap.size (fun k => w.heap.size ≤ k) v r.1.data ∧ Below w.heap.size w w'
theorem ent_cells {X : World} {g : Nat} {T : TypeId} {c0 c1 c2 c3 c4 c5 : Value} (h : X.heap[g]? = some (.cells #[c0, c1, c2, c3, c4, c5] T (0, 0))) :
    X.cell? ⟨g, 0, none⟩ = some c0 ∧ X.cell? ⟨g, 1, none⟩ = some c1 ∧ X.cell? ⟨g, 2, none⟩ = some c2 ∧ X.cell? ⟨g, 3, none⟩ = some c3 ∧ X.cell? ⟨g, 4, none⟩ = some c4 ∧ X.cell? ⟨g, 5, none⟩ = some c5 ∧
    X.frozen? ⟨g, 0, none⟩ = false ∧ X.frozen? ⟨g, 1, none⟩ = false ∧ X.frozen? ⟨g, 2, none⟩ = false ∧ X.frozen? ⟨g, 3, none⟩ = false ∧ X.frozen? ⟨g, 4, none⟩ = false ∧ X.frozen? ⟨g, 5, none⟩ = false :=
  ⟨bcell h 0, bcell h 1, bcell h 2, bcell h 3, bcell h 4, bcell h 5, bfrozen h 0, bfrozen h 1, bfrozen h 2, bfrozen h 3, bfrozen h 4, bfrozen h 5⟩
theorem set6 {B : Nat} {w X : World} {g : Nat} (h : Below B w X) (hg : B ≤ g) (c0 c1 c2 c3 c4 c5 : Value) : Below B w ((((((X.setCell ⟨g, 0, none⟩ c0).setCell ⟨g, 1, none⟩ c1).setCell ⟨g, 2, none⟩ c2).setCell ⟨g, 3, none⟩ c3).setCell ⟨g, 4, none⟩ c4).setCell ⟨g, 5, none⟩ c5) :=
  (((((h.setCell hg c0).setCell hg c1).setCell hg c2).setCell hg c3).setCell hg c4).setCell hg c5
theorem set6_blk {X : World} {g : Nat} {T : TypeId} {o0 o1 o2 o3 o4 o5 : Value} (h : X.heap[g]? = some (.cells #[o0, o1, o2, o3, o4, o5] T (0, 0))) (c0 c1 c2 c3 c4 c5 : Value) :
    ((((((X.setCell ⟨g, 0, none⟩ c0).setCell ⟨g, 1, none⟩ c1).setCell ⟨g, 2, none⟩ c2).setCell ⟨g, 3, none⟩ c3).setCell ⟨g, 4, none⟩ c4).setCell ⟨g, 5, none⟩ c5).heap[g]? = some (.cells #[c0, c1, c2, c3, c4, c5] T (0, 0)) :=
  bset (bset (bset (bset (bset (bset h 0 c0) 1 c1) 2 c2) 3 c3) 4 c4) 5 c5
theorem post_world {P : Program} {f : Func} {Q : Ending → World → Prop} {ex : Exit} {a : Act} {W : World} (Pr : World → Prop) (h : Pr W) (k : ∀ Y, Pr Y → bodyPost P f Q ex a Y) : bodyPost P f Q ex a W := k W h
def EndE (w : World) (e : En) (v : Value) (Y : World) : Prop := Y.heap[w.heap.size + 1]? = some (.cells #[.int .i64 e.a, .int .i64 e.b, .int .u64 e.seq, .int .i64 e.pages, .int .u8 e.kind, v] TE (0, 0)) ∧ Dat Y w.heap.size (fun k => w.heap.size ≤ k) v e.data ∧ Below w.heap.size w Y
theorem EndE.zero {w X : World} {o0 o1 o2 o3 o4 o5 : Value} (h : X.heap[w.heap.size + 1]? = some (.cells #[o0, o1, o2, o3, o4, o5] TE (0, 0))) (hb : Below w.heap.size w X) :
    EndE w zEn (.slice none 0 0) ((((((X.setCell ⟨w.heap.size + 1, 0, none⟩ (.int .i64 0)).setCell ⟨w.heap.size + 1, 1, none⟩ (.int .i64 0)).setCell ⟨w.heap.size + 1, 2, none⟩ (.int .u64 0)).setCell ⟨w.heap.size + 1, 3, none⟩ (.int .i64 0)).setCell ⟨w.heap.size + 1, 4, none⟩ (.int .u8 0)).setCell ⟨w.heap.size + 1, 5, none⟩ (.slice none 0 0)) :=
  ⟨set6_blk h _ _ _ _ _ _, Dat.nil _ _ _, set6 hb (by omega) _ _ _ _ _ _⟩
theorem EndE.alloc {w X : World} {e : En} {v : Value} (h : EndE w e v X) (o : Obj) : EndE w e v (X.alloc o) :=
  ⟨(Below.heap_alloc _ _ _ (blt h.1)).trans h.1, h.2.1.below (below_alloc (Below.refl _ _) _), below_alloc h.2.2 _⟩
theorem EndE.drew {w X : World} {e : En} {v : Value} (h : EndE w e v X) : EndE w e v X.drew :=
  ⟨h.1, h.2.1.below ((Below.refl _ X).drew), h.2.2.drew⟩
theorem EndE.put {w X : World} {o0 o1 o2 o3 o4 o5 v : Value} (e : En) (h : X.heap[w.heap.size + 1]? = some (.cells #[o0, o1, o2, o3, o4, o5] TE (0, 0))) (hb : Below w.heap.size w X) (hd : Dat X w.heap.size (fun k => w.heap.size ≤ k) v e.data) :
    EndE w e v ((((((X.setCell ⟨w.heap.size + 1, 0, none⟩ (.int .i64 e.a)).setCell ⟨w.heap.size + 1, 1, none⟩ (.int .i64 e.b)).setCell ⟨w.heap.size + 1, 2, none⟩ (.int .u64 e.seq)).setCell ⟨w.heap.size + 1, 3, none⟩ (.int .i64 e.pages)).setCell ⟨w.heap.size + 1, 4, none⟩ (.int .u8 e.kind)).setCell ⟨w.heap.size + 1, 5, none⟩ v) := by
  refine ⟨set6_blk h _ _ _ _ _ _, hd.typed (fun k cs hk _ => ?_), set6 hb (by omega) _ _ _ _ _ _⟩
  have hne : k ≠ w.heap.size + 1 := not_typ h (by decide) hk
  rw [Below.heap_setCell _ _ _ _ hne, Below.heap_setCell _ _ _ _ hne, Below.heap_setCell _ _ _ _ hne, Below.heap_setCell _ _ _ _ hne, Below.heap_setCell _ _ _ _ hne, Below.heap_setCell _ _ _ _ hne]
section
variable {N0 p : Nat} {D : PD} {w : World} {ok : Nat → Prop}
set_option maxHeartbeats 2000000 in
set_option maxRecDepth 100000 in
theorem Read_ent (hD : DevIs N0 p D ok w) (hby : BytD D) (a b : Int) : Calls Try.prog 38 #[.pointer (some ⟨p, 0, none⟩), .agg #[.int .i64 a, .int .i64 b]] w (EntPost w (entD D a b)) := by
  have hs : ShapeOk D.s := by
    obtain ⟨m, v, es, ck, hD⟩ := hD
    exact hD.shape
  obtain ⟨W, hW⟩ : ∃ W, W = (w.alloc (.cells #[.int .i64 a, .int .i64 b] TA)).alloc (.cells #[.int .i64 0, .int .i64 0, .int .u64 0, .int .i64 0, .int .u8 0, .slice none 0 0] TE) := ⟨_, rfl⟩
  have q0 : W.heap[w.heap.size]? = some (.cells #[.int .i64 a, .int .i64 b] TA (0, 0)) := by
    rw [hW]; exact (Below.heap_alloc _ _ _ (by simp)).trans (blk_new w _)
  have q1 : W.heap[w.heap.size + 1]? = some (.cells #[.int .i64 0, .int .i64 0, .int .u64 0, .int .i64 0, .int .u8 0, .slice none 0 0] TE (0, 0)) := by
    rw [hW]; have := blk_new (w.alloc (.cells #[.int .i64 a, .int .i64 b] TA)) (.cells #[.int .i64 0, .int .i64 0, .int .u64 0, .int .i64 0, .int .u8 0, .slice none 0 0] TE); rwa [World.size_alloc] at this
  have qb : Below w.heap.size w W := by rw [hW]; exact below_alloc (below_alloc (Below.refl _ _) _) _
  have hbox : ∀ X : World, Below W.heap.size W X → X.heap[w.heap.size]? = some (.cells #[.int .i64 a, .int .i64 b] TA (0, 0)) ∧ X.heap[w.heap.size + 1]? = some (.cells #[.int .i64 0, .int .i64 0, .int .u64 0, .int .i64 0, .int .u8 0, .slice none 0 0] TE (0, 0)) := fun X hX =>
    ⟨(hX.block _ (blt q0)).trans q0, (hX.block _ (blt q1)).trans q1⟩
  have hth := there_any (hD.below qb) a b
  have hraw := fun (X : World) (hX : Below W.heap.size W X) => Raw_any ((hD.below qb).below hX) a b
  have hshape := fun (X : World) (hX : Below W.heap.size W X) => Shape_any ((hD.below qb).below hX)
  have k0 : W.cell? ⟨w.heap.size, 0, none⟩ = some (.int .i64 a) := bcell q0 0
  have k1 : W.cell? ⟨w.heap.size, 1, none⟩ = some (.int .i64 b) := bcell q0 1
  have hrl : (rawD D a b).length ≤ 16384 := by
    have h1 := rawK_len (b := b) (gotD_len hD a) (nRaw D.s a b)
    have h2 := nRaw_le hs a b
    unfold rawD
    omega
  have hrb := hby.raw a b
  have HBOX := Lib.hid hbox
  have HTH := Lib.hid hth
  have HRAW := Lib.hid hraw
  have HSHP := Lib.hid hshape
  have HS := Lib.hid hs
  have HRL := Lib.hid hrl
  have HRB := Lib.hid hrb
  have HW := Lib.hid hW
  have QB := Aside0.mk qb
  have QS := Lib.hid (show w.heap.size + 1 < W.heap.size from blt q1)
  clear hbox hth hraw hshape hs hrl hrb hW qb q0 q1 hD hby
  cases hb : hasB D.s a b with
  | false =>
    have hE : entD D a b = (zEn, 6) := by unfold entD entL; rw [if_pos hb]
    have hTE : hasE D.s a b = 6 := by unfold hasE; rw [hb]; rfl
    have HTE := Lib.hid hTE
    rw [hE]
    clear hE hTE hb
    go_enter Try.func38, Try.ntmps38
    go_wp2_with fail
    rw [← HW.out]
    go_wp2_with (go_at_call 54; (with_reducible refine HTH.out.mono ?_); rw [HTE.out]; rintro e w1 ⟨rfl, hb⟩; obtain ⟨z0, z1⟩ := HBOX.out _ hb; obtain ⟨t0, t1, t2, t3, t4, t5, f0, f1, f2, f3, f4, f5⟩ := ent_cells z1; have HB1 := Aside0.mk hb; have Z1 := Lib.hid z1; clear hb z0 z1)
    refine post_world (EndE w zEn (.slice none 0 0)) (EndE.zero Z1.out (QB.out.trans (HB1.out.mono QB.out.size))) ?_
    rintro Y ⟨y, hd, hb⟩
    obtain ⟨t0, t1, t2, t3, t4, t5, -⟩ := ent_cells y
    exact bodyPost_ret (v := .tuple #[.agg #[.int .i64 0, .int .i64 0, .int .u64 0, .int .i64 0, .int .u8 0, .slice none 0 0], .int .i64 6]) (by simp [results, Try.results38, go_sem, t0, t1, t2, t3, t4, t5, zEn]) rfl ⟨_, rfl, hd, hb⟩
  | true =>
    have hTE : hasE D.s a b = 0 := by unfold hasE; rw [hb]; rfl
    have HTE := Lib.hid hTE
    obtain ⟨n, hn⟩ : ∃ n, n = (rawD D a b).length := ⟨_, rfl⟩
    have hget := fun (X : World) (A : Option Addr) (c : Nat) (hC : kB.C X A n (rawD D a b)) (hc : n ≤ c) => Get_ok (w := X) (A := A) (c := c) HRB.out (by have := HRL.out; omega) (by rw [← hn]; exact hC) (by rw [← hn]; exact hc)
    rw [← hn] at hget
    have hraw := HRAW.out
    rw [← hn] at hraw
    have HRW := Lib.hid hraw
    have hnl : n ≤ 16384 := by have := HRL.out; omega
    have hP : entD D a b = if (parsed (rawD D a b)).2.2.2.2 = 0 then (⟨a, b, (parsed (rawD D a b)).2.1, (kpg D.s ((parsed (rawD D a b)).2.2.2.1 - 16).toNat : Int), (parsed (rawD D a b)).1, (parsed (rawD D a b)).2.2.1⟩, 0) else (zEn, (parsed (rawD D a b)).2.2.2.2) := by unfold entD entL; rw [if_neg (by rw [hb]; decide)]
    have hok : (parsed (rawD D a b)).2.2.2.2 = 0 → ParsedN (rawD D a b) (parsed (rawD D a b)).2.2.2.1 (parsed (rawD D a b)).2.2.1 := fun h => parsed_n h
    clear hTE hn hraw hb HRAW
    rw [hP]
    clear hP
    generalize hPE : parsed (rawD D a b) = P at hget hok ⊢
    obtain ⟨kd, sq, d, pn, er⟩ := P
    simp only at hget hok ⊢
    have HGET := Lib.hid hget
    clear hget
    by_cases he : er = 0
    · subst he
      obtain ⟨m, hm1, hm2, hm3, hm4⟩ := hok rfl
      obtain ⟨nb, hnb⟩ := Int.eq_ofNat_of_zero_le (show 0 ≤ D.s.2.2 by have := HS.out.c0; omega)
      have hnb0 : 16 ≤ nb := by have := HS.out.c0; omega
      have hnb1 : nb ≤ 256 := by have := HS.out.c1; omega
      have hkp : (((m : Int) + 16 + (nb : Int) - 1) / (nb : Int)) = (kpg D.s (pn - 16).toNat : Int) := by
        unfold kpg
        rw [hnb, hm1]
        simp only [Int.toNat_natCast, Int.add_sub_cancel]
        rw [Int.natCast_ediv]
        congr 1
        omega
      have hshp := HSHP.out
      rw [hnb] at hshp
      rw [if_pos rfl]
      subst hm1
      have HKP := Lib.hid hkp
      have HSH := Lib.hid hshp
      have HM3 := Lib.hid hm3
      have HM4 := Lib.hid hm4
      have hw1 : IntKind.i64.wrap ((m : Int) + 16 + (nb : Int)) = (m : Int) + 16 + (nb : Int) := IntWalk.i64_in _ (by omega)
      have hw2 : IntKind.i64.wrap ((m : Int) + 16 + (nb : Int) - 1) = (m : Int) + 16 + (nb : Int) - 1 := IntWalk.i64_in _ (by omega)
      have HW1 := Lib.hid hw1
      have HW2 := Lib.hid hw2
      have rs := fun (X : World) => run_shape3 X D.s.1 D.s.2.1 (nb : Int)
      clear hPE hok hshp hkp hnb HSHP hm3 hm4 hw1 hw2
      go_enter Try.func38, Try.ntmps38
      go_wp2_with fail
      rw [← HW.out]
      go_wp2_with (first
        | (go_at_call 54; (with_reducible refine HTH.out.mono ?_); rw [HTE.out]; rintro e w1 ⟨rfl, hb⟩; obtain ⟨z0, z1⟩ := HBOX.out _ hb; have k0 : w1.cell? ⟨w.heap.size, 0, none⟩ = some (.int .i64 a) := bcell z0 0; have k1 : w1.cell? ⟨w.heap.size, 1, none⟩ = some (.int .i64 b) := bcell z0 1; have HB1 := Aside0.mk hb; clear hb z0 z1)
        | (go_at_call 43; (with_reducible refine (HRW.out _ HB1.out).mono ?_); rintro e w2 ⟨A2, c2, rfl, hc2, hC2, hb⟩; have HB2 := Aside0.mk (HB1.out.trans (hb.mono HB1.out.size)); have HC2 := Aside0.mk hC2; have HCC := Lib.hid hc2; clear hb hC2 hc2)
        | (go_at_call 83; (with_reducible refine (HGET.out _ _ _ HC2.out HCC.out).mono ?_); rintro e w3 ⟨v3, rfl, hd3, hb⟩; obtain ⟨A3, c3, rfl, -, -⟩ := hd3.reads; have HB3 := Aside0.mk (HB2.out.trans (hb.mono HB2.out.size)); have HD3 := Aside0.mk (Dat.mono (Dat.lower hd3 (Nat.le_trans QB.out.size HB2.out.size)) (fun k hk => Nat.le_trans (Nat.le_trans QB.out.size HB2.out.size) hk)); clear hb hd3)
        | (go_at_call 56; (with_reducible refine (HSH.out _ (below_alloc HB3.out _)).mono ?_); rintro e w4 ⟨rfl, hb⟩; have z2 := (hb.block _ (blt (blk_new _ _))).trans (blk_new _ _); have HB4 := Aside0.mk ((below_alloc HB3.out _).trans (hb.mono (below_alloc HB3.out _).size)); have hz3 : w.heap.size + 1 < w3.heap.size := Nat.lt_of_lt_of_le QS.out HB3.out.size; have HD4 := Aside0.mk (HD3.out.below ((below_alloc (Below.refl _ _) _).trans (hb.mono (by simp)))); obtain ⟨z0, z1⟩ := HBOX.out _ HB4.out; have k0 : w4.cell? ⟨w.heap.size, 0, none⟩ = some (.int .i64 a) := bcell z0 0; have k1 : w4.cell? ⟨w.heap.size, 1, none⟩ = some (.int .i64 b) := bcell z0 1; have g0 : w4.cell? ⟨w3.heap.size, 0, none⟩ = some (.int .u8 kd) := bcell z2 0; have g1 : w4.cell? ⟨w3.heap.size, 1, none⟩ = some (.int .u64 sq) := bcell z2 1; have g2 : w4.cell? ⟨w3.heap.size, 2, none⟩ = some (.slice A3 d.length c3) := bcell z2 2; obtain ⟨t0, t1, t2, t3, t4, t5, f0, f1, f2, f3, f4, f5⟩ := ent_cells z1; have Z1 := Lib.hid z1; clear hb z0 z1 z2))
      clear rs
      have hw1 := HW1.out
      have hw2 := HW2.out
      have hne1 : ¬ w3.heap.size = w.heap.size + 1 := by omega
      have hne2 : ¬ w.heap.size + 1 = w3.heap.size := by omega
      have hi0 : (0 : Int) < (nb : Int) := by omega
      have hi1 : (16 : Int) ≤ (nb : Int) := by omega
      have hi2 : (0 : Int) ≤ (m : Int) + 16 + (nb : Int) - 1 := by omega
      have hi3 : ¬ (nb : Int) = 0 := by omega
      have hi4 : ((nb : Int) == 0) = false := by simp; omega
      have hi5 : ¬ nb = 0 := by omega
      have hq : ((m : Int) + 16 + (nb : Int) - 1).tdiv (nb : Int) = ((m : Int) + 16 + (nb : Int) - 1) / (nb : Int) := Int.tdiv_eq_ediv_of_nonneg hi2
      have hq2 : ((m : Int) + 16 + (nb : Int) - 1) / (nb : Int) ≤ (m : Int) + 16 + (nb : Int) - 1 := Int.ediv_le_self _ hi2
      have hq3 : 0 ≤ ((m : Int) + 16 + (nb : Int) - 1) / (nb : Int) := Int.ediv_nonneg hi2 (by omega)
      have hw5 : IntKind.i64.wrap (((m : Int) + 16 + (nb : Int) - 1) / (nb : Int)) = ((m : Int) + 16 + (nb : Int) - 1) / (nb : Int) := IntWalk.i64_in _ (by omega)
      go_region_held3 (fun w' => w'.cell? ⟨w.heap.size, 0, none⟩ = some (.int .i64 a) ∧ w'.cell? ⟨w.heap.size, 1, none⟩ = some (.int .i64 b) ∧ w'.cell? ⟨w3.heap.size, 0, none⟩ = some (.int .u8 kd) ∧ w'.cell? ⟨w3.heap.size, 1, none⟩ = some (.int .u64 sq) ∧ w'.cell? ⟨w3.heap.size, 2, none⟩ = some (.slice A3 d.length c3)) (go_keep) (fail)
      clear hw1 hw2 hq hq2 hq3 hw5
      go_wp2
      refine post_world (EndE w ⟨a, b, sq, (m + 16 + nb - 1) / nb, kd, d⟩ (.slice A3 d.length c3)) (EndE.drew (EndE.put ⟨a, b, sq, (m + 16 + nb - 1) / nb, kd, d⟩ Z1.out (QB.out.trans (HB4.out.mono QB.out.size)) HD4.out)) ?_
      rintro Y ⟨y, hd, hb⟩
      simp only at y hd
      rw [HKP.out] at y
      obtain ⟨t0, t1, t2, t3, t4, t5, -⟩ := ent_cells y
      exact bodyPost_ret (v := .tuple #[.agg #[.int .i64 a, .int .i64 b, .int .u64 sq, .int .i64 (kpg D.s ((m : Int) + 16 - 16).toNat : Int), .int .u8 kd, .slice A3 d.length c3], .int .i64 0]) (by simp [results, Try.results38, go_sem, t0, t1, t2, t3, t4, t5]) rfl ⟨_, rfl, hd, hb⟩
    · have e1 : (er != 0) = true := bne_iff_ne.2 he
      have HE := Lib.hid he
      rw [if_neg he]
      clear hPE hok he
      go_enter Try.func38, Try.ntmps38
      go_wp2_with fail
      rw [← HW.out]
      go_wp2_with (first
        | (go_at_call 54; (with_reducible refine HTH.out.mono ?_); rw [HTE.out]; rintro e w1 ⟨rfl, hb⟩; obtain ⟨z0, z1⟩ := HBOX.out _ hb; have k0 : w1.cell? ⟨w.heap.size, 0, none⟩ = some (.int .i64 a) := bcell z0 0; have k1 : w1.cell? ⟨w.heap.size, 1, none⟩ = some (.int .i64 b) := bcell z0 1; have HB1 := Aside0.mk hb; clear hb z0 z1)
        | (go_at_call 43; (with_reducible refine (HRW.out _ HB1.out).mono ?_); rintro e w2 ⟨A2, c2, rfl, hc2, hC2, hb⟩; have HB2 := Aside0.mk (HB1.out.trans (hb.mono HB1.out.size)); have HC2 := Aside0.mk hC2; have HCC := Lib.hid hc2; clear hb hC2 hc2)
        | (go_at_call 83; (with_reducible refine (HGET.out _ _ _ HC2.out HCC.out).mono ?_); rintro e w3 ⟨v3, rfl, hd3, hb⟩; obtain ⟨A3, c3, rfl, -, -⟩ := hd3.reads; have HB3 := Aside0.mk (HB2.out.trans (hb.mono HB2.out.size)); have HD3 := Aside0.mk hd3; obtain ⟨z0, z1⟩ := HBOX.out _ HB3.out; obtain ⟨t0, t1, t2, t3, t4, t5, f0, f1, f2, f3, f4, f5⟩ := ent_cells z1; have hz3 : w.heap.size + 1 < w3.heap.size := blt z1; have Z1 := Lib.hid z1; clear hb hd3 z0 z1))
      refine post_world (EndE w zEn (.slice none 0 0)) ((EndE.zero Z1.out (QB.out.trans (HB3.out.mono QB.out.size))).alloc _) ?_
      rintro Y ⟨y, hd, hb⟩
      obtain ⟨t0, t1, t2, t3, t4, t5, -⟩ := ent_cells y
      exact bodyPost_ret (v := .tuple #[.agg #[.int .i64 0, .int .i64 0, .int .u64 0, .int .i64 0, .int .u8 0, .slice none 0 0], .int .i64 er]) (by simp [results, Try.results38, go_sem, t0, t1, t2, t3, t4, t5, zEn]) rfl ⟨_, rfl, hd, hb⟩
end
end Go.Proofs.Ytmbiebdcnadhkaa.Fl
namespace Go.Proofs.Ytmbiebdcnadhkaa.Fl
open Go.RowKit Go.Proofs.YtmbiebdcnadhkaaW.PrintWords Go.Proofs.YtmbiebdcnadhkaaW.PrintMore Go.Maps
set_option linter.unusedSimpArgs false
set_option linter.unusedVariables false
def ScanPost (w : World) (r : Int × List En × Bool) (e : Ending) (w' : World) : Prop :=
  ∃ v, e = .returned (.tuple #[.int .u64 r.1, v, .bool r.2.2]) ∧ kEnt.R TE w' w.heap.size (fun k => w.heap.size ≤ k) v r.2.1 ∧ Below w.heap.size w w'
theorem ent_pages {s : Int × Int × Int} (hs : ShapeOk s) {a b : Int} {raw : List Int} (h : (entL s a b raw).2 = 0) : 1 ≤ (entL s a b raw).1.pages ∧ (entL s a b raw).1.pages ≤ 257 := by
  unfold entL at h ⊢
  by_cases hb : hasB s a b = false
  · rw [if_pos hb] at h; cases h
  · rw [if_neg hb] at h ⊢
    by_cases hp : (parsed raw).2.2.2.2 = 0
    · rw [if_pos hp] at h ⊢
      obtain ⟨m, h1, h2, _, _⟩ := parsed_n hp
      have := kpg_bd hs (n := m) h2
      simp only [h1, show ((m : Int) + 16 - 16).toNat = m by omega]
      omega
    · rw [if_neg hp] at h
      exact absurd h hp
theorem scanF_end {E : Int → En × Int} {n sq : Int} {f : Nat} {page : Int} (h : ¬ (0 ≤ page ∧ page < n)) : scanF E n sq f page = [] := by
  cases f with
  | zero => rfl
  | succ f => rw [scanF, if_neg h]
theorem scanF_bad {E : Int → En × Int} {n sq : Int} {f : Nat} {page : Int} (h : (E page).2 ≠ 0 ∨ (E page).1.kind = 1 ∨ (E page).1.seq ≠ sq) : scanF E n sq f page = [] := by
  cases f with
  | zero => rfl
  | succ f =>
    rw [scanF]
    by_cases h0 : 0 ≤ page ∧ page < n
    · rw [if_pos h0, if_pos h]
    · rw [if_neg h0]
theorem scanF_good {E : Int → En × Int} {n sq : Int} {f : Nat} {page : Int} (h0 : 0 ≤ page ∧ page < n) (h1 : (E page).2 = 0) (h2 : (E page).1.kind ≠ 1) (h3 : (E page).1.seq = sq) : scanF E n sq (f + 1) page = (E page).1 :: scanF E n sq f (page + (E page).1.pages) := by
  rw [scanF, if_pos h0, if_neg]
  rintro (h | h | h)
  · exact h h1
  · exact h2 h
  · exact h h3
theorem ent_app {W : World} {N0 : Nat} {ok : Nat → Prop} {v : Value} {L : List En} (hR : kEnt.R TE W N0 ok v L) {u : Value} {e : En} (hrow : Dat W N0 ok u e.data) :
    ∃ okp : Nat → Prop, kEnt.M W N0 okp e (enC e u) ∧ ∀ k, okp k → ok k ∧ some k ≠ v.ownBlock := by
  refine ⟨_, ⟨u, rfl, hrow.bound⟩, fun k hk => ⟨hk.1, fun e => ?_⟩⟩
  obtain ⟨_, _, _, q, hq, cs, hc⟩ := hk
  obtain rfl : q = TB := by simpa using hq
  obtain ⟨cs', hc'⟩ := own_typed (Kd.R_own hR).choose_spec k e.symm
  exact typ_ne hc hc' (by decide) rfl
theorem scan_app {w4 : World} {B g1 : Nat} {v u : Value} {l : List En} {cs1 : Array Value} (e : En) (hH : w4.heap[g1]? = some (.cells cs1 TE (0, 0))) (hR : kEnt.R TE w4 B (fun k => B ≤ k ∧ k ≠ g1) v l) (hD : Dat w4 B (fun k => B ≤ k) u e.data) (o : Obj) :
    kEnt.R TE (w4.alloc o) B (fun k => (B ≤ k ∧ k ≠ g1) ∧ k ≠ w4.heap.size) v l ∧ ∃ okp : Nat → Prop, kEnt.M (w4.alloc o) B okp e (enC e u) ∧ ∀ k, okp k → ((B ≤ k ∧ k ≠ g1) ∧ k ≠ w4.heap.size) ∧ some k ≠ v.ownBlock := by
  have h1 : kEnt.R TE (w4.alloc o) B (fun k => (B ≤ k ∧ k ≠ g1) ∧ k ≠ w4.heap.size) v l := Kd.R_below (Kd.R_mono (Kd.R_bound hR) (fun k hk => ⟨hk.1, by have := hk.2.2.1; omega⟩)) (below_alloc (Below.refl _ _) _)
  refine ⟨h1, ent_app h1 ((hD.bound.mono (fun k hk => ?_)).below (below_alloc (Below.refl _ _) _))⟩
  obtain ⟨a1, _, a3, q, hq, cs, hc⟩ := hk
  obtain rfl : q = TB := by simpa using hq
  exact ⟨⟨a1, not_typ hH (by decide) hc⟩, by omega⟩
theorem own_ne {w : World} {B : Nat} {ok : Nat → Prop} {v : Value} {l : List En} (h : kEnt.R TE w B ok v l) {k : Nat} (hk : ¬ ok k) : some k ≠ v.ownBlock := fun e => hk (h.1 k e.symm)
section
variable {N0 p : Nat} {D : PD} {w : World} {ok : Nat → Prop}
set_option maxHeartbeats 4000000 in
set_option maxRecDepth 100000 in
theorem Scan_ent (hD : DevIs N0 p D ok w) (hby : BytD D) (a : Int) : Calls Try.prog 15 #[.pointer (some ⟨p, 0, none⟩), .int .i64 a] w (ScanPost w (scanD D a)) := by
  have hs : ShapeOk D.s := by
    obtain ⟨m, v, es, ck, hD⟩ := hD
    exact hD.shape
  have hpg : ∀ x, (entD D a x).2 = 0 → 1 ≤ (entD D a x).1.pages ∧ (entD D a x).1.pages ≤ 257 := fun x h => ent_pages hs h
  have hrd := fun (X : World) (hX : Below w.heap.size w X) (x : Int) => Read_ent (hD.below hX) hby a x
  have hshape := fun (X : World) (hX : Below w.heap.size w X) => Shape_any (hD.below hX)
  unfold scanD
  obtain ⟨E, hE⟩ : ∃ E, E = entD D a := ⟨_, rfl⟩
  rw [← hE] at hpg ⊢
  have hrd : ∀ (X : World), Below w.heap.size w X → ∀ x : Int, Calls Try.prog 38 #[.pointer (some ⟨p, 0, none⟩), .agg #[.int .i64 a, .int .i64 x]] X (EntPost X (E x)) := by rw [hE]; exact hrd
  obtain ⟨n, hn⟩ := Int.eq_ofNat_of_zero_le (show 0 ≤ D.s.2.1 by have := hs.b0; omega)
  have hn0 : 1 ≤ n := by have := hs.b0; omega
  have hn1 : n ≤ 64 := by have := hs.b1; omega
  rw [hn] at hshape ⊢
  have HRD := Lib.hid hrd
  have HSHP := Lib.hid hshape
  have HPG := Lib.hid hpg
  clear hpg hrd hshape hs hD hby hE hn
  unfold scanL
  rcases hh : E 0 with ⟨⟨ha, hb, hsq, hpgs, hkd, hdt⟩, her⟩
  have hr0 := HRD.out w (Below.refl _ _) 0
  have hp0 := HPG.out 0
  rw [hh] at hr0 hp0
  simp only at hp0 ⊢
  have HR0 := Lib.hid hr0
  have HP0 := Lib.hid hp0
  clear hr0 hp0 hh
  by_cases c1 : her = 0
  · subst c1
    by_cases c2 : hkd = 1
    · subst c2
      by_cases c3 : 0 < hdt.length
      · rw [if_pos (.inr (.inr c3))]
        have e3 : decide ((0 : Int) < (hdt.length : Int)) = true := by simp; omega
        have C3 := Lib.hid c3
        clear c3 HP0
        go_enter Try.func15, Try.ntmps15
        go_wp2_with fail
        go_step3
        go_wp2_with (go_at_call 38; (with_reducible refine HR0.out.mono ?_); rintro e w1 ⟨v1, rfl, hd1, hb1⟩; obtain ⟨A1, c1, rfl, -, -⟩ := hd1.reads; have HB1 := Aside0.mk hb1; clear hb1 hd1)
        try rw [Exit.noGoto_ret]
        go_ret3
        exact ⟨_, rfl, Kd.R_nil _ _ _ _ _, below_alloc HB1.out _⟩
      · obtain ⟨hp1, hp2⟩ := HP0.out rfl
        have hdt0 : hdt = [] := List.eq_nil_of_length_eq_zero (by omega)
        subst hdt0
        rw [if_neg (by simp)]
        obtain ⟨L, hL⟩ : ∃ L, L = scanF E (n : Int) hsq 64 hpgs := ⟨_, rfl⟩
        rw [← hL]
        have HL := Lib.hid hL
        clear hL c3 HP0
        go_enter Try.func15, Try.ntmps15
        go_wp2_with fail
        go_step3
        go_wp2_with (go_at_call 38; (with_reducible refine HR0.out.mono ?_); rintro e w1 ⟨v1, rfl, hd1, hb1⟩; obtain ⟨A1, c1, rfl, -, -⟩ := hd1.reads; have HB1 := Aside0.mk hb1; clear hb1 hd1)
        go_step3
        go_wp2_with fail
        go_loopw [9, 10] (fun v9 v10 wr => ∃ (f : Nat) (page : Int) (l : List En), v10 = .int .i64 page ∧ 1 ≤ page ∧ page ≤ 321 ∧ kEnt.R TE wr w.heap.size (fun k => w.heap.size ≤ k ∧ k ≠ w1.heap.size) v9 l ∧ L = l ++ scanF E (n : Int) hsq f page ∧ (n : Int) - page ≤ f ∧ (l.length : Int) ≤ page ∧ Below w.heap.size w wr ∧ wr.heap[w1.heap.size]? = some (.cells #[.int .i64 ha, .int .i64 hb, .int .u64 hsq, .int .i64 hpgs, .int .u8 1, .slice A1 0 c1] TE (0, 0))) (fun _ v10 _ => ((n : Int) - intOf v10).toNat)
        case atStart => exact ⟨64, hpgs, [], rfl, hp1, by omega, Kd.R_nil _ _ _ _ _, by rw [HL.out]; rfl, by omega, by simp; omega, below_alloc HB1.out _, blk_new _ _⟩
        case round =>
          have rs := fun (X : World) => run_shape2 X D.s.1 (n : Int) D.s.2.2
          obtain ⟨f, page, l, rfl, hpa, hpb, hR, hLL, hf, hll, hb, hH⟩ := hrel
          obtain ⟨A9, c9, rfl⟩ := Kd.R_slice hR
          have HR := Aside0.mk hR
          have HLL := Lib.hid hLL
          have HB := Aside0.mk hb
          have HH := Lib.hid hH
          have HLT := Lib.hid hll
          obtain ⟨y0, y1, y2, y3, y4, y5, -⟩ := ent_cells hH
          clear hR hLL hb hH hll
          by_cases hlt : page < (n : Int)
          · have hfit : fitsB page 0 ((n : Int) - 1) = true := by unfold fitsB; rw [decide_eq_true_iff]; omega
            have HFIT := Lib.hid hfit
            clear hfit y0 y1 y2 y3 y4 y5
            rcases hx : E page with ⟨⟨xa, xb, xsq, xpg, xkd, xdt⟩, xer⟩
            have hrx := fun (X : World) (hX : Below w.heap.size w X) => HRD.out X hX page
            rw [hx] at hrx
            have HRX := Lib.hid hrx
            have HX := Lib.hid hx
            clear hrx hx
            by_cases x1 : xer = 0
            · subst x1
              by_cases x2 : xkd = 1
              · subst x2
                have HBAD := Lib.hid (show (E page).2 ≠ 0 ∨ (E page).1.kind = 1 ∨ (E page).1.seq ≠ hsq from .inr (.inl (by rw [HX.out])))
                go_wp2_with (first
                  | (go_at_call 56; (with_reducible refine (HSHP.out _ HB.out).mono ?_); rintro e w2 ⟨rfl, hb2⟩; have HB2 := Aside0.mk (HB.out.trans (hb2.mono HB.out.size)); have HR2 := Aside0.mk (Kd.R_below HR.out hb2); have HH2 := Lib.hid ((hb2.block _ (blt HH.out)).trans HH.out); clear hb2)
                  | (go_at_call 59; (with_reducible refine (Fits_any _ _ _ _).mono ?_); rw [HFIT.out]; rintro e w3 ⟨rfl, rfl⟩)
                  | (go_at_call 38; (with_reducible refine (HRX.out _ HB2.out).mono ?_); rintro e w4 ⟨v4, rfl, hd4, hb4⟩; obtain ⟨A4, c4, rfl, -, -⟩ := hd4.reads; have HB4 := Aside0.mk (HB2.out.trans (hb4.mono HB2.out.size)); have HR4 := Aside0.mk (Kd.R_below HR2.out hb4); have h4 := (hb4.block _ (blt HH2.out)).trans HH2.out; obtain ⟨y0, y1, y2, y3, y4, y5, -⟩ := ent_cells h4; have HH4 := Lib.hid h4; have HD4 := Aside0.mk (Dat.mono (Dat.lower hd4 HB2.out.size) (fun k hk => Nat.le_trans HB2.out.size hk)); have hz4 : w1.heap.size < w4.heap.size := blt h4; clear hb4 hd4 h4))
                try rw [Exit.noGoto_ret]
                go_ret3
                rw [HLL.out, scanF_bad HBAD.out, List.append_nil]
                exact ⟨_, rfl, Kd.R_below (Kd.R_mono HR4.out (fun k hk => hk.1)) (below_alloc (Below.refl _ _) _), below_alloc HB4.out _⟩
              · have e2 : (xkd == 1) = false := by simpa using x2
                by_cases x3 : xsq = hsq
                · subst x3
                  have hpx := HPG.out page
                  rw [HX.out] at hpx
                  obtain ⟨hq1, hq2⟩ := hpx rfl
                  simp only at hq1 hq2
                  obtain ⟨f, rfl⟩ : ∃ f', f = f' + 1 := ⟨f - 1, by omega⟩
                  have hgood := scanF_good (E := E) (n := (n : Int)) (sq := xsq) (f := f) (page := page) ⟨by omega, hlt⟩ (by rw [HX.out]) (by rw [HX.out]; exact x2) (by rw [HX.out])
                  rw [HX.out] at hgood
                  simp only at hgood
                  have HGOOD := Lib.hid hgood
                  clear hgood hpx x2
                  go_wp2_with (first
                    | (go_at_call 56; (with_reducible refine (HSHP.out _ HB.out).mono ?_); rintro e w2 ⟨rfl, hb2⟩; have HB2 := Aside0.mk (HB.out.trans (hb2.mono HB.out.size)); have HR2 := Aside0.mk (Kd.R_below HR.out hb2); have HH2 := Lib.hid ((hb2.block _ (blt HH.out)).trans HH.out); clear hb2)
                    | (go_at_call 59; (with_reducible refine (Fits_any _ _ _ _).mono ?_); rw [HFIT.out]; rintro e w3 ⟨rfl, rfl⟩)
                    | (go_at_call 38; (with_reducible refine (HRX.out _ HB2.out).mono ?_); rintro e w4 ⟨v4, rfl, hd4, hb4⟩; obtain ⟨A4, c4, rfl, -, -⟩ := hd4.reads; have HB4 := Aside0.mk (HB2.out.trans (hb4.mono HB2.out.size)); have hr4 := Kd.R_below HR2.out hb4; have h4 := (hb4.block _ (blt HH2.out)).trans HH2.out; obtain ⟨y0, y1, y2, y3, y4, y5, -⟩ := ent_cells h4; have hz4 : w1.heap.size < w4.heap.size := blt h4; obtain ⟨hr5, okp, hm5, hok5⟩ := scan_app ⟨xa, xb, xsq, xpg, xkd, xdt⟩ h4 hr4 (Dat.mono (Dat.lower hd4 HB2.out.size) (fun k hk => Nat.le_trans HB2.out.size hk)) (.cells #[.int .i64 xa, .int .i64 xb, .int .u64 xsq, .int .i64 xpg, .int .u8 xkd, .slice A4 xdt.length c4] TE); have HR5 := Aside0.mk hr5; have HM5 := Aside0.mk hm5; have HOK5 := Lib.hid hok5; have HB5 := Aside0.mk (below_alloc HB4.out (.cells #[.int .i64 xa, .int .i64 xb, .int .u64 xsq, .int .i64 xpg, .int .u8 xkd, .slice A4 xdt.length c4] TE)); have HZ4 := Lib.hid h4; clear hb4 hd4 h4 hr4 hr5 hm5 hok5)
                    | (at_builtin; refine Kd.R_append kEnt (w0 := w) w.heap.size rfl (.tmp 63) (.tmp 65) 41 TE (.agg #[.int .i64 0, .int .i64 0, .int .u64 0, .int .i64 0, .int .u8 0, .slice none 0 0]) 64 rfl Try.underlying41 info_ent rfl (by decide) (by decide) (.slice A9 l.length c9) l ⟨xa, xb, xsq, xpg, xkd, xdt⟩ (enC ⟨xa, xb, xsq, xpg, xkd, xdt⟩ (.slice A4 xdt.length c4)) (fun k => (w.heap.size ≤ k ∧ k ≠ w1.heap.size) ∧ k ≠ w4.heap.size) okp rfl (by simp [Act.eval]) HM5.out HOK5.out (fun k hk => by have := HB4.out.size; have := blt HZ4.out; simp at hk; omega) HR5.out HB5.out HB5.out.size (by have := HLT.out; omega) ?_; intro v6 w6 hr6 hb6 hg6 hat6; have hbx := (hg6.block w4.heap.size (by simp) (own_ne HR5.out (by simp))).trans (blk_new w4 _); have hb1 := (hg6.block w1.heap.size (by simp; omega) (own_ne HR5.out (by simp))).trans ((Below.heap_alloc _ _ _ (blt HZ4.out)).trans HZ4.out); have HX6 := Lib.hid hbx; have HH6 := Lib.hid hb1; obtain ⟨z0, z1, z2, z3, z4, z5, -⟩ := ent_cells hbx; have HR6 := Aside0.mk hr6; have HB6 := Aside0.mk hb6; clear hr6 hb6 hg6 hat6 hbx hb1 y0 y1 y2 y3 y4 y5))
                  refine ⟨⟨f, page + xpg, l ++ [⟨xa, xb, xsq, xpg, xkd, xdt⟩], by go_num, by omega, by omega, Kd.R_mono HR6.out (fun k hk => hk.1), by rw [HLL.out, HGOOD.out]; simp, by omega, by have := HLT.out; simp; omega, HB6.out, HH6.out⟩, by simp [intOf]; omega⟩
                · have e3 : (xsq != hsq) = true := bne_iff_ne.2 x3
                  have HBAD := Lib.hid (show (E page).2 ≠ 0 ∨ (E page).1.kind = 1 ∨ (E page).1.seq ≠ hsq from .inr (.inr (by rw [HX.out]; exact x3)))
                  clear x2 x3
                  go_wp2_with (first
                    | (go_at_call 56; (with_reducible refine (HSHP.out _ HB.out).mono ?_); rintro e w2 ⟨rfl, hb2⟩; have HB2 := Aside0.mk (HB.out.trans (hb2.mono HB.out.size)); have HR2 := Aside0.mk (Kd.R_below HR.out hb2); have HH2 := Lib.hid ((hb2.block _ (blt HH.out)).trans HH.out); clear hb2)
                    | (go_at_call 59; (with_reducible refine (Fits_any _ _ _ _).mono ?_); rw [HFIT.out]; rintro e w3 ⟨rfl, rfl⟩)
                    | (go_at_call 38; (with_reducible refine (HRX.out _ HB2.out).mono ?_); rintro e w4 ⟨v4, rfl, hd4, hb4⟩; obtain ⟨A4, c4, rfl, -, -⟩ := hd4.reads; have HB4 := Aside0.mk (HB2.out.trans (hb4.mono HB2.out.size)); have HR4 := Aside0.mk (Kd.R_below HR2.out hb4); have h4 := (hb4.block _ (blt HH2.out)).trans HH2.out; obtain ⟨y0, y1, y2, y3, y4, y5, -⟩ := ent_cells h4; have HH4 := Lib.hid h4; have HD4 := Aside0.mk (Dat.mono (Dat.lower hd4 HB2.out.size) (fun k hk => Nat.le_trans HB2.out.size hk)); have hz4 : w1.heap.size < w4.heap.size := blt h4; clear hb4 hd4 h4))
                  try rw [Exit.noGoto_ret]
                  go_ret3
                  rw [HLL.out, scanF_bad HBAD.out, List.append_nil]
                  exact ⟨_, rfl, Kd.R_below (Kd.R_mono HR4.out (fun k hk => hk.1)) (below_alloc (Below.refl _ _) _), below_alloc HB4.out _⟩
            · have e1 : (xer != 0) = true := bne_iff_ne.2 x1
              have HBAD := Lib.hid (show (E page).2 ≠ 0 ∨ (E page).1.kind = 1 ∨ (E page).1.seq ≠ hsq from .inl (by rw [HX.out]; exact x1))
              clear x1
              go_wp2_with (first
                | (go_at_call 56; (with_reducible refine (HSHP.out _ HB.out).mono ?_); rintro e w2 ⟨rfl, hb2⟩; have HB2 := Aside0.mk (HB.out.trans (hb2.mono HB.out.size)); have HR2 := Aside0.mk (Kd.R_below HR.out hb2); have HH2 := Lib.hid ((hb2.block _ (blt HH.out)).trans HH.out); clear hb2)
                | (go_at_call 59; (with_reducible refine (Fits_any _ _ _ _).mono ?_); rw [HFIT.out]; rintro e w3 ⟨rfl, rfl⟩)
                | (go_at_call 38; (with_reducible refine (HRX.out _ HB2.out).mono ?_); rintro e w4 ⟨v4, rfl, hd4, hb4⟩; obtain ⟨A4, c4, rfl, -, -⟩ := hd4.reads; have HB4 := Aside0.mk (HB2.out.trans (hb4.mono HB2.out.size)); have HR4 := Aside0.mk (Kd.R_below HR2.out hb4); have h4 := (hb4.block _ (blt HH2.out)).trans HH2.out; obtain ⟨y0, y1, y2, y3, y4, y5, -⟩ := ent_cells h4; have HH4 := Lib.hid h4; have HD4 := Aside0.mk (Dat.mono (Dat.lower hd4 HB2.out.size) (fun k hk => Nat.le_trans HB2.out.size hk)); have hz4 : w1.heap.size < w4.heap.size := blt h4; clear hb4 hd4 h4))
              try rw [Exit.noGoto_ret]
              go_ret3
              rw [HLL.out, scanF_bad HBAD.out, List.append_nil]
              exact ⟨_, rfl, Kd.R_below (Kd.R_mono HR4.out (fun k hk => hk.1)) (below_alloc (Below.refl _ _) _), below_alloc HB4.out _⟩
          · have hfit : fitsB page 0 ((n : Int) - 1) = false := by unfold fitsB; rw [decide_eq_false_iff_not]; omega
            have HFIT := Lib.hid hfit
            have HEND := Lib.hid (show ¬ (0 ≤ page ∧ page < (n : Int)) from fun h => hlt h.2)
            clear hfit y0 y1 y2 y3 y4 y5
            go_wp2_with (first
              | (go_at_call 56; (with_reducible refine (HSHP.out _ HB.out).mono ?_); rintro e w2 ⟨rfl, hb2⟩; have HB2 := Aside0.mk (HB.out.trans (hb2.mono HB.out.size)); have HR2 := Aside0.mk (Kd.R_below HR.out hb2); have h2 := (hb2.block _ (blt HH.out)).trans HH.out; obtain ⟨y0, y1, y2, y3, y4, y5, -⟩ := ent_cells h2; clear hb2 h2)
              | (go_at_call 59; (with_reducible refine (Fits_any _ _ _ _).mono ?_); rw [HFIT.out]; rintro e w3 ⟨rfl, rfl⟩))
            try rw [Exit.noGoto_ret]
            go_ret3
            rw [HLL.out, scanF_end HEND.out, List.append_nil]
            exact ⟨_, rfl, Kd.R_mono HR2.out (fun k hk => hk.1), HB2.out⟩
    · rw [if_pos (.inr (.inl c2))]
      have e2 : (hkd != 1) = true := bne_iff_ne.2 c2
      clear c2 HP0
      go_enter Try.func15, Try.ntmps15
      go_wp2_with fail
      go_step3
      go_wp2_with (go_at_call 38; (with_reducible refine HR0.out.mono ?_); rintro e w1 ⟨v1, rfl, hd1, hb1⟩; obtain ⟨A1, c1, rfl, -, -⟩ := hd1.reads; have HB1 := Aside0.mk hb1; clear hb1 hd1)
      try rw [Exit.noGoto_ret]
      go_ret3
      exact ⟨_, rfl, Kd.R_nil _ _ _ _ _, below_alloc HB1.out _⟩
  · rw [if_pos (.inl c1)]
    have e1 : (her != 0) = true := bne_iff_ne.2 c1
    clear c1 HP0
    go_enter Try.func15, Try.ntmps15
    go_wp2_with fail
    go_step3
    go_wp2_with (go_at_call 38; (with_reducible refine HR0.out.mono ?_); rintro e w1 ⟨v1, rfl, hd1, hb1⟩; obtain ⟨A1, c1, rfl, -, -⟩ := hd1.reads; have HB1 := Aside0.mk hb1; clear hb1 hd1)
    try rw [Exit.noGoto_ret]
    go_ret3
    exact ⟨_, rfl, Kd.R_nil _ _ _ _ _, below_alloc HB1.out _⟩
end
end Go.Proofs.Ytmbiebdcnadhkaa.Fl
namespace Go.Proofs.Ytmbiebdcnadhkaa.Fl
set_option linter.unusedSimpArgs false
set_option linter.unusedVariables false
structure Sound (D : PD) : Prop where
  sh : ShapeOk D.s
  lens : ∀ q ∈ D.mp, q.2.length = D.s.2.2.toNat
theorem DevIs.sound {N0 p : Nat} {D : PD} {ok : Nat → Prop} {w : World} (h : DevIs N0 p D ok w) : Sound D := by
  obtain ⟨m, v, es, ck, h⟩ := h
  exact ⟨h.shape, h.lens⟩
section
variable {D : PD} {a b : Int} {l : List Int}
theorem writeE_zero (h : hasB D.s a b = true) (hl : (l.length : Int) ≤ D.s.2.2) (hu : usedB D a b = false) : writeE D a b l = 0 := by
  unfold writeE
  rw [if_neg (by rw [h]; decide), if_neg (by omega), if_neg (by rw [hu]; decide)]
theorem got_write (h : hasB D.s a b = true) (hl : (l.length : Int) ≤ D.s.2.2) (hu : usedB D a b = false) (c d : Int) :
    gotD (writeD D a b l) c d = if c = a ∧ d = b then full D.s.2.2.toNat l else gotD D c d := by
  have h0 := writeE_zero h hl hu
  unfold gotD
  rw [writeD_s]
  unfold writeD
  rw [if_pos h0]
  unfold readD numB
  simp only
  by_cases hc : c = a ∧ d = b
  · obtain ⟨rfl, rfl⟩ := hc
    rw [if_pos h, look_put, if_pos rfl, if_pos ⟨rfl, rfl⟩, Option.getD_some, full_full (by omega)]
  · have hne : ¬ ((c, d) = (a, b)) := fun e => hc ⟨congrArg Prod.fst e, congrArg Prod.snd e⟩
    rw [look_put, if_neg hne, if_neg hc]
theorem used_write (h : hasB D.s a b = true) (hl : (l.length : Int) ≤ D.s.2.2) (hu : usedB D a b = false) (c d : Int) :
    usedB (writeD D a b l) c d = (decide (c = a ∧ d = b) || usedB D c d) := by
  have h0 := writeE_zero h hl hu
  unfold usedB
  rw [writeD_s]
  unfold writeD
  rw [if_pos h0]
  simp only
  by_cases hc : c = a ∧ d = b
  · obtain ⟨rfl, rfl⟩ := hc
    rw [look_put, if_pos rfl, h]
    simp
  · have hne : ¬ ((c, d) = (a, b)) := fun e => hc ⟨congrArg Prod.fst e, congrArg Prod.snd e⟩
    rw [look_put, if_neg hne, decide_eq_false hc]
    rfl
theorem dirty_write (h : hasB D.s a b = true) (hl : (l.length : Int) ≤ D.s.2.2) (hu : usedB D a b = false) : (writeD D a b l).dirty = D.dirty ++ [(a, b)] := by
  unfold writeD
  rw [if_pos (writeE_zero h hl hu)]
def FreeRun (D : PD) (a b : Int) (rs : List (List Int)) : Prop := ∀ i : Nat, i < rs.length → hasB D.s a (b + (i : Int)) = true ∧ usedB D a (b + (i : Int)) = false
theorem FreeRun.head {r : List Int} {rs : List (List Int)} (h : FreeRun D a b (r :: rs)) : hasB D.s a b = true ∧ usedB D a b = false := by
  have := h 0 (by simp)
  simpa using this
theorem FreeRun.tail {r : List Int} {rs : List (List Int)} (h : FreeRun D a b (r :: rs)) (hl : (r.length : Int) ≤ D.s.2.2) : FreeRun (writeD D a b r) a (b + 1) rs := fun i hi => by
  have h1 := h (i + 1) (by simp; omega)
  rw [writeD_s, used_write h.head.1 hl h.head.2]
  rw [show b + 1 + (i : Int) = b + ((i + 1 : Nat) : Int) by omega, h1.2, Bool.or_false]
  exact ⟨h1.1, decide_eq_false (fun hh => by omega)⟩
theorem got_wr : ∀ (rs : List (List Int)) (b : Int) (D : PD), FreeRun D a b rs → (∀ r ∈ rs, (r.length : Int) ≤ D.s.2.2) → ∀ c d : Int, gotD (wrD a b rs D) c d = if c = a ∧ b ≤ d ∧ d < b + rs.length then full D.s.2.2.toNat (rs.getD (d - b).toNat []) else gotD D c d
  | [], b, D, _, _, c, d => by
    rw [if_neg (fun h => by simp at h; omega)]
    rfl
  | r :: rs, b, D, h, hl, c, d => by
    have hr := hl r (by simp)
    show gotD (wrD a (b + 1) rs (writeD D a b r)) c d = _
    rw [got_wr rs (b + 1) (writeD D a b r) (h.tail hr) (fun q hq => by rw [writeD_s]; exact hl q (by simp [hq])), writeD_s, got_write h.head.1 hr h.head.2]
    by_cases h1 : c = a ∧ b + 1 ≤ d ∧ d < b + 1 + rs.length
    · rw [if_pos h1, if_pos ⟨h1.1, by omega, by simp; omega⟩]
      obtain ⟨k, hk⟩ := Int.eq_ofNat_of_zero_le (show 0 ≤ d - (b + 1) by omega)
      rw [hk, show d - b = ((k + 1 : Nat) : Int) by omega]
      rfl
    · rw [if_neg h1]
      by_cases h2 : c = a ∧ d = b
      · rw [if_pos h2, if_pos ⟨h2.1, by omega, by simp; omega⟩, h2.2, Int.sub_self]
        rfl
      · rw [if_neg h2, if_neg]
        rintro ⟨x1, x2, x3⟩
        simp at x3
        exact h1 ⟨x1, by omega, by omega⟩
theorem used_wr : ∀ (rs : List (List Int)) (b : Int) (D : PD), FreeRun D a b rs → (∀ r ∈ rs, (r.length : Int) ≤ D.s.2.2) → ∀ c d : Int, usedB (wrD a b rs D) c d = (decide (c = a ∧ b ≤ d ∧ d < b + rs.length) || usedB D c d)
  | [], b, D, _, _, c, d => by
    rw [decide_eq_false (fun h => by simp at h; omega)]
    rfl
  | r :: rs, b, D, h, hl, c, d => by
    have hr := hl r (by simp)
    show usedB (wrD a (b + 1) rs (writeD D a b r)) c d = _
    rw [used_wr rs (b + 1) (writeD D a b r) (h.tail hr) (fun q hq => by rw [writeD_s]; exact hl q (by simp [hq])), used_write h.head.1 hr h.head.2, ← Bool.or_assoc, ← Bool.decide_or]
    congr 1
    refine decide_eq_decide.2 ⟨?_, ?_⟩
    · rintro (⟨x1, x2, x3⟩ | ⟨x1, x2⟩)
      · exact ⟨x1, by omega, by simp; omega⟩
      · exact ⟨x1, by omega, by simp; omega⟩
    · rintro ⟨x1, x2, x3⟩
      simp at x3
      by_cases hd : d = b
      · exact .inr ⟨x1, hd⟩
      · exact .inl ⟨x1, by omega, by omega⟩
theorem dirty_wr : ∀ (rs : List (List Int)) (b : Int) (D : PD), FreeRun D a b rs → (∀ r ∈ rs, (r.length : Int) ≤ D.s.2.2) → (wrD a b rs D).dirty = D.dirty ++ (List.range rs.length).map (fun i : Nat => (a, b + (i : Int)))
  | [], b, D, _, _ => by simp [wrD]
  | r :: rs, b, D, h, hl => by
    have hr := hl r (by simp)
    show (wrD a (b + 1) rs (writeD D a b r)).dirty = _
    rw [dirty_wr rs (b + 1) (writeD D a b r) (h.tail hr) (fun q hq => by rw [writeD_s]; exact hl q (by simp [hq])), dirty_write h.head.1 hr h.head.2, List.length_cons, List.range_succ_eq_map, List.map_cons, List.map_map, List.append_assoc]
    congr 1
    simp only [List.singleton_append, Int.natCast_zero, Int.add_zero]
    congr 1
    refine List.map_congr_left (fun i _ => ?_)
    show (a, b + 1 + (i : Int)) = (a, b + ((i + 1 : Nat) : Int))
    congr 1
    omega
end
def parts (s : Int × Int × Int) (kd sq : Int) (l : List Int) : List (List Int) := chunkL s.2.2.toNat (rec kd sq l)
theorem nb_pos {s : Int × Int × Int} (hs : ShapeOk s) : 16 ≤ s.2.2.toNat ∧ s.2.2.toNat ≤ 256 ∧ ((s.2.2.toNat : Nat) : Int) = s.2.2 := by
  have := hs.c0
  have := hs.c1
  omega
theorem parts_len {s : Int × Int × Int} (hs : ShapeOk s) (kd sq : Int) (l : List Int) : (parts s kd sq l).length = kpg s l.length := by
  unfold parts kpg
  rw [chunk_len (by have := nb_pos hs; omega), rec_len]
theorem parts_le {s : Int × Int × Int} (hs : ShapeOk s) {kd sq : Int} {l r : List Int} (h : r ∈ parts s kd sq l) : (r.length : Int) ≤ s.2.2 := by
  have h1 := chunk_le (by have := nb_pos hs; omega) r h
  have := nb_pos hs
  omega
structure RecOk (kd sq : Int) (l : List Int) : Prop where
  kd : KindOk kd
  sq : SeqOk sq
  byt : Byt l
  len : l.length ≤ 4096
theorem appE_zero {D : PD} (a b : Int) (n : Nat) : (appE D a b n).2 = 0 ↔ (hasB D.s a b = true ∧ n ≤ 4096 ∧ b + (kpg D.s n : Int) ≤ D.s.2.1 ∧ anyUsedD a b (kpg D.s n) D = false) := by
  unfold appE
  by_cases h1 : hasB D.s a b = false
  · rw [if_pos h1, h1]; simp
  · rw [if_neg h1]
    by_cases h2 : 4096 < n
    · rw [if_pos h2]; simp; omega
    · rw [if_neg h2]
      by_cases h3 : D.s.2.1 < b + (kpg D.s n : Int)
      · rw [if_pos h3]; simp; omega
      · rw [if_neg h3]
        by_cases h4 : anyUsedD a b (kpg D.s n) D = true
        · rw [if_pos h4, h4]; simp
        · rw [if_neg h4]
          simp only [Bool.not_eq_false] at h1
          simp only [Bool.not_eq_true] at h4
          simp [h1, h4]; omega
theorem appE_one {D : PD} {a b : Int} {n : Nat} (h : (appE D a b n).2 = 0) : appE D a b n = ((kpg D.s n : Int), 0) := by
  obtain ⟨h1, h2, h3, h4⟩ := (appE_zero a b n).1 h
  unfold appE
  rw [if_neg (by rw [h1]; decide), if_neg (by omega), if_neg (by omega), if_neg (by rw [h4]; decide)]
theorem app_run {D : PD} (hs : ShapeOk D.s) {a b kd sq : Int} {l : List Int} (h : (appE D a b l.length).2 = 0) : FreeRun D a b (parts D.s kd sq l) := by
  obtain ⟨h1, h2, h3, h4⟩ := (appE_zero a b l.length).1 h
  intro i hi
  rw [parts_len hs] at hi
  have h5 := (hasB_iff _ _ _).1 h1
  refine ⟨(hasB_iff _ _ _).2 ⟨h5.1, h5.2.1, by omega, by omega⟩, ?_⟩
  unfold anyUsedD at h4
  rw [List.any_eq_false] at h4
  have := h4 i (by simpa using hi)
  simpa using this
theorem appD_ok {D : PD} {a b : Int} {n : Nat} {bs : List Int} (h : (appE D a b n).2 = 0) : appD D a b n bs = wrD a b (chunkL D.s.2.2.toNat bs) D := by unfold appD; rw [if_pos h]
theorem appD_s (D : PD) (a b : Int) (n : Nat) (bs : List Int) : (appD D a b n bs).s = D.s := by
  unfold appD
  split
  · exact wrD_s _ _ _ _
  · rfl
structure Holds (D : PD) (a q kd sq : Int) (l : List Int) : Prop where
  ok : RecOk kd sq l
  has : hasB D.s a q = true
  room : q + (kpg D.s l.length : Int) ≤ D.s.2.1
  got : ∀ i : Nat, i < kpg D.s l.length → gotD D a (q + (i : Int)) = full D.s.2.2.toNat ((parts D.s kd sq l).getD i [])
theorem app_holds {D : PD} (hs : ShapeOk D.s) {a b kd sq : Int} {l : List Int} (hr : RecOk kd sq l) (h : (appE D a b l.length).2 = 0) : Holds (appD D a b l.length (rec kd sq l)) a b kd sq l := by
  obtain ⟨h1, h2, h3, h4⟩ := (appE_zero a b l.length).1 h
  have hrun := app_run (kd := kd) (sq := sq) hs h
  refine ⟨hr, by rw [appD_s]; exact h1, by rw [appD_s]; exact h3, fun i hi => ?_⟩
  rw [appD_s] at hi ⊢
  rw [appD_ok h]
  have := got_wr (parts D.s kd sq l) b D hrun (fun r hr => parts_le hs hr) a (b + (i : Int))
  unfold parts at this
  rw [this, if_pos ⟨rfl, by omega, by have := parts_len hs kd sq l; unfold parts at this; omega⟩, show (b + (i : Int) - b).toNat = i by omega]
  rfl
theorem app_got {D : PD} (hs : ShapeOk D.s) {a b kd sq : Int} {l : List Int} (h : (appE D a b l.length).2 = 0) {c d : Int} (hcd : ¬ (c = a ∧ b ≤ d ∧ d < b + (kpg D.s l.length : Int))) : gotD (appD D a b l.length (rec kd sq l)) c d = gotD D c d := by
  rw [appD_ok h]
  have := got_wr (parts D.s kd sq l) b D (app_run hs h) (fun r hr => parts_le hs hr) c d
  unfold parts at this
  rw [this, if_neg]
  have hl := parts_len hs kd sq l
  unfold parts at hl
  rw [hl]
  exact hcd
theorem app_used {D : PD} (hs : ShapeOk D.s) {a b kd sq : Int} {l : List Int} (h : (appE D a b l.length).2 = 0) (c d : Int) : usedB (appD D a b l.length (rec kd sq l)) c d = (decide (c = a ∧ b ≤ d ∧ d < b + (kpg D.s l.length : Int)) || usedB D c d) := by
  rw [appD_ok h]
  have := used_wr (parts D.s kd sq l) b D (app_run hs h) (fun r hr => parts_le hs hr) c d
  have hl := parts_len hs kd sq l
  unfold parts at this hl
  rw [this, hl]
theorem app_dirty {D : PD} (hs : ShapeOk D.s) {a b kd sq : Int} {l : List Int} (h : (appE D a b l.length).2 = 0) : (appD D a b l.length (rec kd sq l)).dirty = D.dirty ++ (List.range (kpg D.s l.length)).map (fun i : Nat => (a, b + (i : Int))) := by
  rw [appD_ok h]
  have := dirty_wr (parts D.s kd sq l) b D (app_run hs h) (fun r hr => parts_le hs hr)
  have hl := parts_len hs kd sq l
  unfold parts at this hl
  rw [this, hl]
theorem Holds.keep {D : PD} (hs : ShapeOk D.s) {a b kd sq : Int} {l : List Int} (h : (appE D a b l.length).2 = 0) {c q kd2 sq2 : Int} {l2 : List Int} (hh : Holds D c q kd2 sq2 l2) (hd : c ≠ a ∨ q + (kpg D.s l2.length : Int) ≤ b) : Holds (appD D a b l.length (Fl.rec kd sq l)) c q kd2 sq2 l2 := by
  refine ⟨hh.ok, by rw [appD_s]; exact hh.has, by rw [appD_s]; exact hh.room, fun i hi => ?_⟩
  rw [appD_s] at hi ⊢
  rw [app_got hs h (by omega)]
  exact hh.got i hi
theorem pad_flat {n : Nat} (hn : 1 ≤ n) : ∀ (k : Nat) (bs : List Int), bs.length ≤ k → ∃ m, ((chunkL n bs).map (full n)).flatten = bs ++ List.replicate m 255
  | 0, bs, h => by
    have : bs = [] := List.eq_nil_of_length_eq_zero (by omega)
    subst this
    exact ⟨0, by rw [chunkL_nil]; rfl⟩
  | k + 1, bs, h => by
    by_cases h0 : 0 < bs.length
    · rw [chunkL_cons h0 hn, List.map_cons, List.flatten_cons]
      by_cases h1 : bs.length ≤ n
      · rw [List.take_of_length_le h1, List.drop_of_length_le h1, chunkL_nil]
        exact ⟨n - bs.length, by simp [full]⟩
      · obtain ⟨m, hm⟩ := pad_flat hn k (bs.drop n) (by rw [List.length_drop]; omega)
        refine ⟨m, ?_⟩
        rw [hm, full_self (by rw [List.length_take]; omega), ← List.append_assoc, List.take_append_drop]
    · have : bs = [] := List.eq_nil_of_length_eq_zero (by omega)
      subst this
      exact ⟨0, by rw [chunkL_nil]; rfl⟩
theorem flat_range {α : Type} (f : Nat → List α) (g : List (List α)) : ∀ k, k = g.length → (∀ i, i < k → f i = g.getD i []) → (List.range k).flatMap f = g.flatten := by
  intro k hk h
  have : (List.range k).map f = g := by
    refine List.ext_getElem (by simp [hk]) (fun i h1 h2 => ?_)
    simp only [List.getElem_map, List.getElem_range]
    rw [h i (by omega), List.getD_eq_getElem?_getD, List.getElem?_eq_getElem h2]
    rfl
  rw [List.flatMap_def, this]
theorem raw_split {D : PD} {a q : Int} {k : Nat} (hk : k ≤ nRaw D.s a q) : ∃ r, rawD D a q = rawK D a q k ++ r := by
  unfold rawD
  obtain ⟨m, hm⟩ : ∃ m, nRaw D.s a q = k + m := ⟨nRaw D.s a q - k, by omega⟩
  rw [hm]
  unfold rawK
  rw [List.range_add, List.flatMap_append]
  exact ⟨_, rfl⟩
theorem parsed_rec {kd sq : Int} {l rest : List Int} (hr : RecOk kd sq l) (hb : Byt rest) (hl : rest.length ≤ 700000) : parsed (rec kd sq l ++ rest) = (kd, sq, l, ((l.length : Nat) : Int) + 16, 0) := by
  have h1 := Go.Proofs.Ytmbiebdcnadhkaa.FrMore.get_rec (l.length + rest.length + 100) kd sq l rest ⟨hr.kd.k0, hr.kd.k1⟩ ⟨hr.sq.k0, hr.sq.k1⟩ hr.byt hb hr.len hl (Nat.le_refl _)
  have hlen : (rec kd sq l ++ rest).length = l.length + 16 + rest.length := by rw [List.length_append, rec_len]
  have hbb : Byt (rec kd sq l ++ rest) := Byt.append (rec_byt hr.kd hr.byt) hb
  have h2 := Go.Proofs.Ytmbiebdcnadhkaa.FrameFacts.get_is (l.length + rest.length + 100) (rec kd sq l ++ rest) hbb (by have := hr.len; omega) (by omega)
  have h3 : some (parsed (rec kd sq l ++ rest)) = some (kd, sq, l, ((l.length : Nat) : Int) + 16, 0) := h2.symm.trans h1
  exact Option.some.inj h3
theorem raw_len {D : PD} (hs : Sound D) (a b : Int) : (rawD D a b).length ≤ 16384 := by
  have hl : ∀ x, (gotD D a x).length ≤ 256 := fun x => by
    unfold gotD readD numB
    split
    · rw [full_length (look_len hs.lens _)]
      have := hs.sh.c1
      omega
    · simp
  have h1 := rawK_len (b := b) hl (nRaw D.s a b)
  have h2 := nRaw_le hs.sh a b
  unfold rawD
  omega
theorem Holds.ent {D : PD} (hs : Sound D) (hb : BytD D) {a q kd sq : Int} {l : List Int} (h : Holds D a q kd sq l) : entD D a q = (⟨a, q, sq, (kpg D.s l.length : Int), kd, l⟩, 0) := by
  have hn := nb_pos hs.sh
  have hq := (hasB_iff _ _ _).1 h.has
  have hnr : kpg D.s l.length ≤ nRaw D.s a q := by
    unfold nRaw
    have := h.room
    rw [if_pos hq]
    omega
  obtain ⟨r, hr⟩ := raw_split hnr
  have hk : rawK D a q (kpg D.s l.length) = ((parts D.s kd sq l).map (full D.s.2.2.toNat)).flatten := by
    refine flat_range _ _ _ (by rw [List.length_map, parts_len hs.sh]) (fun i hi => ?_)
    rw [h.got i hi, List.getD_eq_getElem?_getD, List.getD_eq_getElem?_getD, List.getElem?_map]
    rw [List.getElem?_eq_getElem (by rw [parts_len hs.sh]; exact hi)]
    rfl
  obtain ⟨m, hm⟩ := pad_flat (n := D.s.2.2.toNat) (by omega) _ (Fl.rec kd sq l) (Nat.le_refl _)
  unfold parts at hk
  rw [hm] at hk
  have hraw : rawD D a q = Fl.rec kd sq l ++ (List.replicate m 255 ++ r) := by rw [hr, hk, List.append_assoc]
  have hby := hb.raw a q
  have hlen := raw_len hs a q
  rw [hraw] at hby hlen
  rw [List.length_append] at hlen
  have hp := parsed_rec h.ok (rest := List.replicate m 255 ++ r) (fun x hx => hby x (List.mem_append.2 (.inr hx))) (by omega)
  unfold entD entL
  rw [if_neg (by rw [h.has]; decide), hraw, hp]
  simp only [if_true]
  rw [show ((l.length : Nat) : Int) + 16 - 16 = (l.length : Int) by omega, Int.toNat_natCast]
theorem unused_ent {D : PD} (hs : Sound D) {a q : Int} (hu : usedB D a q = false) (hh : hasB D.s a q = true) : (entD D a q).2 = 13 := by
  have hn := nb_pos hs.sh
  have hq := (hasB_iff _ _ _).1 hh
  have hg : gotD D a q = full D.s.2.2.toNat [] := by
    unfold usedB at hu
    rw [hh, Bool.true_and] at hu
    unfold gotD readD numB
    rw [if_pos hh]
    cases hl : look (a, q) D.mp with
    | none => rfl
    | some x => rw [hl] at hu; cases hu
  obtain ⟨r, hr⟩ := raw_split (D := D) (a := a) (q := q) (k := 1) (by unfold nRaw; rw [if_pos hq]; omega)
  have h1 : rawK D a q 1 = full D.s.2.2.toNat [] := by
    unfold rawK
    simp [hg]
  obtain ⟨m, hm⟩ : ∃ m, D.s.2.2.toNat = m + 1 := ⟨D.s.2.2.toNat - 1, by omega⟩
  have hraw : rawD D a q = 255 :: (List.replicate m 255 ++ r) := by
    rw [hr, h1, hm]
    rfl
  unfold entD entL
  rw [if_neg (by rw [hh]; decide), hraw]
  have hp : (parsed (255 :: (List.replicate m 255 ++ r))).2.2.2.2 = 13 := by
    unfold parsed Go.Proofs.Ytmbiebdcnadhkaa.FrameFacts.parsed
    have hh : Go.Proofs.Ytmbiebdcnadhkaa.FrameFacts.head (255 :: (List.replicate m 255 ++ r)) = 13 := by
      unfold Go.Proofs.Ytmbiebdcnadhkaa.FrameFacts.head
      have hrd : Go.Proofs.YtmbiebdcnadhkaaW.PrintWords.rd (255 :: (List.replicate m 255 ++ r)) 0 = 255 := rfl
      rw [if_neg (by simp), if_pos hrd]
    rw [if_neg (by rw [hh]; decide), hh]
  rw [if_neg (by rw [hp]; decide), hp]
def Chain (D : PD) (a sq : Int) : Int → List (Int × List Int) → Int → Prop
  | q, [], e => q = e
  | q, r :: rs, e => Holds D a q r.1 sq r.2 ∧ r.1 ≠ 1 ∧ Chain D a sq (q + (kpg D.s r.2.length : Int)) rs e
def entsL (s : Int × Int × Int) (a sq : Int) : Int → List (Int × List Int) → List En
  | _, [] => []
  | q, r :: rs => ⟨a, q, sq, (kpg s r.2.length : Int), r.1, r.2⟩ :: entsL s a sq (q + (kpg s r.2.length : Int)) rs
theorem Chain.scan {D : PD} (hs : Sound D) (hb : BytD D) {a sq e : Int} (he : (entD D a e).2 ≠ 0) : ∀ {rs : List (Int × List Int)} {q : Int} {f : Nat}, Chain D a sq q rs e → D.s.2.1 - q ≤ f → scanF (entD D a) D.s.2.1 sq f q = entsL D.s a sq q rs
  | [], q, f, h, _ => by
    obtain rfl : q = e := h
    rw [scanF_bad (.inl he)]
    rfl
  | r :: rs, q, f, ⟨h1, h2, h3⟩, hf => by
    have hq := (hasB_iff _ _ _).1 h1.has
    obtain ⟨f, rfl⟩ : ∃ g, f = g + 1 := ⟨f - 1, by omega⟩
    have hent := h1.ent hs hb
    have hk := kpg_bd hs.sh h1.ok.len
    rw [scanF_good ⟨by omega, by omega⟩ (by rw [hent]) (by rw [hent]; exact h2) (by rw [hent]), hent]
    simp only
    rw [Chain.scan hs hb he h3 (by omega)]
    rfl
end Go.Proofs.Ytmbiebdcnadhkaa.Fl
namespace Go.Proofs.Ytmbiebdcnadhkaa.Fl
open Go.RowKit Go.Proofs.YtmbiebdcnadhkaaW.PrintWords Go.Proofs.YtmbiebdcnadhkaaW.PrintMore Go.Maps
set_option linter.unusedSimpArgs false
set_option linter.unusedVariables false
def Solo (N0 p : Nat) (K : Nat → Prop) (D : PD) (w : World) : Prop :=
  ∃ ok : Nat → Prop, DevIs N0 p D ok w ∧ (∀ k, ok k → N0 ≤ k) ∧ N0 ≤ w.heap.size ∧ (∀ k, K k → k < w.heap.size ∧ (¬ ok k ∨ ∃ cs fr, w.heap[k]? = some (.cells cs TB fr)))
theorem solo_frame (N0 p : Nat) : DevFrame N0 p (Solo N0 p) where
  dev := fun h => by
    obtain ⟨ok, hD, _⟩ := h
    exact ⟨ok, hD⟩
  keep := fun {K D w w'} h hb => by
    obtain ⟨ok, hD, h1, h0, hK⟩ := h
    refine ⟨_, hD.bound.below hb, fun k h => h1 k h.1, Nat.le_trans h0 hb.size, fun k hk => ?_⟩
    rcases hk with hk | hk
    · exact ⟨Nat.lt_of_lt_of_le (hK k hk).1 hb.size, (hK k hk).2.imp (fun h2 h => h2 h.1) (fun ⟨cs, fr, e⟩ => ⟨cs, fr, (hb.block k (hK k hk).1).trans e⟩)⟩
    · exact ⟨hk.2, .inl (fun h => by have := h.2.2; omega)⟩
  less := fun h hk => by
    obtain ⟨ok, hD, h1, h0, hK⟩ := h
    exact ⟨ok, hD, h1, h0, fun k h => hK k (hk k h)⟩
  upd := fun {K D D' w f args res} h hc => by
    obtain ⟨ok, hD, h1, h0, hK⟩ := h
    refine (hc ok hD).mono fun e w1 ⟨he, hD1, hu⟩ => ⟨he, ⟨_, hD1, ?_, ?_, ?_⟩, upd_below hu h0 h1, fun k hk => hu.block k (hK k hk).1 (fun h => (hK k hk).2.elim (fun h2 => h2 h.1) (fun ⟨cs, fr, e⟩ => h.2 cs fr e))⟩
    · exact fun k hk => hk.elim (h1 k) (fun h => Nat.le_trans h0 h)
    · exact Nat.le_trans h0 hu.size
    · exact fun k hk => ⟨Nat.lt_of_lt_of_le (hK k hk).1 hu.size, (hK k hk).2.elim (fun h2 => .inl (fun h => h.elim h2 (fun h => by have := (hK k hk).1; omega))) (fun ⟨cs, fr, e⟩ => .inr ⟨cs, fr, (hu.block k (hK k hk).1 (fun h => h.2 cs fr e)).trans e⟩)⟩
  size := fun h => by
    obtain ⟨ok, hD, h1, h0, hK⟩ := h
    exact h0
  lt := fun h k hk => by
    obtain ⟨ok, hD, h1, h0, hK⟩ := h
    exact (hK k hk).1
theorem Solo.new {N0 p : Nat} {D : PD} {w w1 : World} (hN : N0 ≤ w.heap.size) (hD : DevIs N0 p D (fun k => w.heap.size ≤ k) w1) (hb : Below w.heap.size w w1) : Solo N0 p (fun _ => False) D w1 :=
  ⟨_, hD, fun k hk => Nat.le_trans hN hk, Nat.le_trans hN hb.size, fun _ h => h.elim⟩
theorem DevFrame.sound {N0 p : Nat} {F : (Nat → Prop) → PD → World → Prop} (hF : DevFrame N0 p F) {K : Nat → Prop} {D : PD} {w : World} (h : F K D w) : Sound D := by
  obtain ⟨ok, hD⟩ := hF.dev h
  exact hD.sound
theorem DevFrame.scan {N0 p : Nat} {F : (Nat → Prop) → PD → World → Prop} (hF : DevFrame N0 p F) {K : Nat → Prop} {D : PD} {w : World} (h : F K D w) (hb : BytD D) (a : Int) : Calls Try.prog 15 #[.pointer (some ⟨p, 0, none⟩), .int .i64 a] w (ScanPost w (scanD D a)) := by
  obtain ⟨ok, hD⟩ := hF.dev h
  exact Scan_ent hD hb a
theorem BytD.new (s : Int × Int × Int) : BytD ⟨s, [], []⟩ := fun a b => by
  unfold gotD
  split
  · exact Byt.full Byt.nil
  · exact Byt.nil
theorem writeE_inv {D : PD} {a b : Int} {l : List Int} (h : writeE D a b l = 0) : hasB D.s a b = true ∧ (l.length : Int) ≤ D.s.2.2 ∧ usedB D a b = false := by
  unfold writeE at h
  by_cases h1 : hasB D.s a b = false
  · rw [if_pos h1] at h; cases h
  · rw [if_neg h1] at h
    by_cases h2 : D.s.2.2 < (l.length : Int)
    · rw [if_pos h2] at h; cases h
    · rw [if_neg h2] at h
      by_cases h3 : usedB D a b = true
      · rw [if_pos h3] at h; cases h
      · exact ⟨by simpa using h1, by omega, by simpa using h3⟩
theorem BytD.write {D : PD} (h : BytD D) (a b : Int) {l : List Int} (hl : Byt l) : BytD (writeD D a b l) := by
  by_cases h0 : writeE D a b l = 0
  · obtain ⟨h1, h2, h3⟩ := writeE_inv h0
    intro c d
    rw [got_write h1 h2 h3]
    split
    · exact Byt.full hl
    · exact h c d
  · unfold writeD
    rw [if_neg h0]
    exact h
theorem BytD.wr (a : Int) : ∀ (rs : List (List Int)) (b : Int) (D : PD), BytD D → (∀ r ∈ rs, Byt r) → BytD (wrD a b rs D)
  | [], _, _, h, _ => h
  | r :: rs, b, D, h, k => BytD.wr a rs (b + 1) _ (h.write a b (k r (by simp))) (fun q hq => k q (by simp [hq]))
theorem BytD.app {D : PD} (hs : ShapeOk D.s) (h : BytD D) (a b : Int) (n : Nat) {bs : List Int} (hb : Byt bs) : BytD (appD D a b n bs) := by
  unfold appD
  split
  · exact BytD.wr a _ b D h (chunk_byt (by have := nb_pos hs; omega) hb)
  · exact h
def wD0 : PD := ⟨(1, 4, 16), [], []⟩
def wD1 : PD := appD wD0 0 0 0 (rec 1 3 [])
def wD2 : PD := appD wD1 0 1 1 (rec 2 3 [7])
theorem w_sh : ShapeOk wD0.s := ⟨by decide, by decide, by decide, by decide, by decide, by decide⟩
theorem w_e0 : appE wD0 0 0 0 = (1, 0) := by decide
theorem w_r1 : RecOk 1 3 [] := ⟨⟨by decide, by decide⟩, ⟨by decide, by decide⟩, Byt.nil, by decide⟩
theorem w_r2 : RecOk 2 3 [7] := ⟨⟨by decide, by decide⟩, ⟨by decide, by decide⟩, fun x hx => by simp at hx; omega, by decide⟩
theorem w_s1 : wD1.s = (1, 4, 16) := appD_s _ _ _ _ _
theorem w_s2 : wD2.s = (1, 4, 16) := (appD_s _ _ _ _ _).trans w_s1
theorem w_u1 (d : Int) (h : 1 ≤ d) : usedB wD1 0 d = false := by
  have := app_used (D := wD0) w_sh (a := 0) (b := 0) (kd := 1) (sq := 3) (l := []) (by rw [List.length_nil, w_e0]) 0 d
  unfold wD1
  rw [List.length_nil] at this
  rw [this]
  have hk : kpg wD0.s 0 = 1 := by decide
  rw [hk, decide_eq_false (by omega)]
  unfold usedB
  simp [wD0, look]
theorem w_e1 : (appE wD1 0 1 1).2 = 0 := by
  refine (appE_zero 0 1 1).2 ⟨?_, by decide, ?_, ?_⟩
  · rw [w_s1]; decide
  · rw [w_s1]; decide
  · unfold anyUsedD
    rw [List.any_eq_false]
    intro i _
    rw [w_u1 _ (by omega)]
    decide
theorem w_b2 : BytD wD2 := by
  have h1 : BytD wD1 := BytD.app w_sh (BytD.new _) _ _ _ (rec_byt w_r1.kd w_r1.byt)
  exact BytD.app (by rw [w_s1]; exact w_sh) h1 _ _ _ (rec_byt w_r2.kd w_r2.byt)
theorem w_scan (hs : Sound wD2) : scanD wD2 0 = (3, [⟨0, 1, 3, 2, 2, [7]⟩], true) := by
  have hs1 : ShapeOk wD1.s := by rw [w_s1]; exact w_sh
  have h0 : Holds wD1 0 0 1 3 [] := by
    have := app_holds (D := wD0) w_sh (a := 0) (b := 0) w_r1 (by rw [List.length_nil, w_e0])
    exact this
  have h1 : Holds wD2 0 0 1 3 [] := h0.keep hs1 (a := 0) (b := 1) (kd := 2) (sq := 3) (l := [7]) w_e1 (.inr (by rw [w_s1]; decide))
  have h2 : Holds wD2 0 1 2 3 [7] := app_holds (D := wD1) hs1 (a := 0) (b := 1) w_r2 w_e1
  have hu : usedB wD2 0 3 = false := by
    have := app_used (D := wD1) hs1 (a := 0) (b := 1) (kd := 2) (sq := 3) (l := [7]) w_e1 0 3
    have e : wD2 = appD wD1 0 1 ([7] : List Int).length (rec 2 3 [7]) := rfl
    rw [e, this, w_u1 3 (by decide), w_s1]
    decide
  have he : (entD wD2 0 3).2 ≠ 0 := by
    rw [unused_ent hs hu (by rw [w_s2]; decide)]
    decide
  have hc : Chain wD2 0 3 1 [(2, [7])] 3 := ⟨h2, by decide, by show (1 : Int) + _ = 3; rw [w_s2]; decide⟩
  have hsc := hc.scan hs w_b2 he (f := 64) (by rw [w_s2]; decide)
  have hen := h1.ent hs w_b2
  unfold scanD scanL
  rw [hen, if_neg (by simp)]
  simp only
  have hk : (kpg wD2.s ([] : List Int).length : Int) = 1 := by rw [w_s2]; decide
  rw [hk, hsc]
  have hk2 : (kpg wD2.s 1 : Int) = 2 := by rw [w_s2]; decide
  simp [entsL, hk2]
theorem w_dirty : wD1.dirty.length < 900000 := by
  have := app_dirty (D := wD0) w_sh (a := 0) (b := 0) (kd := 1) (sq := 3) (l := []) (by rw [List.length_nil, w_e0])
  unfold wD1
  rw [List.length_nil] at this
  rw [this]
  have hk : kpg wD0.s 0 = 1 := by decide
  rw [hk]
  decide
theorem C_one7 {w : World} {g : Nat} (h : w.cell? ⟨g, 0, none⟩ = some (.int .u8 7)) : kB.C w (some ⟨g, 0, none⟩) [(7 : Int)].length [7] := by
  refine Kd.C_of_reads (d := 0) ⟨rfl, by simp, fun _ => ⟨_, rfl, fun j hj => ?_⟩⟩
  have : j = 0 := by simp at hj; exact hj
  subst this
  exact h
set_option maxHeartbeats 2000000 in
set_option maxRecDepth 100000 in
theorem Awake14_any (w : World) : Calls Try.prog 8 #[] w fun e w' => e = .returned (.bool true) ∧ Below w.heap.size w w' := by
  have hnew : Calls Try.prog 11 #[.agg #[.int .i64 1, .int .i64 4, .int .i64 16]] w fun e w' => ∃ p, e = .returned (.tuple #[.pointer (some ⟨p, 0, none⟩), .int .i64 0]) ∧ DevIs w.heap.size p wD0 (fun k => w.heap.size ≤ k) w' ∧ Below w.heap.size w w' := New_ok (1, 4, 16) rfl w w.heap.size (Nat.le_refl _)
  have hst : ∀ (p : Nat) (W : World), Solo w.heap.size p (fun _ => False) wD0 W → Calls Try.prog 12 #[.pointer (some ⟨p, 0, none⟩), .int .i64 0, .int .u64 3] W fun e w' => e = .returned (.int .i64 0) ∧ Solo w.heap.size p (fun _ => False) wD1 w' ∧ Below w.heap.size W w' := fun p W h => by
    have := Start_F (seq := 3) (solo_frame _ _) h 0 w_r1.sq (by decide)
    rw [w_e0] at this
    exact this.mono fun e w' ⟨h1, h2, h3, _⟩ => ⟨h1, h2, h3⟩
  have hap : ∀ (p g : Nat) (W : World), Solo w.heap.size p (fun _ => False) wD1 W → W.cell? ⟨g, 0, none⟩ = some (.int .u8 7) → Calls Try.prog 14 #[.pointer (some ⟨p, 0, none⟩), .int .i64 0, .int .i64 1, .int .u64 3, .int .u8 2, .slice (some ⟨g, 0, none⟩) 1 1] W fun e w' => e = .returned (.tuple #[.int .i64 2, .int .i64 0]) ∧ Solo w.heap.size p (fun _ => False) wD2 w' ∧ Below w.heap.size W w' := fun p g W h hg => by
    have := Append_F (kind := 2) (seq := 3) (c := 1) (solo_frame _ _) h 0 1 w_r2.kd w_r2.sq w_r2.byt (C_one7 hg) (by decide) (by decide) w_dirty
    have he : appE wD1 0 1 [(7 : Int)].length = (2, 0) := by
      rw [appE_one (n := [(7 : Int)].length) w_e1, w_s1]
      decide
    rw [he] at this
    exact this.mono fun e w' ⟨h1, h2, h3, _⟩ => ⟨h1, h2, h3⟩
  have hsc : ∀ (p : Nat) (W : World), Solo w.heap.size p (fun _ => False) wD2 W → Calls Try.prog 15 #[.pointer (some ⟨p, 0, none⟩), .int .i64 0] W fun e w' => ∃ ad c, e = .returned (.tuple #[.int .u64 3, .slice (some ad) 1 c, .bool true]) ∧ w'.cell? ⟨ad.block, ad.off + 1, none⟩ = some (.int .i64 1) ∧ Below W.heap.size W w' := fun p W h => by
    have h1 := (solo_frame _ _).scan h w_b2 0
    rw [w_scan ((solo_frame _ _).sound h)] at h1
    refine h1.mono fun e w' ⟨v, e1, hR, hb⟩ => ?_
    obtain ⟨A, c, rfl, _, hC⟩ := Kd.R_reads hR
    obtain ⟨ad, rfl, hc⟩ := hC.2.2 (by simp)
    obtain ⟨cs, _, ⟨A1, c1, rfl, _, _⟩, hcell⟩ := hc 0 _ rfl
    refine ⟨ad, c, e1, ?_, hb⟩
    have := hcell 1 (.int .i64 1) rfl
    simpa [Addr.add] using this
  have hal : ∀ (p : Nat) (W : World) (o : Obj), Solo w.heap.size p (fun _ => False) wD1 W → Solo w.heap.size p (fun _ => False) wD1 (W.alloc o) := fun p W o h => (solo_frame _ _).below h (below_alloc (Below.refl _ _) _)
  have HNEW := Lib.hid hnew
  have HST := Lib.hid hst
  have HAP := Lib.hid hap
  have HSC := Lib.hid hsc
  have HAL := Lib.hid hal
  clear hnew hst hap hsc hal
  go_enter Try.func8, Try.ntmps8
  go_wp2_with (first
    | (go_at_call 11; (with_reducible refine HNEW.out.mono ?_); rintro e w1 ⟨p, rfl, hd, hb⟩; have HD1 := Aside0.mk (Solo.new (Nat.le_refl _) hd hb); have HB1 := Aside0.mk hb; clear hd hb)
    | (go_at_call 12; (with_reducible refine (HST.out _ _ HD1.out).mono ?_); rintro e w2 ⟨rfl, hd, hb⟩; have HD2 := Aside0.mk hd; have HB2 := Aside0.mk (HB1.out.trans hb); clear hd hb)
    | (go_at_call 14; (refine (HAP.out _ _ _ (HAL.out _ _ _ HD2.out) (bcell (blk_new _ _) 0)).mono ?_); rintro e w3 ⟨rfl, hd, hb⟩; have HD3 := Aside0.mk hd; have HB3 := Aside0.mk ((HB2.out.alloc HB2.out.size _).trans hb); clear hd hb)
    | (go_at_call 15; (with_reducible refine (HSC.out _ _ HD3.out).mono ?_); rintro e w4 ⟨ad, c, rfl, hcl, hb⟩; have HB4 := Aside0.mk (HB3.out.trans (hb.mono HB3.out.size)); clear hb))
  go_ret
  exact ⟨rfl, HB4.out⟩
end Go.Proofs.Ytmbiebdcnadhkaa.Fl
namespace Go.Proofs.Ytmbiebdcnadhkaa.Fl
open Go.RowKit Go.Proofs.YtmbiebdcnadhkaaW.PrintWords Go.Proofs.YtmbiebdcnadhkaaW.PrintMore Go.Maps
set_option linter.unusedSimpArgs false
set_option linter.unusedVariables false
theorem anyUsed_true {a b : Int} {k i : Nat} {ps : List Pg} (hi : i < k) (h : 0 ≤ findI a (b + (i : Int)) ps) : anyUsed a b k ps = true := by
  unfold anyUsed
  rw [List.any_eq_true]
  exact ⟨i, by simpa using hi, by simpa using h⟩
theorem anyUsed_false {a b : Int} {k : Nat} {ps : List Pg} (h : ∀ i : Nat, i < k → findI a (b + (i : Int)) ps < 0) : anyUsed a b k ps = false := by
  unfold anyUsed
  rw [List.any_eq_false]
  intro i hi
  have := h i (by simpa using hi)
  simp
  omega
theorem ref_cells {N0 x : Nat} {s : Int × Int × Int} {ps : List Pg} {ok : Nat → Prop} {w : World} (h : RefIs N0 x s ps ok w) : w.cell? ⟨x, 0, none⟩ = some (.int .i64 s.1) ∧ w.cell? ⟨x, 1, none⟩ = some (.int .i64 s.2.1) ∧ w.cell? ⟨x, 2, none⟩ = some (.int .i64 s.2.2) := by
  obtain ⟨_, _, v, hx, _⟩ := h
  exact ⟨bcell hx 0, bcell hx 1, bcell hx 2⟩
section
variable {N0 x : Nat} {s : Int × Int × Int} {G : (Nat → Prop) → List Pg → World → Prop} {K : Nat → Prop} {ps : List Pg} {w : World} {A : Option Addr} {c : Nat} {l : List Int} {kind seq : Int}
theorem RefFrame.write (hG : RefFrame N0 x s G) (h : G K ps w) (hs : ShapeOk s) (a b : Int) (A : Option Addr) (c : Nat) (l : List Int) (hl : kB.C w A l.length l) (hm : ps.length < 1000000) :
    Calls Try.prog 61 #[.pointer (some ⟨x, 0, none⟩), .int .i64 a, .int .i64 b, .slice A l.length c] w fun e w' => e = .returned (.int .i64 (rwE s ps a b l)) ∧ G K (rwP s ps a b l) w' ∧ Below N0 w w' ∧ Kept K w w' :=
  hG.upd h (fun ok hX => RWrite_any hX hs hm a b A c l hl)
set_option maxHeartbeats 4000000 in
set_option maxRecDepth 100000 in
theorem RAppend_G (hG : RefFrame N0 x s G) (h : G K ps w) (hsh : ShapeOk s) (a b : Int) (hk : KindOk kind) (hs : SeqOk seq) (hl : Byt l) (hC : kB.C w A l.length l) (hc : l.length ≤ c) (hm : l.length < 1000000) (hd : ps.length < 900000) :
    Calls Try.prog 36 #[.pointer (some ⟨x, 0, none⟩), .int .i64 a, .int .i64 b, .int .u64 seq, .int .u8 kind, .slice A l.length c] w fun e w' => e = .returned (.tuple #[.int .i64 (appR s ps a b l.length).1, .int .i64 (appR s ps a b l.length).2]) ∧ G K (appP s ps a b l.length (rec kind seq l)) w' ∧ Below N0 w w' ∧ Kept K w w' := by
  have hex := hG.ref h
  obtain ⟨ok, hX⟩ := hex
  have hhas := RHas_any hX a b
  have hcells := fun (X : World) (hX' : Below w.heap.size w X) => ref_cells (hX.below hX')
  have hfind := fun (X : World) (hX' : Below w.heap.size w X) (y : Int) => RFind_any (hX.below hX') (by omega) a y
  obtain ⟨n, hn⟩ : ∃ n, n = l.length := ⟨_, rfl⟩
  have en := fun (w : World) (a : Option Addr) (n c : Nat) => Lib.run_eql_slice_nil (P := Try.prog) w 36 TB a n c 0 0 Try.underlying36
  have HG := Lib.hid hG
  have HH := Aside0.mk h
  have HN := Lib.hid hn
  have HST := Lib.hid (fun (X : World) (hX : Below w.heap.size w X) => hG.still h hX)
  have HOK := Lib.hid hsh
  have HDD := Lib.hid hd
  have nm : (n : Int) < 1000000 := by omega
  rw [← hn] at hc hm
  rw [← hn]
  cases hb : hasB s a b with
  | false =>
    have hE : appR s ps a b n = (0, 6) := by unfold appR; rw [hb]; rfl
    have hA : appP s ps a b n (rec kind seq l) = ps := by unfold appP; rw [hE]; rfl
    rw [hE, hA]
    rw [hb] at hhas
    have HHAS := Lib.hid hhas
    clear hb hE hA hG h hn hsh hX hhas hcells hfind hd hk hs hl hC hc hm en
    go_enter Try.func36, Try.ntmps36
    go_wp2_with (go_at_call 40; (with_reducible refine HHAS.out.mono ?_); rintro e w1 ⟨rfl, rfl⟩)
    go_ret2
    exact ⟨rfl, HST.out _ (Below.refl _ _)⟩
  | true =>
    rw [hb] at hhas
    have HHAS := Lib.hid hhas
    have HHB := Lib.hid hb
    have hab := (hasB_iff _ _ _).1 hb
    have b0 : 0 ≤ b := hab.2.2.1
    have b1 : b < 64 := by have := hab.2.2.2; have := hsh.b1; omega
    by_cases hlen : n ≤ 4096
    · have hfr := fun (X : World) (hX' : Below w.heap.size w X) => Frame_ok (w := X) (A := A) (c := c) hk hs hl (Kd.C_below hC hX') (by rw [← hn]; exact hc) (by rw [← hn]; exact hlen)
      rw [← hn] at hfr
      have hpg := fun (X : World) => RPages_ok n s hsh hlen X
      have hkb := kpg_bd hsh hlen
      obtain ⟨k, hkd⟩ : ∃ k, k = kpg s n := ⟨_, rfl⟩
      rw [← hkd] at hpg hkb
      obtain ⟨nb, hnb⟩ := Int.eq_ofNat_of_zero_le (show 0 ≤ s.2.2 by have := hsh.c0; omega)
      have hnb0 : 16 ≤ nb := by have := hsh.c0; omega
      have hnb1 : nb ≤ 256 := by have := hsh.c1; omega
      obtain ⟨R0, hR0⟩ : ∃ R0, R0 = rec kind seq l := ⟨_, rfl⟩
      have hRl : R0.length = n + 16 := by rw [hR0, rec_len, hn]
      have hcl : (chunkL nb R0).length = k := by
        rw [chunk_len (by omega), hRl, hkd, kpg, hnb]
        rfl
      rw [← hR0] at hfr
      rw [hnb] at hpg hcells
      have hnbt : s.2.2.toNat = nb := by rw [hnb]; rfl
      have hcell2 : ∀ X ok, RefIs N0 x s ps ok X → True := fun _ _ _ => trivial
      clear hcell2
      have hgc : ∀ (ps' : List Pg) (K' : Nat → Prop) (X : World), G K' ps' X → X.cell? ⟨x, 2, none⟩ = some (.int .i64 (nb : Int)) := fun ps' K' X hg => by
        obtain ⟨ok, hx⟩ := hG.ref hg
        have := (ref_cells hx).2.2
        rwa [hnb] at this
      have hrow : ∀ i r, (chunkL nb R0)[i]? = some r → i * nb < n + 16 ∧ r = (R0.drop (i * nb)).take nb := fun i r hi => by
        obtain ⟨h1, h2⟩ := chunk_get (by omega) i R0 r hi
        exact ⟨by omega, h2⟩
      have HFR := Lib.hid hfr
      have HPG := Lib.hid hpg
      have HCE := Lib.hid hcells
      have HGC := Lib.hid hgc
      have HROW := Lib.hid hrow
      have HCL := Lib.hid hcl
      have HNB := Lib.hid hnbt
      have HKD := Lib.hid hkd
      have HRL := Lib.hid hRl
      have HFD := Lib.hid hfind
      have k1 : 1 ≤ k := hkb.1
      have k257 : k ≤ 257 := hkb.2
      obtain ⟨y0, y1, y2⟩ := hcells w (Below.refl _ _)
      obtain ⟨S1, hS1⟩ : ∃ S1, S1 = s.2.1 := ⟨_, rfl⟩
      have s1a : 1 ≤ S1 := by rw [hS1]; exact hsh.b0
      have s1b : S1 ≤ 64 := by rw [hS1]; exact hsh.b1
      have HS1 := Lib.hid hS1
      rw [← hS1] at y1
      rw [← hR0]
      clear hG h hn hsh hX hhas hcells hfind hd hk hs hl hC hc hm hfr hpg hkb hkd hnb hR0 hRl hcl hnbt hgc hrow hab hb hS1 y0
      have HCE1 := Lib.hid (show ∀ X : World, Below w.heap.size w X → X.cell? ⟨x, 1, none⟩ = some (.int .i64 S1) ∧ X.cell? ⟨x, 2, none⟩ = some (.int .i64 (nb : Int)) from fun X hX => by
        have := HCE.out X hX
        rw [← HS1.out] at this
        exact this.2)
      by_cases hroom : S1 < b + (k : Int)
      · have hE : appR s ps a b n = (0, 5) := by
          unfold appR
          rw [if_neg (by rw [HHB.out]; decide), if_neg (by omega), if_pos (by have := HKD.out; have := HS1.out; omega)]
        have hA : appP s ps a b n R0 = ps := by unfold appP; rw [hE]; rfl
        rw [hE, hA]
        have d1 : decide (S1 < b + (k : Int)) = true := by simpa using hroom
        clear hE hA hroom
        go_enter Try.func36, Try.ntmps36
        go_wp2_with (first
          | (go_at_call 40; (with_reducible refine HHAS.out.mono ?_); rintro e w1 ⟨rfl, rfl⟩)
          | (go_at_call 82; (with_reducible refine (HFR.out _ (Below.refl _ _)).mono ?_); rintro e w2 ⟨ad, c2, rfl, hc2, hC2, hrw, hb⟩; have HB2 := Aside0.mk hb; obtain ⟨z1, z2⟩ := HCE1.out _ hb; clear hb hC2 hc2 hrw)
          | (go_at_call 42; (with_reducible refine (HPG.out _).mono ?_); rintro e w3 ⟨rfl, hb⟩; have HB3 := Aside0.mk (HB2.out.trans (hb.mono HB2.out.size)); obtain ⟨x1, x2⟩ := HCE1.out _ HB3.out; clear hb))
        go_ret2
        exact ⟨rfl, HST.out _ HB3.out⟩
      · have d1 : decide (S1 < b + (k : Int)) = false := by simpa using hroom
        have HRM := Lib.hid hroom
        clear hroom
        go_enter Try.func36, Try.ntmps36
        go_wp2_with (first
          | (go_at_call 40; (with_reducible refine HHAS.out.mono ?_); rintro e w1 ⟨rfl, rfl⟩)
          | (go_at_call 82; (with_reducible refine (HFR.out _ (Below.refl _ _)).mono ?_); rintro e w2 ⟨ad, c2, rfl, hc2, hC2, hrw, hb⟩; have HC2 := Aside0.mk hrw; have HCC := Lib.hid hc2; have HB2 := Aside0.mk hb; obtain ⟨z1, z2⟩ := HCE1.out _ hb; clear hb hC2 hc2 hrw)
          | (go_at_call 42; (with_reducible refine (HPG.out _).mono ?_); rintro e w3 ⟨rfl, hb⟩; have HC3 := Aside0.mk (HC2.out.below hb); have HB3 := Aside0.mk (HB2.out.trans (hb.mono HB2.out.size)); obtain ⟨x1, x2⟩ := HCE1.out _ HB3.out; clear hb))
        clear d1 en y1 y2 z1 z2 x1 x2
        go_loopw [16] (fun v16 wr => ∃ i : Nat, i ≤ k ∧ v16 = .int .i64 (i : Int) ∧ Below w3.heap.size w3 wr ∧ ∀ j : Nat, j < i → findI a (b + (j : Int)) ps < 0) (fun v16 _ => k - (intOf v16).toNat)
        case atStart => exact ⟨0, Nat.zero_le _, rfl, Below.refl _ _, fun j hj => by omega⟩
        case round =>
          obtain ⟨i, hi, rfl, hbi, hpre⟩ := hrel
          have HI := Aside0.mk hbi
          have HPRE := Lib.hid hpre
          have HBW := Aside0.mk (HB3.out.trans (hbi.mono HB3.out.size))
          clear hbi hpre
          by_cases hlt : i < k
          · have i0 : (0 : Int) ≤ (i : Int) := by omega
            have i2 : (i : Int) < (k : Int) := by omega
            have i3 : (i : Int) < 257 := by omega
            have hfd := HFD.out _ HBW.out (b + (i : Int))
            obtain ⟨F, hF⟩ : ∃ F, F = findI a (b + (i : Int)) ps := ⟨_, rfl⟩
            rw [← hF] at hfd
            have HFI := Lib.hid hF
            have HFDI := Lib.hid hfd
            clear hF hfd
            by_cases hu : 0 ≤ F
            · have hE : appR s ps a b n = (0, 7) := by
                unfold appR
                rw [if_neg (by rw [HHB.out]; decide), if_neg (by omega), if_neg (by have := HRM.out; have := HS1.out; have := HKD.out; omega), if_pos (by rw [← HKD.out]; exact anyUsed_true hlt (by rw [← HFI.out]; exact hu))]
              have hA : appP s ps a b n R0 = ps := by unfold appP; rw [hE]; rfl
              have HE := Lib.hid hE
              have HA := Lib.hid hA
              have d2 : decide (0 ≤ F) = true := by simpa using hu
              clear hE hA hu
              go_wp2_with (go_at_call 41; (with_reducible refine HFDI.out.mono ?_); rintro e w4 ⟨rfl, hb⟩; have HB4 := Aside0.mk (HBW.out.trans (hb.mono HBW.out.size)); clear hb)
              go_ret2
              rw [HE.out, HA.out]
              exact ⟨rfl, HST.out _ HB4.out⟩
            · have d2 : decide (0 ≤ F) = false := by simpa using hu
              have HU := Lib.hid hu
              clear hu
              go_wp2_with (go_at_call 41; (with_reducible refine HFDI.out.mono ?_); rintro e w4 ⟨rfl, hb⟩; have HB4 := Aside0.mk (HI.out.trans (hb.mono HI.out.size)); clear hb)
              refine ⟨⟨i + 1, by omega, by go_num, HB4.out, fun j hj => ?_⟩, by simp [intOf]; omega⟩
              rcases Nat.lt_or_ge j i with h2 | h2
              · exact HPRE.out j h2
              · obtain rfl : j = i := by omega
                have := HU.out
                have := HFI.out
                omega
          · obtain rfl : i = k := by omega
            have hE : appR s ps a b n = ((i : Int), 0) := by
              unfold appR
              rw [if_neg (by rw [HHB.out]; decide), if_neg (by omega), if_neg (by have := HRM.out; have := HS1.out; have := HKD.out; omega), if_neg (by rw [← HKD.out, anyUsed_false HPRE.out]; decide), ← HKD.out]
            have hA : appP s ps a b n R0 = wrP s a b (chunkL nb R0) ps := by unfold appP; rw [hE, if_pos rfl, HNB.out]
            have HE := Lib.hid hE
            have HA := Lib.hid hA
            obtain ⟨wa, rfl⟩ : ∃ wa : World, wa = wr := ⟨_, rfl⟩
            have HCA := Aside0.mk (HC3.out.below HI.out)
            have HK0 := Aside0.mk (HG.out.keep HH.out HBW.out)
            clear hE hA hlt
            go_wp2
            go_loopw [17] (fun v17 wr => ∃ j : Nat, j ≤ i ∧ v17 = .int .i64 (j : Int) ∧ G (fun k => K k ∨ (w.heap.size ≤ k ∧ k < wa.heap.size)) (wrP s a b ((chunkL nb R0).take j) ps) wr ∧ Below N0 wa wr ∧ Kept (fun k => K k ∨ (w.heap.size ≤ k ∧ k < wa.heap.size)) wa wr) (fun v17 _ => i - (intOf v17).toNat)
            case atStart => exact ⟨0, Nat.zero_le _, rfl, HK0.out, Below.refl _ _, fun _ _ => rfl⟩
            case round =>
              obtain ⟨j, hj, rfl, hf, hbj, hkj⟩ := hrel
              have HGJ := Aside0.mk hf
              have HBJ := Aside0.mk hbj
              have HKJ := Lib.hid hkj
              clear hf hbj hkj
              by_cases hltj : j < i
              · obtain ⟨r, hr⟩ : ∃ r, (chunkL nb R0)[j]? = some r := ⟨_, List.getElem?_eq_getElem (by have := HCL.out; omega)⟩
                obtain ⟨hp1, hp2⟩ := HROW.out j r hr
                have hrow := HCA.out.step (w' := wr) (fun k h1 h2 => HKJ.out k (.inr ⟨h1, h2⟩))
                obtain ⟨Ax, cx, ex, hcx, hCx⟩ := hrow.reads
                injection ex with ex1 ex2 ex3
                subst ex1 ex3
                have hx2 := HGC.out _ _ _ HGJ.out
                obtain ⟨P, hP⟩ : ∃ P, P = j * nb := ⟨_, rfl⟩
                have hjk : j * nb ≤ 257 * 256 := Nat.mul_le_mul (by omega) hnb1
                have hPi : (j : Int) * (nb : Int) = (P : Int) := by rw [hP]; simp
                have hQi : ((j : Int) + 1) * (nb : Int) = (P : Int) + (nb : Int) := by rw [Int.add_mul, hPi, Int.one_mul]
                have hps : (wrP s a b ((chunkL nb R0).take j) ps).length < 1000000 := by
                  have h1 := wrP_len s a ((chunkL nb R0).take j) b ps
                  have h2 := HDD.out
                  rw [List.length_take] at h1
                  omega
                have hnx : rwP s (wrP s a b ((chunkL nb R0).take j) ps) a (b + (j : Int)) r = wrP s a b ((chunkL nb R0).take (j + 1)) ps := by
                  rw [List.take_add_one, hr]
                  show _ = wrP s a b ((chunkL nb R0).take j ++ [r]) ps
                  rw [wrP_snoc, List.length_take, Nat.min_eq_left (by have := HCL.out; omega)]
                have j0 : (0 : Int) ≤ (j : Int) := by omega
                have j2 : (j : Int) < (i : Int) := by omega
                have j3 : (j : Int) < 257 := by omega
                have p0 : (0 : Int) ≤ (P : Int) := by omega
                have p1 : (P : Int) ≤ 65792 := by omega
                have hcc := HCC.out
                have hPn : P < n + 16 := by rw [hP]; exact hp1
                by_cases hq : n + 16 < P + nb
                · have hmid := Kd.C_mid (lo := P) (hi := n + 16) (c := c2) hCx (by omega) (by have := HRL.out; omega) (by have := HRL.out; omega)
                  have hz : P * kB.sz = P := Nat.mul_one P
                  have hre : (R0.take (n + 16)).drop P = r := by
                    rw [hp2, ← hP, List.take_of_length_le (by have := HRL.out; omega), List.take_of_length_le (by rw [List.length_drop]; have := HRL.out; omega)]
                  rw [hre, if_neg (by omega), hz] at hmid
                  have hrlen : r.length = n + 16 - P := by rw [← hre, List.length_drop, List.length_take]; have := HRL.out; omega
                  have hw := HG.out.write HGJ.out HOK.out a (b + (j : Int)) (some (ad.add P)) (c2 - P) r hmid hps
                  rw [hnx, hrlen] at hw
                  have HW := Lib.hid hw
                  have d3 : decide ((n : Int) + 16 < (P : Int) + (nb : Int)) = true := by simp; omega
                  have d4 : (P : Int) ≤ (n : Int) + 16 := by omega
                  have d5 : (n : Int) + 16 ≤ (c2 : Int) := by omega
                  clear hr hp1 hp2 hrow hCx hcx hP hjk hps hnx hmid hz hre hrlen hw ex2
                  go_wp2_with (go_at_call 61; (with_reducible refine HW.out.mono ?_); rintro e w8 ⟨rfl, hf8, hb8, hk8⟩; have HF8 := Aside0.mk hf8; have HB8 := Aside0.mk hb8; have HK8 := Lib.hid hk8; clear hf8 hb8 hk8)
                  exact ⟨⟨j + 1, by omega, by go_num, HF8.out, HBJ.out.trans HB8.out, fun k hk => (HK8.out k hk).trans (HKJ.out k hk)⟩, by simp [intOf]; omega⟩
                · have hmid := Kd.C_mid (lo := P) (hi := P + nb) (c := c2) hCx (by omega) (by have := HRL.out; omega) (by have := HRL.out; omega)
                  have hz : P * kB.sz = P := Nat.mul_one P
                  have hre : (R0.take (P + nb)).drop P = r := by
                    rw [hp2, ← hP, List.drop_take]
                    congr 1
                    omega
                  rw [hre, if_neg (by omega), hz] at hmid
                  have hrlen : r.length = nb := by rw [← hre, List.length_drop, List.length_take]; have := HRL.out; omega
                  have hw := HG.out.write HGJ.out HOK.out a (b + (j : Int)) (some (ad.add P)) (c2 - P) r hmid hps
                  rw [hnx, hrlen] at hw
                  have HW := Lib.hid hw
                  have d3 : decide ((n : Int) + 16 < (P : Int) + (nb : Int)) = false := by simp; omega
                  have d4 : (P : Int) + (nb : Int) ≤ (n : Int) + 16 := by omega
                  have d5 : (n : Int) + 16 ≤ (c2 : Int) := by omega
                  clear hr hp1 hp2 hrow hCx hcx hP hjk hps hnx hmid hz hre hrlen hw ex2
                  go_wp2_with (go_at_call 61; (with_reducible refine HW.out.mono ?_); rintro e w8 ⟨rfl, hf8, hb8, hk8⟩; have HF8 := Aside0.mk hf8; have HB8 := Aside0.mk hb8; have HK8 := Lib.hid hk8; clear hf8 hb8 hk8)
                  exact ⟨⟨j + 1, by omega, by go_num, HF8.out, HBJ.out.trans HB8.out, fun k hk => (HK8.out k hk).trans (HKJ.out k hk)⟩, by simp [intOf]; omega⟩
              · obtain rfl : j = i := by omega
                have hfin : G K (wrP s a b (chunkL nb R0) ps) wr := by
                  have h1 := HG.out.less HGJ.out (K' := K) (fun k hk => .inl hk)
                  rwa [List.take_of_length_le (by have := HCL.out; omega)] at h1
                have HFIN := Aside0.mk hfin
                clear hfin
                go_wp2
                go_ret2
                rw [HE.out, HA.out]
                refine ⟨rfl, HFIN.out, (HBW.out.mono (HG.out.size HH.out)).trans HBJ.out, fun k hk => (HKJ.out k (.inl hk)).trans (HBW.out.block k (HG.out.lt HH.out k hk))⟩
    · have hE : appR s ps a b n = (0, 10) := by
        unfold appR
        rw [if_neg (by rw [hb]; decide), if_pos (by omega)]
      have hA : appP s ps a b n (rec kind seq l) = ps := by unfold appP; rw [hE]; rfl
      have hfr := fun (X : World) => Frame_no (w := X) (A := A) (c := c) (l := l) (kind := kind) (seq := seq) (by rw [← hn]; omega)
      rw [← hn] at hfr
      have HFR := Lib.hid hfr
      rw [hE, hA]
      clear hb hE hA hG h hn hsh hX hhas hcells hfind hd hk hs hl hC hc hm hfr hab hlen
      go_enter Try.func36, Try.ntmps36
      go_wp2_with (first
        | (go_at_call 40; (with_reducible refine HHAS.out.mono ?_); rintro e w1 ⟨rfl, rfl⟩)
        | (go_at_call 82; (with_reducible refine (HFR.out _).mono ?_); rintro e w2 ⟨rfl, rfl⟩))
      go_ret2
      exact ⟨rfl, HST.out _ (Below.refl _ _)⟩
end
end Go.Proofs.Ytmbiebdcnadhkaa.Fl
namespace Go.Proofs.Ytmbiebdcnadhkaa.Fl
open Go.RowKit Go.Proofs.YtmbiebdcnadhkaaW.PrintWords Go.Proofs.YtmbiebdcnadhkaaW.PrintMore Go.Maps
set_option linter.unusedSimpArgs false
set_option linter.unusedVariables false
structure RecT where
  seg : Int
  page : Int
  seq : Int
  kind : Int
  l : List Int
structure RecTOk (r : RecT) : Prop where
  kd : KindOk r.kind
  sq : SeqOk r.seq
  byt : Byt r.l
structure RCell (w : World) (ad : Addr) (i : Nat) (r : RecT) (A : Option Addr) (c : Nat) : Prop where
  c0 : w.cell? (ad.add (i * 5)) = some (.int .i64 r.seg)
  c1 : w.cell? ⟨(ad.add (i * 5)).block, (ad.add (i * 5)).off + 1, none⟩ = some (.int .i64 r.page)
  c2 : w.cell? ⟨(ad.add (i * 5)).block, (ad.add (i * 5)).off + 2, none⟩ = some (.int .u64 r.seq)
  c3 : w.cell? ⟨(ad.add (i * 5)).block, (ad.add (i * 5)).off + 3, none⟩ = some (.int .u8 r.kind)
  c4 : w.cell? ⟨(ad.add (i * 5)).block, (ad.add (i * 5)).off + 4, none⟩ = some (.slice A r.l.length c)
  row : kB.C w A r.l.length r.l
  cap : r.l.length ≤ c
def RRow (w : World) (A : Option Addr) (rs : List RecT) : Prop := ∀ (i : Nat) (r : RecT), rs[i]? = some r → ∃ ad A1 c1, A = some ad ∧ RCell w ad i r A1 c1
theorem RCell.below {w w' : World} {ad : Addr} {i : Nat} {r : RecT} {A : Option Addr} {c : Nat} (h : RCell w ad i r A c) (hb : Below w.heap.size w w') : RCell w' ad i r A c :=
  have f : ∀ {a : Addr} {v : Value}, w.cell? a = some v → w'.cell? a = some v := fun h => (hb.cell (blt_of_cell h)).trans h
  ⟨f h.c0, f h.c1, f h.c2, f h.c3, f h.c4, Kd.C_below h.row hb, h.cap⟩
theorem RRow.below {w w' : World} {A : Option Addr} {rs : List RecT} (h : RRow w A rs) (hb : Below w.heap.size w w') : RRow w' A rs := fun i d hi => by
  obtain ⟨ad, A1, c1, h1, h2⟩ := h i d hi
  exact ⟨ad, A1, c1, h1, h2.below hb⟩
def fewR (rs : List RecT) : Bool := rs.all (fun r => decide (r.l.length ≤ 600)) && decide (rs.length ≤ 40)
theorem fewR_ok {rs : List RecT} (h : fewR rs = true) : rs.length ≤ 40 ∧ ∀ r ∈ rs, r.l.length ≤ 600 := by
  unfold fewR at h
  simp at h
  exact ⟨h.2, h.1⟩
theorem allR_take_succ {q : RecT → Bool} {rs : List RecT} {k : Nat} {r : RecT} (h : rs[k]? = some r) : (rs.take (k + 1)).all q = ((rs.take k).all q && q r) := by
  rw [List.take_add_one, h, List.all_append]
  simp
set_option maxHeartbeats 2000000 in
set_option maxRecDepth 100000 in
theorem Few14_any {w : World} {A : Option Addr} {c : Nat} {rs : List RecT} (hr : RRow w A rs) (h0 : rs.length ≤ 9223372036854775807) :
    Calls Try.prog 9 #[.slice A rs.length c] w fun e w' => e = .returned (.bool (fewR rs)) ∧ Below w.heap.size w w' := by
  obtain ⟨n, hn⟩ : ∃ n, n = rs.length := ⟨_, rfl⟩
  have HR := Lib.hid hr
  have HN := Lib.hid hn
  rw [← hn] at h0
  rw [← hn]
  clear hr hn
  go_enter Try.func9, Try.ntmps9
  go_wp2
  go_loopw [4, 7] (fun v4 v7 wr => ∃ k : Nat, k ≤ n ∧ v7 = .int .i64 (k : Int) ∧ Below w.heap.size w wr ∧ (rs.take k).all (fun r => decide (r.l.length ≤ 600)) = true) (fun _ v7 _ => n - (intOf v7).toNat)
  case atStart => exact ⟨0, Nat.zero_le _, rfl, Below.refl _ _, rfl⟩
  case round =>
    obtain ⟨k, hk, rfl, hb, ht⟩ := hrel
    have HB := Aside0.mk hb
    have HT := Lib.hid ht
    clear hb ht
    by_cases hlt : k < n
    · obtain ⟨r, hd⟩ : ∃ r, rs[k]? = some r := ⟨_, List.getElem?_eq_getElem (by have := HN.out; omega)⟩
      obtain ⟨ad, A1, c1, hA, hc⟩ := HR.out k r hd
      have hc := hc.below HB.out
      subst hA
      have d0 := hc.c0; have d1 := hc.c1; have d2 := hc.c2; have d3 := hc.c3; have d4 := hc.c4
      have HD := Lib.hid hd
      have k0 : (0 : Int) ≤ (k : Int) := by omega
      have k2 : (k : Int) < (n : Int) := by omega
      clear hd hc
      obtain ⟨ra, rb, rq, rk, dl⟩ := r
      simp only at d0 d1 d2 d3 d4
      by_cases hg : dl.length ≤ 600
      · have e1 : decide (600 < (dl.length : Int)) = false := by simp; omega
        go_wp2
        refine ⟨⟨k + 1, by omega, by go_num, below_alloc HB.out _, ?_⟩, by simp [intOf]; omega⟩
        rw [allR_take_succ HD.out, HT.out]
        simpa using hg
      · have e1 : decide (600 < (dl.length : Int)) = true := by simp; omega
        go_wp2
        go_ret
        refine ⟨?_, below_alloc HB.out _⟩
        have : fewR rs = false := by
          unfold fewR
          rw [List.all_eq_false.2 ⟨_, List.mem_of_getElem? HD.out, by simpa using hg⟩]
          rfl
        rw [this]
        rfl
    · obtain rfl : k = n := by omega
      have ha : fewR rs = decide ((k : Int) ≤ 40) := by
        have h := HT.out
        rw [List.take_of_length_le (by have := HN.out; omega)] at h
        unfold fewR
        rw [h, ← HN.out]
        simp only [Bool.true_and, decide_eq_decide]
        omega
      have HA := Lib.hid ha
      clear ha
      go_wp2
      go_ret
      exact ⟨by rw [HA.out]; rfl, HB.out⟩
theorem appP_len {s : Int × Int × Int} (hs : ShapeOk s) (ps : List Pg) (a b : Int) (n : Nat) {bs : List Int} (hb : bs.length = n + 16) : (appP s ps a b n bs).length ≤ ps.length + 257 := by
  unfold appP
  split
  · rename_i h
    have h1 := wrP_len s a (chunkL s.2.2.toNat bs) b ps
    have h2 := chunk_len (n := s.2.2.toNat) (by have := nb_pos hs; omega) bs
    have h3 : n ≤ 4096 := by
      unfold appR at h
      by_cases h1 : hasB s a b = false
      · rw [if_pos h1] at h; cases h
      · rw [if_neg h1] at h
        by_cases h2 : 4096 < n
        · rw [if_pos h2] at h; cases h
        · omega
    have h4 := kpg_bd hs h3
    unfold kpg at h4
    rw [hb] at h2
    omega
  · omega
theorem BytP.app {s : Int × Int × Int} (hs : ShapeOk s) {ps : List Pg} (h : BytP ps) (a b : Int) (n : Nat) {bs : List Int} (hb : Byt bs) : BytP (appP s ps a b n bs) := by
  unfold appP
  split
  · exact h.wr a _ b ps (chunk_byt (by have := nb_pos hs; omega) hb)
  · exact h
end Go.Proofs.Ytmbiebdcnadhkaa.Fl
namespace Go.Proofs.Ytmbiebdcnadhkaa.Fl
open Go.RowKit Go.Proofs.YtmbiebdcnadhkaaW.PrintWords Go.Proofs.YtmbiebdcnadhkaaW.PrintMore Go.Maps
set_option linter.unusedSimpArgs false
set_option linter.unusedVariables false
theorem fewB_len {ds : List DeedT} (h : fewB ds = true) : ds.length ≤ 60 := by
  unfold fewB at h
  simp at h
  exact h.2
end Go.Proofs.Ytmbiebdcnadhkaa.Fl
namespace Go.Proofs.Ytmbiebdcnadhkaa.Fl
open Go.RowKit Go.Proofs.YtmbiebdcnadhkaaW.PrintWords Go.Proofs.YtmbiebdcnadhkaaW.PrintMore Go.Maps
set_option linter.unusedSimpArgs false
set_option linter.unusedVariables false
def rawPK (n : Nat) (ps : List Pg) (a b : Int) (k : Nat) : List Int := (List.range k).flatMap fun (i : Nat) => readP n a (b + (i : Int)) ps
def rawP (s : Int × Int × Int) (ps : List Pg) (a b : Int) : List Int := rawPK s.2.2.toNat ps a b (nRaw s a b)
theorem rawPK_succ (n : Nat) (ps : List Pg) (a b : Int) (k : Nat) : rawPK n ps a b (k + 1) = rawPK n ps a b k ++ readP n a (b + (k : Int)) ps := by
  simp [rawPK, List.range_succ]
theorem readP_len {n : Nat} {ps : List Pg} (hp : ∀ p ∈ ps, p.2.1.length = n) (a b : Int) : (readP n a b ps).length = n := by
  unfold readP
  split
  · rename_i p h
    exact hp p (List.mem_of_find?_eq_some h)
  · exact fullT_length _ _
theorem rawPK_len {n : Nat} {ps : List Pg} {a b : Int} (hl : ∀ x, (readP n a x ps).length ≤ 256) : ∀ k, (rawPK n ps a b k).length ≤ 256 * k
  | 0 => by simp [rawPK]
  | k + 1 => by
    rw [rawPK_succ, List.length_append]
    have := rawPK_len (b := b) hl k
    have := hl (b + (k : Int))
    omega
section
variable {N0 x : Nat} {s : Int × Int × Int} {ps : List Pg} {w : World} {ok : Nat → Prop}
set_option maxHeartbeats 2000000 in
set_option maxRecDepth 100000 in
theorem RRaw_any (hX : RefIs N0 x s ps ok w) (hs : ShapeOk s) (hl : ps.length < 1000000) (hp : ∀ p ∈ ps, p.2.1.length = s.2.2.toNat) (a b : Int) : Calls Try.prog 47 #[.pointer (some ⟨x, 0, none⟩), .int .i64 a, .int .i64 b] w fun e w' => ∃ A c, e = .returned (.slice A (rawP s ps a b).length c) ∧ (rawP s ps a b).length ≤ c ∧ kB.C w' A (rawP s ps a b).length (rawP s ps a b) ∧ Below w.heap.size w w' := by
  have hglen : ∀ x, (readP s.2.2.toNat a x ps).length ≤ 256 := fun y => by rw [readP_len hp]; have := hs.c1; omega
  have hlen : ∀ k, (rawPK s.2.2.toNat ps a b k).length ≤ 256 * k := rawPK_len hglen
  have hrd := fun (V : World) (hV : Below w.heap.size w V) (y : Int) => RRead_any (hX.below hV) hs hl a y
  have hhs := fun (V : World) (hV : Below w.heap.size w V) (y : Int) => RHas_any (hX.below hV) a y
  have hn := nRaw_le hs a b
  have hnl := fun i => @nRaw_lt s a b i
  have hne := @nRaw_eq s a b
  unfold rawP
  obtain ⟨n, hnn⟩ : ∃ n, n = nRaw s a b := ⟨_, rfl⟩
  rw [← hnn] at hn hne hnl ⊢
  have hb1 := hs.b1
  have hN := hX.1
  have HLEN := Lib.hid hlen
  have HGL := Lib.hid hglen
  have HRD := Lib.hid hrd
  have HHS := Lib.hid hhs
  have HNL := Lib.hid hnl
  have HNE := Lib.hid hne
  clear hlen hglen hrd hnl hne hnn hs hX hhs hp hN
  go_enter Try.func47, Try.ntmps47
  go_wp2
  go_loopw [2, 7] (fun v2 v7 wr => ∃ i : Nat, i ≤ n ∧ v2 = .int .i64 (b + (i : Int)) ∧ kB.R TB wr w.heap.size (fun k => w.heap.size ≤ k) v7 (rawPK s.2.2.toNat ps a b i) ∧ Below w.heap.size w wr) (fun v2 _ _ => n - (intOf v2 - b).toNat)
  case atStart => exact ⟨0, Nat.zero_le _, by simp, Kd.R_nil _ _ _ _ _, Below.refl _ _⟩
  case round =>
    obtain ⟨i, hi, rfl, hR, hb⟩ := hrel
    obtain ⟨A7, c7, rfl⟩ := Kd.R_slice hR
    have HR := Aside0.mk hR
    have HB := Aside0.mk hb
    clear hR hb
    have hLn := HLEN.out i
    have HLN := Lib.hid hLn
    clear hLn
    by_cases hb0 : 0 ≤ b
    · have g0 : (0 : Int) ≤ b + (i : Int) := by omega
      by_cases hin : i < n
      · obtain ⟨hh, -, hlt⟩ := HNL.out i hin
        have HH := Lib.hid hh
        have HG := Lib.hid (HGL.out (b + (i : Int)))
        clear hh
        go_wp2_with (first
          | (go_at_call 40; (with_reducible refine (HHS.out _ HB.out _).mono ?_); rintro e w1 ⟨rfl, rfl⟩; rw [HH.out])
          | (at_builtin; refine Kd.R_append_row (Value.int .u8) (0 : Int) (w0 := w) w.heap.size rfl (.tmp 16) (.tmp 20) 36 TB (.int .u8 0) 1 rfl Try.underlying36 info_u8 rfl (by decide) (.slice A7 (rawPK s.2.2.toNat ps a b i).length c7) (rawPK s.2.2.toNat ps a b i) (readP s.2.2.toNat a (b + (i : Int)) ps) _ _ _ (fun k => w.heap.size ≤ k) rfl rfl (fun k hk => Nat.le_trans HB2.out.size hk) HR2.out HC2.out HB2.out HB2.out.size (by have := HG.out; have := HLN.out; omega) ?_; intro v3 w3 ho3 hb3 hg3 hat3; clear hg3 hat3; have HO3 := Aside0.mk ho3; have HB3 := Aside0.mk hb3; clear ho3 hb3)
          | (go_at_call 78; (with_reducible refine (HRD.out _ HB.out _).mono ?_); rintro e w2 ⟨v, rfl, hrow, hb2⟩; obtain ⟨A8, c8, rfl, _, hC2⟩ := hrow.reads; have HR2 := Aside0.mk (Kd.R_below HR.out hb2); have HC2 := Aside0.mk hC2; have HB2 := Aside0.mk (HB.out.trans (hb2.mono HB.out.size)); clear hrow hb2 hC2))
        refine ⟨⟨i + 1, hin, by congr 1; push_cast; omega, by rw [rawPK_succ]; exact HO3.out, HB3.out⟩, ?_⟩
        simp only [intOf]
        omega
      · have hii : i = n := by omega
        subst hii
        have HH := Lib.hid (HNE.out hb0)
        obtain ⟨A9, c9, e9, hc9, hC9⟩ := (Row.ofR HR.out).reads
        cases e9
        have HC9 := Aside0.mk hC9
        have HCC := Lib.hid hc9
        clear hC9 hc9
        go_wp2_with (go_at_call 40; (with_reducible refine (HHS.out _ HB.out _).mono ?_); rintro e w1 ⟨rfl, rfl⟩; rw [HH.out])
        go_ret
        first | exact ⟨_, _, rfl, HCC.out, HC9.out, HB.out⟩ | exact ⟨_, HCC.out, HC9.out, HB.out⟩ | exact ⟨HCC.out, HC9.out, HB.out⟩ | exact ⟨A7, ⟨c7, rfl⟩, HCC.out, HC9.out, HB.out⟩ | exact ⟨_, _, ⟨rfl, rfl⟩, HCC.out, HC9.out, HB.out⟩
    · have hn0 : n = 0 := by
        by_cases hn0 : 0 < n
        · exact absurd (HNL.out 0 hn0).2.1 hb0
        · omega
      have hii : i = n := by omega
      subst hii
      have g0 : ¬ (0 : Int) ≤ b + (i : Int) := by omega
      have g1 : decide ((0 : Int) ≤ b + (i : Int)) = false := decide_eq_false g0
      clear hn0
      obtain ⟨A9, c9, e9, hc9, hC9⟩ := (Row.ofR HR.out).reads
      cases e9
      have HC9 := Aside0.mk hC9
      have HCC := Lib.hid hc9
      clear hC9 hc9
      go_wp2
      go_ret
      first | exact ⟨_, _, rfl, HCC.out, HC9.out, HB.out⟩ | exact ⟨_, HCC.out, HC9.out, HB.out⟩ | exact ⟨A7, c7, rfl, HCC.out, HC9.out, HB.out⟩ | exact ⟨A7, ⟨c7, rfl⟩, HCC.out, HC9.out, HB.out⟩
end
end Go.Proofs.Ytmbiebdcnadhkaa.Fl
namespace Go.Proofs.Ytmbiebdcnadhkaa.Fl
open Go.RowKit Go.Proofs.YtmbiebdcnadhkaaW.PrintWords Go.Proofs.YtmbiebdcnadhkaaW.PrintMore Go.Maps
set_option linter.unusedSimpArgs false
set_option linter.unusedVariables false
def entP (s : Int × Int × Int) (ps : List Pg) (a b : Int) : En × Int := entL s a b (rawP s ps a b)
def scanP (s : Int × Int × Int) (ps : List Pg) (a : Int) : Int × List En × Bool := scanL (entP s ps a) s.2.1
theorem rawP_byt {s : Int × Int × Int} {ps : List Pg} (h : BytP ps) (a b : Int) : Byt (rawP s ps a b) := by
  intro x hx
  unfold rawP rawPK at hx
  rw [List.mem_flatMap] at hx
  obtain ⟨i, _, hi⟩ := hx
  unfold readP at hi
  split at hi
  · rename_i p hp
    exact h p (List.mem_of_find?_eq_some hp) x hi
  · exact Byt.fullT Byt.nil x hi
section
variable {N0 x : Nat} {s : Int × Int × Int} {ps : List Pg} {w : World} {ok : Nat → Prop}
set_option maxHeartbeats 2000000 in
set_option maxRecDepth 100000 in
theorem Entry_ent (hX : RefIs N0 x s ps ok w) (hs : ShapeOk s) (hl : ps.length < 1000000) (hp : ∀ p ∈ ps, p.2.1.length = s.2.2.toNat) (hby : BytP ps) (a b : Int) : Calls Try.prog 39 #[.pointer (some ⟨x, 0, none⟩), .agg #[.int .i64 a, .int .i64 b]] w (EntPost w (entP s ps a b)) := by
  obtain ⟨W, hW⟩ : ∃ W, W = (w.alloc (.cells #[.int .i64 a, .int .i64 b] TA)).alloc (.cells #[.int .i64 0, .int .i64 0, .int .u64 0, .int .i64 0, .int .u8 0, .slice none 0 0] TE) := ⟨_, rfl⟩
  have q0 : W.heap[w.heap.size]? = some (.cells #[.int .i64 a, .int .i64 b] TA (0, 0)) := by
    rw [hW]; exact (Below.heap_alloc _ _ _ (by simp)).trans (blk_new w _)
  have q1 : W.heap[w.heap.size + 1]? = some (.cells #[.int .i64 0, .int .i64 0, .int .u64 0, .int .i64 0, .int .u8 0, .slice none 0 0] TE (0, 0)) := by
    rw [hW]; have := blk_new (w.alloc (.cells #[.int .i64 a, .int .i64 b] TA)) (.cells #[.int .i64 0, .int .i64 0, .int .u64 0, .int .i64 0, .int .u8 0, .slice none 0 0] TE); rwa [World.size_alloc] at this
  have qb : Below w.heap.size w W := by rw [hW]; exact below_alloc (below_alloc (Below.refl _ _) _) _
  have hbox : ∀ X : World, Below W.heap.size W X → X.heap[w.heap.size]? = some (.cells #[.int .i64 a, .int .i64 b] TA (0, 0)) ∧ X.heap[w.heap.size + 1]? = some (.cells #[.int .i64 0, .int .i64 0, .int .u64 0, .int .i64 0, .int .u8 0, .slice none 0 0] TE (0, 0)) := fun X hX =>
    ⟨(hX.block _ (blt q0)).trans q0, (hX.block _ (blt q1)).trans q1⟩
  have hth := RHas_any (hX.below qb) a b
  have hxlt : x < w.heap.size := by
    obtain ⟨_, _, v, hx, _⟩ := hX
    exact blt hx
  have hxc := fun (X : World) (hX' : Below W.heap.size W X) => ref_cells ((hX.below qb).below hX')
  have hraw := fun (X : World) (hX' : Below W.heap.size W X) => RRaw_any ((hX.below qb).below hX') hs hl hp a b
  have k0 : W.cell? ⟨w.heap.size, 0, none⟩ = some (.int .i64 a) := bcell q0 0
  have k1 : W.cell? ⟨w.heap.size, 1, none⟩ = some (.int .i64 b) := bcell q0 1
  have hrl : (rawP s ps a b).length ≤ 16384 := by
    have h1 := rawPK_len (b := b) (fun y => show (readP s.2.2.toNat a y ps).length ≤ 256 by rw [readP_len hp]; have := hs.c1; omega) (nRaw s a b)
    have h2 := nRaw_le hs a b
    unfold rawP
    omega
  have hrb := rawP_byt (s := s) hby a b
  have HBOX := Lib.hid hbox
  have HTH := Lib.hid hth
  have HRAW := Lib.hid hraw
  have HXC := Lib.hid hxc
  have HS := Lib.hid hs
  have HRL := Lib.hid hrl
  have HRB := Lib.hid hrb
  have HW := Lib.hid hW
  have QB := Aside0.mk qb
  have QS := Lib.hid (show w.heap.size + 1 < W.heap.size from blt q1)
  clear hbox hth hraw hxc hs hrl hrb hW qb q0 q1 hX hby hl hp
  cases hb : hasB s a b with
  | false =>
    have hE : entP s ps a b = (zEn, 6) := by unfold entP entL; rw [if_pos hb]
    have HTE := Lib.hid hb
    rw [hE]
    clear hE hb
    go_enter Try.func39, Try.ntmps39
    go_wp2_with fail
    rw [← HW.out]
    obtain ⟨z0, z1⟩ := HBOX.out _ (Below.refl _ _)
    have k0 : W.cell? ⟨w.heap.size, 0, none⟩ = some (.int .i64 a) := bcell z0 0
    have k1 : W.cell? ⟨w.heap.size, 1, none⟩ = some (.int .i64 b) := bcell z0 1
    obtain ⟨t0, t1, t2, t3, t4, t5, f0, f1, f2, f3, f4, f5⟩ := ent_cells z1
    have Z1 := Lib.hid z1
    have HB1 := Aside0.mk (Below.refl W.heap.size W)
    clear z0 z1
    go_wp2_with (go_at_call 40; (with_reducible refine HTH.out.mono ?_); rw [HTE.out]; rintro e w1 ⟨rfl, rfl⟩)
    refine post_world (EndE w zEn (.slice none 0 0)) (EndE.zero Z1.out (QB.out.trans (HB1.out.mono QB.out.size))) ?_
    rintro Y ⟨y, hd, hb⟩
    obtain ⟨t0, t1, t2, t3, t4, t5, -⟩ := ent_cells y
    exact bodyPost_ret (v := .tuple #[.agg #[.int .i64 0, .int .i64 0, .int .u64 0, .int .i64 0, .int .u8 0, .slice none 0 0], .int .i64 6]) (by simp [results, Try.results39, go_sem, t0, t1, t2, t3, t4, t5, zEn]) rfl ⟨_, rfl, hd, hb⟩
  | true =>
    have HTE := Lib.hid hb
    obtain ⟨n, hn⟩ : ∃ n, n = (rawP s ps a b).length := ⟨_, rfl⟩
    have hget := fun (X : World) (A : Option Addr) (c : Nat) (hC : kB.C X A n (rawP s ps a b)) (hc : n ≤ c) => Parse_ok (w := X) (A := A) (c := c) HRB.out (by have := HRL.out; omega) (by rw [← hn]; exact hC) (by rw [← hn]; exact hc)
    rw [← hn] at hget
    have hraw := HRAW.out
    rw [← hn] at hraw
    have HRW := Lib.hid hraw
    have hnl : n ≤ 16384 := by have := HRL.out; omega
    have hP : entP s ps a b = if (parsed (rawP s ps a b)).2.2.2.2 = 0 then (⟨a, b, (parsed (rawP s ps a b)).2.1, (kpg s ((parsed (rawP s ps a b)).2.2.2.1 - 16).toNat : Int), (parsed (rawP s ps a b)).1, (parsed (rawP s ps a b)).2.2.1⟩, 0) else (zEn, (parsed (rawP s ps a b)).2.2.2.2) := by unfold entP entL; rw [if_neg (by rw [hb]; decide)]
    have hok : (parsed (rawP s ps a b)).2.2.2.2 = 0 → ParsedN (rawP s ps a b) (parsed (rawP s ps a b)).2.2.2.1 (parsed (rawP s ps a b)).2.2.1 := fun h => parsed_n h
    clear hn hraw hb HRAW
    rw [hP]
    clear hP
    generalize hPE : parsed (rawP s ps a b) = P at hget hok ⊢
    obtain ⟨kd, sq, d, pn, er⟩ := P
    simp only at hget hok ⊢
    have HGET := Lib.hid hget
    clear hget
    by_cases he : er = 0
    · subst he
      obtain ⟨m, hm1, hm2, hm3, hm4⟩ := hok rfl
      rw [if_pos rfl]
      subst hm1
      have HM4 := Lib.hid hm4
      have e16 : (m : Int) + 16 - 16 = (m : Int) := by omega
      have hkp : (kpg s ((m : Int) + 16 - 16).toNat : Int) = (kpg s m : Int) := by rw [e16]; rfl
      rw [hkp]
      have hw1 : IntKind.i64.wrap (m : Int) = (m : Int) := IntWalk.i64_in _ (by omega)
      have HPG := Lib.hid (fun X : World => RPages_ok m s HS.out (by omega) X)
      obtain ⟨kp, hkpe⟩ : ∃ q, q = kpg s m := ⟨_, rfl⟩
      have hpg := HPG.out
      rw [← hkpe] at hpg ⊢
      have HPG := Lib.hid hpg
      clear hPE hok hm3 hm4 hkp hkpe hpg
      go_enter Try.func39, Try.ntmps39
      go_wp2_with fail
      rw [← HW.out]
      go_wp2_with (first
        | (go_at_call 40; (with_reducible refine HTH.out.mono ?_); rw [HTE.out]; rintro e w1 ⟨rfl, rfl⟩)
        | (go_at_call 47; (with_reducible refine (HRW.out _ (Below.refl _ _)).mono ?_); rintro e w2 ⟨A2, c2, rfl, hc2, hC2, hb⟩; have HB2 := Aside0.mk hb; have HC2 := Aside0.mk hC2; have HCC := Lib.hid hc2; clear hb hC2 hc2)
        | (go_at_call 84; (with_reducible refine (HGET.out _ _ _ HC2.out HCC.out).mono ?_); rintro e w3 ⟨v3, rfl, hd3, hb⟩; obtain ⟨A3, c3, rfl, -, -⟩ := hd3.reads; have HB3 := Aside0.mk (HB2.out.trans (hb.mono HB2.out.size)); have HD3 := Aside0.mk (Dat.mono (Dat.lower hd3 (Nat.le_trans QB.out.size HB2.out.size)) (fun k hk => Nat.le_trans (Nat.le_trans QB.out.size HB2.out.size) hk)); clear hb hd3))
      have hfc := fun (X : World) (hX : Below (w3.alloc (.cells #[.int .u8 kd, .int .u64 sq, .slice A3 d.length c3] 107)).heap.size (w3.alloc (.cells #[.int .u8 kd, .int .u64 sq, .slice A3 d.length c3] 107)) X) => (hX.block _ (blt (blk_new w3 (.cells #[.int .u8 kd, .int .u64 sq, .slice A3 d.length c3] 107)))).trans (blk_new w3 (.cells #[.int .u8 kd, .int .u64 sq, .slice A3 d.length c3] 107))
      obtain ⟨Z, hZ⟩ : ∃ Z, Z = w3.alloc (.cells #[.int .u8 kd, .int .u64 sq, .slice A3 d.length c3] 107) := ⟨_, rfl⟩
      have HBZ := Aside0.mk (show Below W.heap.size W Z by rw [hZ]; exact below_alloc HB3.out _)
      have HDZ := Aside0.mk (show Dat Z w.heap.size (fun k => w.heap.size ≤ k) (.slice A3 d.length c3) d by rw [hZ]; exact HD3.out.below (below_alloc (Below.refl _ _) _))
      rw [← hZ] at hfc ⊢
      have hz3 : w.heap.size + 1 < w3.heap.size := Nat.lt_of_lt_of_le QS.out HB3.out.size
      have hall := fun (X : World) (hX : Below Z.heap.size Z X) => show X.cell? ⟨w.heap.size, 0, none⟩ = some (.int .i64 a) ∧ X.cell? ⟨w.heap.size, 1, none⟩ = some (.int .i64 b) ∧ X.cell? ⟨w3.heap.size, 0, none⟩ = some (.int .u8 kd) ∧ X.cell? ⟨w3.heap.size, 1, none⟩ = some (.int .u64 sq) ∧ X.cell? ⟨w3.heap.size, 2, none⟩ = some (.slice A3 d.length c3) ∧ X.cell? ⟨x, 2, none⟩ = some (.int .i64 s.2.2) from
        ⟨bcell (HBOX.out X (HBZ.out.trans (hX.mono HBZ.out.size))).1 0, bcell (HBOX.out X (HBZ.out.trans (hX.mono HBZ.out.size))).1 1, bcell (hfc X hX) 0, bcell (hfc X hX) 1, bcell (hfc X hX) 2, (HXC.out X (HBZ.out.trans (hX.mono HBZ.out.size))).2.2⟩
      have HALL := Lib.hid hall
      have HZ := Lib.hid hZ
      obtain ⟨k0, k1, k2, k3, k4, k5⟩ := HALL.out Z (Below.refl _ _)
      have hne1 : ¬ w3.heap.size = w.heap.size + 1 := by omega
      have hne2 : ¬ w.heap.size + 1 = w3.heap.size := by omega
      have hne3 : ¬ x = w.heap.size + 1 := by omega
      have hne4 : ¬ w.heap.size + 1 = x := by omega
      clear hfc hZ hall
      go_region_held3 (fun w' => w'.cell? ⟨w.heap.size, 0, none⟩ = some (.int .i64 a) ∧ w'.cell? ⟨w.heap.size, 1, none⟩ = some (.int .i64 b) ∧ w'.cell? ⟨w3.heap.size, 0, none⟩ = some (.int .u8 kd) ∧ w'.cell? ⟨w3.heap.size, 1, none⟩ = some (.int .u64 sq) ∧ w'.cell? ⟨w3.heap.size, 2, none⟩ = some (.slice A3 d.length c3) ∧ w'.cell? ⟨x, 2, none⟩ = some (.int .i64 s.2.2)) (first | go_keep | exact HALL.out _ HB5.out)
        (first | (go_at_call 42; (with_reducible refine (HPG.out _).mono ?_); rintro e w5 ⟨rfl, hb⟩; have HB5 := Aside0.mk (undrew hb); obtain ⟨z0, z1⟩ := HBOX.out _ (HBZ.out.trans (HB5.out.mono HBZ.out.size)); obtain ⟨t0, t1, t2, t3, t4, t5, f0, f1, f2, f3, f4, f5⟩ := ent_cells z1; have Z1 := Lib.hid z1; clear hb z0 z1))
      go_wp2
      refine post_world (EndE w ⟨a, b, sq, (kp : Int), kd, d⟩ (.slice A3 d.length c3)) (EndE.put ⟨a, b, sq, (kp : Int), kd, d⟩ Z1.out (QB.out.trans ((HBZ.out.trans (HB5.out.mono HBZ.out.size)).mono QB.out.size)) (HDZ.out.below HB5.out)) ?_
      rintro Y ⟨y, hd, hb⟩
      simp only at y hd
      obtain ⟨t0, t1, t2, t3, t4, t5, -⟩ := ent_cells y
      exact bodyPost_ret (v := .tuple #[.agg #[.int .i64 a, .int .i64 b, .int .u64 sq, .int .i64 (kp : Int), .int .u8 kd, .slice A3 d.length c3], .int .i64 0]) (by simp [results, Try.results39, go_sem, t0, t1, t2, t3, t4, t5]) rfl ⟨_, rfl, hd, hb⟩
    · have e1 : (er != 0) = true := bne_iff_ne.2 he
      have HE := Lib.hid he
      rw [if_neg he]
      clear hPE hok he
      go_enter Try.func39, Try.ntmps39
      go_wp2_with fail
      rw [← HW.out]
      go_wp2_with (first
        | (go_at_call 40; (with_reducible refine HTH.out.mono ?_); rw [HTE.out]; rintro e w1 ⟨rfl, rfl⟩)
        | (go_at_call 47; (with_reducible refine (HRW.out _ (Below.refl _ _)).mono ?_); rintro e w2 ⟨A2, c2, rfl, hc2, hC2, hb⟩; have HB2 := Aside0.mk hb; have HC2 := Aside0.mk hC2; have HCC := Lib.hid hc2; clear hb hC2 hc2)
        | (go_at_call 84; (with_reducible refine (HGET.out _ _ _ HC2.out HCC.out).mono ?_); rintro e w3 ⟨v3, rfl, hd3, hb⟩; obtain ⟨A3, c3, rfl, -, -⟩ := hd3.reads; have HB3 := Aside0.mk (HB2.out.trans (hb.mono HB2.out.size)); have HD3 := Aside0.mk hd3; obtain ⟨z0, z1⟩ := HBOX.out _ HB3.out; obtain ⟨t0, t1, t2, t3, t4, t5, f0, f1, f2, f3, f4, f5⟩ := ent_cells z1; have hz3 : w.heap.size + 1 < w3.heap.size := blt z1; have Z1 := Lib.hid z1; clear hb hd3 z0 z1))
      refine post_world (EndE w zEn (.slice none 0 0)) ((EndE.zero Z1.out (QB.out.trans (HB3.out.mono QB.out.size))).alloc _) ?_
      rintro Y ⟨y, hd, hb⟩
      obtain ⟨t0, t1, t2, t3, t4, t5, -⟩ := ent_cells y
      exact bodyPost_ret (v := .tuple #[.agg #[.int .i64 0, .int .i64 0, .int .u64 0, .int .i64 0, .int .u8 0, .slice none 0 0], .int .i64 er]) (by simp [results, Try.results39, go_sem, t0, t1, t2, t3, t4, t5, zEn]) rfl ⟨_, rfl, hd, hb⟩
end
end Go.Proofs.Ytmbiebdcnadhkaa.Fl
namespace Go.Proofs.Ytmbiebdcnadhkaa.Fl
open Go.RowKit Go.Proofs.YtmbiebdcnadhkaaW.PrintWords Go.Proofs.YtmbiebdcnadhkaaW.PrintMore Go.Maps
set_option linter.unusedSimpArgs false
set_option linter.unusedVariables false
section
variable {N0 x : Nat} {s : Int × Int × Int} {ps : List Pg} {w : World} {ok : Nat → Prop}
set_option maxHeartbeats 4000000 in
set_option maxRecDepth 100000 in
theorem RScan_ent (hX : RefIs N0 x s ps ok w) (hs : ShapeOk s) (hl : ps.length < 1000000) (hp : ∀ p ∈ ps, p.2.1.length = s.2.2.toNat) (hby : BytP ps) (a : Int) : Calls Try.prog 37 #[.pointer (some ⟨x, 0, none⟩), .int .i64 a] w (ScanPost w (scanP s ps a)) := by
  have hpg : ∀ x, (entP s ps a x).2 = 0 → 1 ≤ (entP s ps a x).1.pages ∧ (entP s ps a x).1.pages ≤ 257 := fun x h => ent_pages hs h
  have hrd := fun (X : World) (hX' : Below w.heap.size w X) (y : Int) => Entry_ent (hX.below hX') hs hl hp hby a y
  have hshape := fun (X : World) (hX' : Below w.heap.size w X) => (ref_cells (hX.below hX')).2.1
  unfold scanP
  obtain ⟨E, hE⟩ : ∃ E, E = entP s ps a := ⟨_, rfl⟩
  rw [← hE] at hpg ⊢
  have hrd2 : ∀ (X : World), Below w.heap.size w X → ∀ y : Int, Calls Try.prog 39 #[.pointer (some ⟨x, 0, none⟩), .agg #[.int .i64 a, .int .i64 y]] X (EntPost X (E y)) := by rw [hE]; exact hrd
  obtain ⟨n, hn⟩ := Int.eq_ofNat_of_zero_le (show 0 ≤ s.2.1 by have := hs.b0; omega)
  have hn0 : 1 ≤ n := by have := hs.b0; omega
  have hn1 : n ≤ 64 := by have := hs.b1; omega
  rw [hn] at hshape ⊢
  have HRD := Lib.hid hrd2
  have HSHP := Lib.hid hshape
  have HPG := Lib.hid hpg
  clear hpg hrd hrd2 hshape hs hX hby hE hn hl hp
  unfold scanL
  rcases hh : E 0 with ⟨⟨ha, hb, hsq, hpgs, hkd, hdt⟩, her⟩
  have hr0 := HRD.out w (Below.refl _ _) 0
  have hp0 := HPG.out 0
  rw [hh] at hr0 hp0
  simp only at hp0 ⊢
  have HR0 := Lib.hid hr0
  have HP0 := Lib.hid hp0
  clear hr0 hp0 hh
  by_cases c1 : her = 0
  · subst c1
    by_cases c2 : hkd = 1
    · subst c2
      by_cases c3 : 0 < hdt.length
      · rw [if_pos (.inr (.inr c3))]
        have e3 : decide ((0 : Int) < (hdt.length : Int)) = true := by simp; omega
        have C3 := Lib.hid c3
        clear c3 HP0
        go_enter Try.func37, Try.ntmps37
        go_wp2_with fail
        go_wp2_with (go_at_call 39; (with_reducible refine HR0.out.mono ?_); rintro e w1 ⟨v1, rfl, hd1, hb1⟩; obtain ⟨A1, c1, rfl, -, -⟩ := hd1.reads; have HB1 := Aside0.mk hb1; clear hb1 hd1)
        try rw [Exit.noGoto_ret]
        go_ret3
        exact ⟨_, rfl, Kd.R_nil _ _ _ _ _, below_alloc HB1.out _⟩
      · obtain ⟨hp1, hp2⟩ := HP0.out rfl
        have hdt0 : hdt = [] := List.eq_nil_of_length_eq_zero (by omega)
        subst hdt0
        rw [if_neg (by simp)]
        obtain ⟨L, hL⟩ : ∃ L, L = scanF E (n : Int) hsq 64 hpgs := ⟨_, rfl⟩
        rw [← hL]
        have HL := Lib.hid hL
        clear hL c3 HP0
        go_enter Try.func37, Try.ntmps37
        go_wp2_with fail
        go_wp2_with (go_at_call 39; (with_reducible refine HR0.out.mono ?_); rintro e w1 ⟨v1, rfl, hd1, hb1⟩; obtain ⟨A1, c1, rfl, -, -⟩ := hd1.reads; have HB1 := Aside0.mk hb1; clear hb1 hd1)
        go_wp2_with fail
        go_loopw [9, 10] (fun v9 v10 wr => ∃ (f : Nat) (page : Int) (l : List En), v10 = .int .i64 page ∧ 1 ≤ page ∧ page ≤ 321 ∧ kEnt.R TE wr w.heap.size (fun k => w.heap.size ≤ k ∧ k ≠ w1.heap.size) v9 l ∧ L = l ++ scanF E (n : Int) hsq f page ∧ (n : Int) - page ≤ f ∧ (l.length : Int) ≤ page ∧ Below w.heap.size w wr ∧ wr.heap[w1.heap.size]? = some (.cells #[.int .i64 ha, .int .i64 hb, .int .u64 hsq, .int .i64 hpgs, .int .u8 1, .slice A1 0 c1] TE (0, 0))) (fun _ v10 _ => ((n : Int) - intOf v10).toNat)
        case atStart => exact ⟨64, hpgs, [], rfl, hp1, by omega, Kd.R_nil _ _ _ _ _, by rw [HL.out]; rfl, by omega, by simp; omega, below_alloc HB1.out _, blk_new _ _⟩
        case round =>
          obtain ⟨f, page, l, rfl, hpa, hpb, hR, hLL, hf, hll, hb, hH⟩ := hrel
          obtain ⟨A9, c9, rfl⟩ := Kd.R_slice hR
          have HR := Aside0.mk hR
          have HLL := Lib.hid hLL
          have HB := Aside0.mk hb
          have HH := Lib.hid hH
          have HLT := Lib.hid hll
          obtain ⟨y0, y1, y2, y3, y4, y5, -⟩ := ent_cells hH
          have kn := HSHP.out _ hb
          clear hR hLL hb hH hll
          by_cases hlt : page < (n : Int)
          · clear y0 y1 y2 y3 y4 y5
            rcases hx : E page with ⟨⟨xa, xb, xsq, xpg, xkd, xdt⟩, xer⟩
            have hrx := fun (X : World) (hX : Below w.heap.size w X) => HRD.out X hX page
            rw [hx] at hrx
            have HRX := Lib.hid hrx
            have HX := Lib.hid hx
            clear hrx hx
            by_cases x1 : xer = 0
            · subst x1
              by_cases x2 : xkd = 1
              · subst x2
                have HBAD := Lib.hid (show (E page).2 ≠ 0 ∨ (E page).1.kind = 1 ∨ (E page).1.seq ≠ hsq from .inr (.inl (by rw [HX.out])))
                go_wp2_with (first
                  | (go_at_call 39; (with_reducible refine (HRX.out _ HB.out).mono ?_); rintro e w4 ⟨v4, rfl, hd4, hb4⟩; obtain ⟨A4, c4, rfl, -, -⟩ := hd4.reads; have HB4 := Aside0.mk (HB.out.trans (hb4.mono HB.out.size)); have HR4 := Aside0.mk (Kd.R_below HR.out hb4); have h4 := (hb4.block _ (blt HH.out)).trans HH.out; obtain ⟨y0, y1, y2, y3, y4, y5, -⟩ := ent_cells h4; have HH4 := Lib.hid h4; have HD4 := Aside0.mk (Dat.mono (Dat.lower hd4 HB.out.size) (fun k hk => Nat.le_trans HB.out.size hk)); have hz4 : w1.heap.size < w4.heap.size := blt h4; clear hb4 hd4 h4))
                try rw [Exit.noGoto_ret]
                go_ret3
                rw [HLL.out, scanF_bad HBAD.out, List.append_nil]
                exact ⟨_, rfl, Kd.R_below (Kd.R_mono HR4.out (fun k hk => hk.1)) (below_alloc (Below.refl _ _) _), below_alloc HB4.out _⟩
              · have e2 : (xkd == 1) = false := by simpa using x2
                by_cases x3 : xsq = hsq
                · subst x3
                  have hpx := HPG.out page
                  rw [HX.out] at hpx
                  obtain ⟨hq1, hq2⟩ := hpx rfl
                  simp only at hq1 hq2
                  obtain ⟨f, rfl⟩ : ∃ f', f = f' + 1 := ⟨f - 1, by omega⟩
                  have hgood := scanF_good (E := E) (n := (n : Int)) (sq := xsq) (f := f) (page := page) ⟨by omega, hlt⟩ (by rw [HX.out]) (by rw [HX.out]; exact x2) (by rw [HX.out])
                  rw [HX.out] at hgood
                  simp only at hgood
                  have HGOOD := Lib.hid hgood
                  clear hgood hpx x2
                  go_wp2_with (first
                    | (go_at_call 39; (with_reducible refine (HRX.out _ HB.out).mono ?_); rintro e w4 ⟨v4, rfl, hd4, hb4⟩; obtain ⟨A4, c4, rfl, -, -⟩ := hd4.reads; have HB4 := Aside0.mk (HB.out.trans (hb4.mono HB.out.size)); have hr4 := Kd.R_below HR.out hb4; have h4 := (hb4.block _ (blt HH.out)).trans HH.out; obtain ⟨y0, y1, y2, y3, y4, y5, -⟩ := ent_cells h4; have hz4 : w1.heap.size < w4.heap.size := blt h4; obtain ⟨hr5, okp, hm5, hok5⟩ := scan_app ⟨xa, xb, xsq, xpg, xkd, xdt⟩ h4 hr4 (Dat.mono (Dat.lower hd4 HB.out.size) (fun k hk => Nat.le_trans HB.out.size hk)) (.cells #[.int .i64 xa, .int .i64 xb, .int .u64 xsq, .int .i64 xpg, .int .u8 xkd, .slice A4 xdt.length c4] TE); have HR5 := Aside0.mk hr5; have HM5 := Aside0.mk hm5; have HOK5 := Lib.hid hok5; have HB5 := Aside0.mk (below_alloc HB4.out (.cells #[.int .i64 xa, .int .i64 xb, .int .u64 xsq, .int .i64 xpg, .int .u8 xkd, .slice A4 xdt.length c4] TE)); have HZ4 := Lib.hid h4; clear hb4 hd4 h4 hr4 hr5 hm5 hok5)
                    | (at_builtin; refine Kd.R_append kEnt (w0 := w) w.heap.size rfl (.tmp 64) (.tmp 66) 41 TE (.agg #[.int .i64 0, .int .i64 0, .int .u64 0, .int .i64 0, .int .u8 0, .slice none 0 0]) 64 rfl Try.underlying41 info_ent rfl (by decide) (by decide) (.slice A9 l.length c9) l ⟨xa, xb, xsq, xpg, xkd, xdt⟩ (enC ⟨xa, xb, xsq, xpg, xkd, xdt⟩ (.slice A4 xdt.length c4)) (fun k => (w.heap.size ≤ k ∧ k ≠ w1.heap.size) ∧ k ≠ w4.heap.size) okp rfl (by simp [Act.eval]) HM5.out HOK5.out (fun k hk => by have := HB4.out.size; have := blt HZ4.out; simp at hk; omega) HR5.out HB5.out HB5.out.size (by have := HLT.out; omega) ?_; intro v6 w6 hr6 hb6 hg6 hat6; have hbx := (hg6.block w4.heap.size (by simp) (own_ne HR5.out (by simp))).trans (blk_new w4 _); have hb1 := (hg6.block w1.heap.size (by simp; omega) (own_ne HR5.out (by simp))).trans ((Below.heap_alloc _ _ _ (blt HZ4.out)).trans HZ4.out); have HX6 := Lib.hid hbx; have HH6 := Lib.hid hb1; obtain ⟨z0, z1, z2, z3, z4, z5, -⟩ := ent_cells hbx; have HR6 := Aside0.mk hr6; have HB6 := Aside0.mk hb6; clear hr6 hb6 hg6 hat6 hbx hb1 y0 y1 y2 y3 y4 y5))
                  refine ⟨⟨f, page + xpg, l ++ [⟨xa, xb, xsq, xpg, xkd, xdt⟩], by go_num, by omega, by omega, Kd.R_mono HR6.out (fun k hk => hk.1), by rw [HLL.out, HGOOD.out]; simp, by omega, by have := HLT.out; simp; omega, HB6.out, HH6.out⟩, by simp [intOf]; omega⟩
                · have e3 : (xsq != hsq) = true := bne_iff_ne.2 x3
                  have HBAD := Lib.hid (show (E page).2 ≠ 0 ∨ (E page).1.kind = 1 ∨ (E page).1.seq ≠ hsq from .inr (.inr (by rw [HX.out]; exact x3)))
                  clear x2 x3
                  go_wp2_with (first
                    | (go_at_call 39; (with_reducible refine (HRX.out _ HB.out).mono ?_); rintro e w4 ⟨v4, rfl, hd4, hb4⟩; obtain ⟨A4, c4, rfl, -, -⟩ := hd4.reads; have HB4 := Aside0.mk (HB.out.trans (hb4.mono HB.out.size)); have HR4 := Aside0.mk (Kd.R_below HR.out hb4); have h4 := (hb4.block _ (blt HH.out)).trans HH.out; obtain ⟨y0, y1, y2, y3, y4, y5, -⟩ := ent_cells h4; have HH4 := Lib.hid h4; have HD4 := Aside0.mk (Dat.mono (Dat.lower hd4 HB.out.size) (fun k hk => Nat.le_trans HB.out.size hk)); have hz4 : w1.heap.size < w4.heap.size := blt h4; clear hb4 hd4 h4))
                  try rw [Exit.noGoto_ret]
                  go_ret3
                  rw [HLL.out, scanF_bad HBAD.out, List.append_nil]
                  exact ⟨_, rfl, Kd.R_below (Kd.R_mono HR4.out (fun k hk => hk.1)) (below_alloc (Below.refl _ _) _), below_alloc HB4.out _⟩
            · have e1 : (xer != 0) = true := bne_iff_ne.2 x1
              have HBAD := Lib.hid (show (E page).2 ≠ 0 ∨ (E page).1.kind = 1 ∨ (E page).1.seq ≠ hsq from .inl (by rw [HX.out]; exact x1))
              clear x1
              go_wp2_with (first
                | (go_at_call 39; (with_reducible refine (HRX.out _ HB.out).mono ?_); rintro e w4 ⟨v4, rfl, hd4, hb4⟩; obtain ⟨A4, c4, rfl, -, -⟩ := hd4.reads; have HB4 := Aside0.mk (HB.out.trans (hb4.mono HB.out.size)); have HR4 := Aside0.mk (Kd.R_below HR.out hb4); have h4 := (hb4.block _ (blt HH.out)).trans HH.out; obtain ⟨y0, y1, y2, y3, y4, y5, -⟩ := ent_cells h4; have HH4 := Lib.hid h4; have HD4 := Aside0.mk (Dat.mono (Dat.lower hd4 HB.out.size) (fun k hk => Nat.le_trans HB.out.size hk)); have hz4 : w1.heap.size < w4.heap.size := blt h4; clear hb4 hd4 h4))
              try rw [Exit.noGoto_ret]
              go_ret3
              rw [HLL.out, scanF_bad HBAD.out, List.append_nil]
              exact ⟨_, rfl, Kd.R_below (Kd.R_mono HR4.out (fun k hk => hk.1)) (below_alloc (Below.refl _ _) _), below_alloc HB4.out _⟩
          · have HEND := Lib.hid (show ¬ (0 ≤ page ∧ page < (n : Int)) from fun h => hlt h.2)
            go_wp2
            try rw [Exit.noGoto_ret]
            go_ret3
            rw [HLL.out, scanF_end HEND.out, List.append_nil]
            exact ⟨_, rfl, Kd.R_mono HR.out (fun k hk => hk.1), HB.out⟩
    · rw [if_pos (.inr (.inl c2))]
      have e2 : (hkd != 1) = true := bne_iff_ne.2 c2
      clear c2 HP0
      go_enter Try.func37, Try.ntmps37
      go_wp2_with fail
      go_wp2_with (go_at_call 39; (with_reducible refine HR0.out.mono ?_); rintro e w1 ⟨v1, rfl, hd1, hb1⟩; obtain ⟨A1, c1, rfl, -, -⟩ := hd1.reads; have HB1 := Aside0.mk hb1; clear hb1 hd1)
      try rw [Exit.noGoto_ret]
      go_ret3
      exact ⟨_, rfl, Kd.R_nil _ _ _ _ _, below_alloc HB1.out _⟩
  · rw [if_pos (.inl c1)]
    have e1 : (her != 0) = true := bne_iff_ne.2 c1
    clear c1 HP0
    go_enter Try.func37, Try.ntmps37
    go_wp2_with fail
    go_wp2_with (go_at_call 39; (with_reducible refine HR0.out.mono ?_); rintro e w1 ⟨v1, rfl, hd1, hb1⟩; obtain ⟨A1, c1, rfl, -, -⟩ := hd1.reads; have HB1 := Aside0.mk hb1; clear hb1 hd1)
    try rw [Exit.noGoto_ret]
    go_ret3
    exact ⟨_, rfl, Kd.R_nil _ _ _ _ _, below_alloc HB1.out _⟩
end
end Go.Proofs.Ytmbiebdcnadhkaa.Fl
namespace Go.Proofs.Ytmbiebdcnadhkaa.Fl
open Go.RowKit Go.Proofs.YtmbiebdcnadhkaaW.PrintWords Go.Proofs.YtmbiebdcnadhkaaW.PrintMore Go.Maps
set_option linter.unusedSimpArgs false
set_option linter.unusedVariables false
theorem fpages_off (n p : Int) (h : ¬ (0 ≤ n ∧ n ≤ 4096)) (hm : -9223372036854775808 ≤ n ∧ n ≤ 9223372036854775807) : Go.Proofs.Ytmbiebdcnadhkaa.QFrame.frame_Pages.f n p = some 0 := by
  have hsz : Go.Proofs.Ytmbiebdcnadhkaa.QFrame.frame_Size.f n = some 0 := by
    unfold Go.Proofs.Ytmbiebdcnadhkaa.QFrame.frame_Size.f
    rw [Go.Proofs.Ytmbiebdcnadhkaa.FrameFacts.fits_is, Option.bind_some, if_neg (by rw [decide_eq_true_iff]; omega)]
  unfold Go.Proofs.Ytmbiebdcnadhkaa.QFrame.frame_Pages.f
  by_cases hp : p < 1
  · rw [if_pos hp]
  · rw [if_neg hp, hsz, Option.bind_some, if_neg (by omega), Option.bind_some]
    simp [wrap64]
def fitsQ (s : Int × Int × Int) (page n : Int) : Bool := decide ((0 ≤ n ∧ n ≤ 4096) ∧ 0 ≤ page ∧ page ≤ s.2.1 ∧ (kpg s n.toNat : Int) ≤ s.2.1 - page)
set_option maxHeartbeats 1000000 in
set_option maxRecDepth 100000 in
theorem Fits_all (s : Int × Int × Int) (hs : ShapeOk s) (page n : Int) (hn : -9223372036854775808 ≤ n ∧ n ≤ 9223372036854775807) (w : World) :
    Calls Try.prog 46 #[.agg #[.int .i64 s.1, .int .i64 s.2.1, .int .i64 s.2.2], .int .i64 page, .int .i64 n] w fun e w' => e = .returned (.bool (fitsQ s page n)) ∧ Below w.heap.size w w' := by
  obtain ⟨W, hW⟩ : ∃ W, W = w.alloc (.cells #[.int .i64 s.1, .int .i64 s.2.1, .int .i64 s.2.2] 23) := ⟨_, rfl⟩
  have q0 : W.heap[w.heap.size]? = some (.cells #[.int .i64 s.1, .int .i64 s.2.1, .int .i64 s.2.2] 23 (0, 0)) := by rw [hW]; exact blk_new w _
  have qb : Below w.heap.size w W := by rw [hW]; exact below_alloc (Below.refl _ _) _
  have hbox : ∀ X : World, Below W.heap.size W X → X.cell? ⟨w.heap.size, 1, none⟩ = some (.int .i64 s.2.1) ∧ X.cell? ⟨w.heap.size, 2, none⟩ = some (.int .i64 s.2.2) := fun X hX => by
    have := (hX.block _ (blt q0)).trans q0
    exact ⟨bcell this 1, bcell this 2⟩
  obtain ⟨k, hk⟩ : ∃ k : Nat, k = if 0 ≤ n ∧ n ≤ 4096 then kpg s n.toNat else 0 := ⟨_, rfl⟩
  have hpg : Calls Try.prog 85 #[.int .i64 n, .int .i64 s.2.2] W fun e w' => e = .returned (.int .i64 (k : Int)) ∧ Below W.heap.size W w' := by
    by_cases h : 0 ≤ n ∧ n ≤ 4096
    · rw [hk, if_pos h]
      have := Pages_ok n.toNat s hs (by omega) W
      rwa [Int.toNat_of_nonneg h.1] at this
    · rw [hk, if_neg h]
      exact (Go.Proofs.Ytmbiebdcnadhkaa.QFrame.frame_Pages.calls n s.2.2 _ W (fpages_off n s.2.2 h hn)).mono fun e w' ⟨e1, nd, e2⟩ => ⟨e1, by rw [e2]; exact pw_below_drewN (Below.refl _ _) _⟩
  have hkb : k ≤ 257 ∧ (0 ≤ n ∧ n ≤ 4096 → 1 ≤ k) ∧ (¬ (0 ≤ n ∧ n ≤ 4096) → k = 0) := by
    by_cases h : 0 ≤ n ∧ n ≤ 4096
    · rw [hk, if_pos h]
      have := kpg_bd hs (show n.toNat ≤ 4096 by omega)
      exact ⟨this.2, fun _ => this.1, fun h2 => absurd h h2⟩
    · rw [hk, if_neg h]
      exact ⟨by omega, fun h2 => absurd h2 h, fun _ => rfl⟩
  have hfs : fitsQ s page n = decide (0 < k ∧ 0 ≤ page ∧ page ≤ s.2.1 ∧ (k : Int) ≤ s.2.1 - page) := by
    unfold fitsQ
    by_cases h : 0 ≤ n ∧ n ≤ 4096
    · have : k = kpg s n.toNat := by rw [hk, if_pos h]
      rw [← this]
      have := hkb.2.1 h
      congr 1
      exact propext ⟨fun ⟨_, h2⟩ => ⟨by omega, h2⟩, fun ⟨_, h2⟩ => ⟨h, h2⟩⟩
    · rw [decide_eq_false (fun hh => h hh.1), decide_eq_false (fun hh => by have := hkb.2.2 h; omega)]
  rw [hfs]
  have hp1 := hs.b0
  have hp2 := hs.b1
  have hk3 := hkb.1
  obtain ⟨y1, y2⟩ := hbox W (Below.refl _ _)
  have HPG := Lib.hid hpg
  have HW := Lib.hid hW
  have QB := Aside0.mk qb
  have HBOX := Lib.hid hbox
  clear hpg hW q0 qb hbox hkb hfs hk hn
  by_cases h1 : 0 ≤ page
  · by_cases h2 : 0 < k
    · have e2 : decide ((0 : Int) < (k : Int)) = true := by simp; omega
      by_cases h3 : page ≤ s.2.1
      · by_cases h4 : (k : Int) ≤ s.2.1 - page
        · have HR := Lib.hid (show decide (0 < k ∧ 0 ≤ page ∧ page ≤ s.2.1 ∧ (k : Int) ≤ s.2.1 - page) = true from decide_eq_true ⟨h2, h1, h3, h4⟩)
          have e4 : decide ((k : Int) ≤ s.2.1 - page) = true := by simp; omega
          go_enter Try.func46, Try.ntmps46
          go_wp2_with fail
          rw [← HW.out]
          go_wp2_with (go_at_call 85; (with_reducible refine HPG.out.mono ?_); rintro e w1 ⟨rfl, hb⟩; obtain ⟨z1, z2⟩ := HBOX.out _ hb; have HB := Aside0.mk hb; clear hb)
          go_ret
          exact ⟨by rw [HR.out]; rfl, QB.out.trans (HB.out.mono QB.out.size)⟩
        · have e4 : decide ((k : Int) ≤ s.2.1 - page) = false := by simp; omega
          have HR := Lib.hid (show decide (0 < k ∧ 0 ≤ page ∧ page ≤ s.2.1 ∧ (k : Int) ≤ s.2.1 - page) = false from decide_eq_false (fun hh => by omega))
          go_enter Try.func46, Try.ntmps46
          go_wp2_with fail
          rw [← HW.out]
          go_wp2_with (go_at_call 85; (with_reducible refine HPG.out.mono ?_); rintro e w1 ⟨rfl, hb⟩; obtain ⟨z1, z2⟩ := HBOX.out _ hb; have HB := Aside0.mk hb; clear hb)
          go_ret
          exact ⟨by rw [HR.out]; rfl, QB.out.trans (HB.out.mono QB.out.size)⟩
      · have e3 : decide (page ≤ s.2.1) = false := by simp; omega
        have HR := Lib.hid (show decide (0 < k ∧ 0 ≤ page ∧ page ≤ s.2.1 ∧ (k : Int) ≤ s.2.1 - page) = false from decide_eq_false (fun hh => by omega))
        go_enter Try.func46, Try.ntmps46
        go_wp2_with fail
        rw [← HW.out]
        go_wp2_with (go_at_call 85; (with_reducible refine HPG.out.mono ?_); rintro e w1 ⟨rfl, hb⟩; obtain ⟨z1, z2⟩ := HBOX.out _ hb; have HB := Aside0.mk hb; clear hb)
        go_ret
        exact ⟨by rw [HR.out]; rfl, QB.out.trans (HB.out.mono QB.out.size)⟩
    · have e2 : decide ((0 : Int) < (k : Int)) = false := by simp; omega
      have HR := Lib.hid (show decide (0 < k ∧ 0 ≤ page ∧ page ≤ s.2.1 ∧ (k : Int) ≤ s.2.1 - page) = false from decide_eq_false (fun hh => by omega))
      go_enter Try.func46, Try.ntmps46
      go_wp2_with fail
      rw [← HW.out]
      go_wp2_with (go_at_call 85; (with_reducible refine HPG.out.mono ?_); rintro e w1 ⟨rfl, hb⟩; obtain ⟨z1, z2⟩ := HBOX.out _ hb; have HB := Aside0.mk hb; clear hb)
      go_ret
      exact ⟨by rw [HR.out]; rfl, QB.out.trans (HB.out.mono QB.out.size)⟩
  · have e1 : decide (0 ≤ page) = false := by simp; omega
    have HR := Lib.hid (show decide (0 < k ∧ 0 ≤ page ∧ page ≤ s.2.1 ∧ (k : Int) ≤ s.2.1 - page) = false from decide_eq_false (fun hh => by omega))
    go_enter Try.func46, Try.ntmps46
    go_wp2_with fail
    rw [← HW.out]
    go_wp2_with (go_at_call 85; (with_reducible refine HPG.out.mono ?_); rintro e w1 ⟨rfl, hb⟩; obtain ⟨z1, z2⟩ := HBOX.out _ hb; have HB := Aside0.mk hb; clear hb)
    go_ret
    exact ⟨by rw [HR.out]; rfl, QB.out.trans (HB.out.mono QB.out.size)⟩
end Go.Proofs.Ytmbiebdcnadhkaa.Fl
namespace Go.Proofs.Ytmbiebdcnadhkaa.Fl
open Go.RowKit Go.Proofs.YtmbiebdcnadhkaaW.PrintWords Go.Proofs.YtmbiebdcnadhkaaW.PrintMore Go.Maps
set_option linter.unusedSimpArgs false
set_option linter.unusedVariables false
def sameB (e f : En) : Bool := decide (e.a = f.a ∧ e.b = f.b ∧ e.seq = f.seq ∧ e.pages = f.pages ∧ e.kind = f.kind ∧ e.data = f.data)
theorem sameB_self (e : En) : sameB e e = true := decide_eq_true ⟨rfl, rfl, rfl, rfl, rfl, rfl⟩
set_option maxHeartbeats 2000000 in
set_option maxRecDepth 100000 in
theorem SameEntry_ok {w : World} {A B : Option Addr} {c d : Nat} {e f : En} (hl : kB.C w A e.data.length e.data) (hm : kB.C w B f.data.length f.data) (h0 : e.data.length < 1000000) (h1 : f.data.length < 1000000) :
    Calls Try.prog 44 #[.agg #[.int .i64 e.a, .int .i64 e.b, .int .u64 e.seq, .int .i64 e.pages, .int .u8 e.kind, .slice A e.data.length c], .agg #[.int .i64 f.a, .int .i64 f.b, .int .u64 f.seq, .int .i64 f.pages, .int .u8 f.kind, .slice B f.data.length d]] w fun r w' => r = .returned (.bool (sameB e f)) ∧ Below w.heap.size w w' := by
  obtain ⟨W, hW⟩ : ∃ W, W = (w.alloc (.cells #[.int .i64 e.a, .int .i64 e.b, .int .u64 e.seq, .int .i64 e.pages, .int .u8 e.kind, .slice A e.data.length c] TE)).alloc (.cells #[.int .i64 f.a, .int .i64 f.b, .int .u64 f.seq, .int .i64 f.pages, .int .u8 f.kind, .slice B f.data.length d] TE) := ⟨_, rfl⟩
  have q0 : W.heap[w.heap.size]? = some (.cells #[.int .i64 e.a, .int .i64 e.b, .int .u64 e.seq, .int .i64 e.pages, .int .u8 e.kind, .slice A e.data.length c] TE (0, 0)) := by
    rw [hW]; exact (Below.heap_alloc _ _ _ (by simp)).trans (blk_new w _)
  have q1 : W.heap[w.heap.size + 1]? = some (.cells #[.int .i64 f.a, .int .i64 f.b, .int .u64 f.seq, .int .i64 f.pages, .int .u8 f.kind, .slice B f.data.length d] TE (0, 0)) := by
    rw [hW]; have := blk_new (w.alloc (.cells #[.int .i64 e.a, .int .i64 e.b, .int .u64 e.seq, .int .i64 e.pages, .int .u8 e.kind, .slice A e.data.length c] TE)) (.cells #[.int .i64 f.a, .int .i64 f.b, .int .u64 f.seq, .int .i64 f.pages, .int .u8 f.kind, .slice B f.data.length d] TE); rwa [World.size_alloc] at this
  have qb : Below w.heap.size w W := by rw [hW]; exact below_alloc (below_alloc (Below.refl _ _) _) _
  have hby := Bytes_any (c := c) (d := d) (Kd.C_below hl qb) (Kd.C_below hm qb) h0 h1
  obtain ⟨a0, a1, a2, a3, a4, ad⟩ := e
  obtain ⟨b0, b1, b2, b3, b4, bd⟩ := f
  simp only at q0 q1 qb hby hW ⊢
  obtain ⟨n, hn⟩ : ∃ n, n = ad.length := ⟨_, rfl⟩
  obtain ⟨m, hmm⟩ : ∃ n, n = bd.length := ⟨_, rfl⟩
  rw [← hn] at q0 hby hW ⊢
  rw [← hmm] at q1 hby hW ⊢
  obtain ⟨x0, x1, x2, x3, x4, x5, -⟩ := ent_cells q0
  obtain ⟨y0, y1, y2, y3, y4, y5, -⟩ := ent_cells q1
  have HW := Lib.hid hW
  have QB := Aside0.mk qb
  have HBY := Lib.hid hby
  clear hW qb q0 q1 hby hl hm h0 h1 hn hmm
  by_cases c0 : a0 = b0
  · by_cases c1 : a1 = b1
    · by_cases c2 : a2 = b2
      · by_cases c3 : a3 = b3
        · by_cases c4 : a4 = b4
          · subst c0 c1 c2 c3 c4
            have hr : sameB ⟨a0, a1, a2, a3, a4, ad⟩ ⟨a0, a1, a2, a3, a4, bd⟩ = decide (ad = bd) := by unfold sameB; simp
            rw [hr]
            generalize decide (ad = bd) = r at HBY ⊢
            clear hr
            go_enter Try.func44, Try.ntmps44
            go_wp2_with fail
            rw [← HW.out]
            go_wp2_with (go_at_call 77; (with_reducible refine HBY.out.mono ?_); rintro e w1 ⟨rfl, hb⟩; have HB := Aside0.mk hb; clear hb)
            go_ret
            exact ⟨rfl, QB.out.trans (HB.out.mono QB.out.size)⟩
          · have e4 : (a4 == b4) = false := by simpa using c4
            have hr : sameB ⟨a0, a1, a2, a3, a4, ad⟩ ⟨b0, b1, b2, b3, b4, bd⟩ = false := decide_eq_false (fun h => c4 h.2.2.2.2.1)
            rw [hr]
            subst c0 c1 c2 c3
            clear hr c4
            go_enter Try.func44, Try.ntmps44
            go_wp2_with fail
            rw [← HW.out]
            go_wp2
            go_ret
            exact ⟨rfl, QB.out⟩
        · have e4 : (a3 == b3) = false := by simpa using c3
          have hr : sameB ⟨a0, a1, a2, a3, a4, ad⟩ ⟨b0, b1, b2, b3, b4, bd⟩ = false := decide_eq_false (fun h => c3 h.2.2.2.1)
          rw [hr]
          subst c0 c1 c2
          clear hr c3
          go_enter Try.func44, Try.ntmps44
          go_wp2_with fail
          rw [← HW.out]
          go_wp2
          go_ret
          exact ⟨rfl, QB.out⟩
      · have e4 : (a2 == b2) = false := by simpa using c2
        have hr : sameB ⟨a0, a1, a2, a3, a4, ad⟩ ⟨b0, b1, b2, b3, b4, bd⟩ = false := decide_eq_false (fun h => c2 h.2.2.1)
        rw [hr]
        subst c0 c1
        clear hr c2
        go_enter Try.func44, Try.ntmps44
        go_wp2_with fail
        rw [← HW.out]
        go_wp2
        go_ret
        exact ⟨rfl, QB.out⟩
    · have e4 : (a1 == b1) = false := by simpa using c1
      have hr : sameB ⟨a0, a1, a2, a3, a4, ad⟩ ⟨b0, b1, b2, b3, b4, bd⟩ = false := decide_eq_false (fun h => c1 h.2.1)
      rw [hr]
      subst c0
      clear hr c1
      go_enter Try.func44, Try.ntmps44
      go_wp2_with fail
      rw [← HW.out]
      go_wp2
      go_ret
      exact ⟨rfl, QB.out⟩
  · have e4 : (a0 == b0) = false := by simpa using c0
    have hr : sameB ⟨a0, a1, a2, a3, a4, ad⟩ ⟨b0, b1, b2, b3, b4, bd⟩ = false := decide_eq_false (fun h => c0 h.1)
    rw [hr]
    clear hr c0
    go_enter Try.func44, Try.ntmps44
    go_wp2_with fail
    rw [← HW.out]
    go_wp2
    go_ret
    exact ⟨rfl, QB.out⟩
end Go.Proofs.Ytmbiebdcnadhkaa.Fl
namespace Go.Proofs.Ytmbiebdcnadhkaa.Fl
open Go.RowKit Go.Proofs.YtmbiebdcnadhkaaW.PrintWords Go.Proofs.YtmbiebdcnadhkaaW.PrintMore Go.Maps
set_option linter.unusedSimpArgs false
set_option linter.unusedVariables false
structure ECell (w : World) (g i : Nat) (e : En) (A : Option Addr) (c : Nat) : Prop where
  c0 : w.cell? ⟨g, i * 6, none⟩ = some (.int .i64 e.a)
  c1 : w.cell? ⟨g, i * 6 + 1, none⟩ = some (.int .i64 e.b)
  c2 : w.cell? ⟨g, i * 6 + 2, none⟩ = some (.int .u64 e.seq)
  c3 : w.cell? ⟨g, i * 6 + 3, none⟩ = some (.int .i64 e.pages)
  c4 : w.cell? ⟨g, i * 6 + 4, none⟩ = some (.int .u8 e.kind)
  c5 : w.cell? ⟨g, i * 6 + 5, none⟩ = some (.slice A e.data.length c)
  row : kB.C w A e.data.length e.data
  cap : e.data.length ≤ c
def ERow (w : World) (A : Option Addr) (l : List En) : Prop := ∀ (i : Nat) (e : En), l[i]? = some e → ∃ g A1 c1, A = some ⟨g, 0, none⟩ ∧ ECell w g i e A1 c1
theorem ECell.below {w w' : World} {g i : Nat} {e : En} {A : Option Addr} {c : Nat} (h : ECell w g i e A c) (hb : Below w.heap.size w w') : ECell w' g i e A c :=
  have f : ∀ {a : Addr} {v : Value}, w.cell? a = some v → w'.cell? a = some v := fun h => (hb.cell (blt_of_cell h)).trans h
  ⟨f h.c0, f h.c1, f h.c2, f h.c3, f h.c4, f h.c5, Kd.C_below h.row hb, h.cap⟩
theorem ERow.below {w w' : World} {A : Option Addr} {l : List En} (h : ERow w A l) (hb : Below w.heap.size w w') : ERow w' A l := fun i e hi => by
  obtain ⟨g, A1, c1, h1, h2⟩ := h i e hi
  exact ⟨g, A1, c1, h1, h2.below hb⟩
theorem ERow.ofR {w : World} {base : Nat} {ok : Nat → Prop} {v : Value} {l : List En} (h : kEnt.R TE w base ok v l) : ∃ A c, v = .slice A l.length c ∧ l.length ≤ c ∧ ERow w A l := by
  have hR := h
  obtain ⟨A, c, rfl, hc, hC⟩ := Kd.R_reads hR
  refine ⟨A, c, rfl, hc, fun i e hi => ?_⟩
  have hpos : 0 < l.length := Nat.lt_of_le_of_lt (Nat.zero_le i) (List.getElem?_eq_some_iff.1 hi).1
  obtain ⟨ad, rfl, hcc⟩ := hC.2.2 hpos
  obtain ⟨g, rfl⟩ : ∃ g, ad = ⟨g, 0, none⟩ := by
    obtain ⟨_, inner, ho, _⟩ := h
    rcases ho.2 with ⟨hv, _⟩ | ⟨g, cap', cur, hv, _⟩
    · cases hv
    · injection hv with ha _ _
      injection ha with ha
      exact ⟨g, ha⟩
  obtain ⟨cs, _, ⟨A1, c1, rfl, hc1, hr1⟩, hcell⟩ := hcc i e hi
  have f : ∀ j u, (enC e (.slice A1 e.data.length c1))[j]? = some u → w.cell? ⟨g, i * 6 + j, none⟩ = some u := fun j u hj => by
    have := hcell j u hj
    rw [add_plain] at this
    exact this
  exact ⟨g, A1, c1, rfl, f 0 _ rfl, f 1 _ rfl, f 2 _ rfl, f 3 _ rfl, f 4 _ rfl, f 5 _ rfl, hr1, hc1⟩
set_option maxHeartbeats 2000000 in
set_option maxRecDepth 100000 in
theorem SameEntries_ok {w : World} {A B : Option Addr} {c d : Nat} {l : List En} (hA : ERow w A l) (hB : ERow w B l) (hl : l.length ≤ 1000000) (hd : ∀ e ∈ l, e.data.length < 1000000) :
    Calls Try.prog 21 #[.slice A l.length c, .slice B l.length d] w fun r w' => r = .returned (.bool true) ∧ Below w.heap.size w w' := by
  obtain ⟨n, hn⟩ : ∃ n, n = l.length := ⟨_, rfl⟩
  have HA := Lib.hid hA
  have HB := Lib.hid hB
  have HD := Lib.hid hd
  have HN := Lib.hid hn
  rw [← hn] at hl
  rw [← hn]
  clear hA hB hd hn
  go_enter Try.func21, Try.ntmps21
  go_wp2
  go_loopw [5, 13] (fun v5 v13 wr => ∃ k : Nat, k ≤ n ∧ v13 = .int .i64 (k : Int) ∧ Below w.heap.size w wr) (fun _ v13 _ => n - (intOf v13).toNat)
  case atStart => exact ⟨0, Nat.zero_le _, rfl, Below.refl _ _⟩
  case round =>
    obtain ⟨k, hk, rfl, hb⟩ := hrel
    have HBW := Aside0.mk hb
    clear hb
    by_cases hlt : k < n
    · obtain ⟨e, he⟩ : ∃ e, l[k]? = some e := ⟨_, List.getElem?_eq_getElem (by have := HN.out; omega)⟩
      obtain ⟨g, A1, c1, hA, hc⟩ := HA.out k e he
      obtain ⟨g2, A2, c2, hB, hc2⟩ := HB.out k e he
      have hde := HD.out e (List.mem_of_getElem? he)
      subst hA hB
      have hall := fun (X : World) (hX : Below w.heap.size w X) => show X.cell? ⟨g, k * 6, none⟩ = some (.int .i64 e.a) ∧ X.cell? ⟨g, k * 6 + 1, none⟩ = some (.int .i64 e.b) ∧ X.cell? ⟨g, k * 6 + 2, none⟩ = some (.int .u64 e.seq) ∧ X.cell? ⟨g, k * 6 + 3, none⟩ = some (.int .i64 e.pages) ∧ X.cell? ⟨g, k * 6 + 4, none⟩ = some (.int .u8 e.kind) ∧ X.cell? ⟨g, k * 6 + 5, none⟩ = some (.slice A1 e.data.length c1) ∧ X.cell? ⟨g2, k * 6, none⟩ = some (.int .i64 e.a) ∧ X.cell? ⟨g2, k * 6 + 1, none⟩ = some (.int .i64 e.b) ∧ X.cell? ⟨g2, k * 6 + 2, none⟩ = some (.int .u64 e.seq) ∧ X.cell? ⟨g2, k * 6 + 3, none⟩ = some (.int .i64 e.pages) ∧ X.cell? ⟨g2, k * 6 + 4, none⟩ = some (.int .u8 e.kind) ∧ X.cell? ⟨g2, k * 6 + 5, none⟩ = some (.slice A2 e.data.length c2) from
        ⟨(hc.below hX).c0, (hc.below hX).c1, (hc.below hX).c2, (hc.below hX).c3, (hc.below hX).c4, (hc.below hX).c5, (hc2.below hX).c0, (hc2.below hX).c1, (hc2.below hX).c2, (hc2.below hX).c3, (hc2.below hX).c4, (hc2.below hX).c5⟩
      have hsame := fun (X : World) (hX : Below w.heap.size w X) => SameEntry_ok (e := e) (f := e) (c := c1) (d := c2) (hc.below hX).row (hc2.below hX).row hde hde
      rw [sameB_self] at hsame
      obtain ⟨j0, j1, j2, j3, j4, j5, i0, i1, i2, i3, i4, i5⟩ := hall wr HBW.out
      have HALL := Lib.hid hall
      have HS := Lib.hid hsame
      have k0 : (0 : Int) ≤ (k : Int) := by omega
      have k2 : (k : Int) < (n : Int) := by omega
      clear hall hsame hc hc2 he hde
      go_wp2_with fail
      go_region_held3 (fun w' => w'.cell? ⟨g, k * 6, none⟩ = some (.int .i64 e.a) ∧ w'.cell? ⟨g, k * 6 + 1, none⟩ = some (.int .i64 e.b) ∧ w'.cell? ⟨g, k * 6 + 2, none⟩ = some (.int .u64 e.seq) ∧ w'.cell? ⟨g, k * 6 + 3, none⟩ = some (.int .i64 e.pages) ∧ w'.cell? ⟨g, k * 6 + 4, none⟩ = some (.int .u8 e.kind) ∧ w'.cell? ⟨g, k * 6 + 5, none⟩ = some (.slice A1 e.data.length c1) ∧ w'.cell? ⟨g2, k * 6, none⟩ = some (.int .i64 e.a) ∧ w'.cell? ⟨g2, k * 6 + 1, none⟩ = some (.int .i64 e.b) ∧ w'.cell? ⟨g2, k * 6 + 2, none⟩ = some (.int .u64 e.seq) ∧ w'.cell? ⟨g2, k * 6 + 3, none⟩ = some (.int .i64 e.pages) ∧ w'.cell? ⟨g2, k * 6 + 4, none⟩ = some (.int .u8 e.kind) ∧ w'.cell? ⟨g2, k * 6 + 5, none⟩ = some (.slice A2 e.data.length c2)) (first | go_keep | exact HALL.out _ HB1.out)
        (first | (go_at_call 44; (with_reducible refine (HS.out _ (below_drew HBW.out)).mono ?_); rintro r w1 ⟨rfl, hb⟩; have HB1 := Aside0.mk (HBW.out.trans ((undrew hb).mono HBW.out.size)); clear hb))
      go_wp2
      exact ⟨⟨k + 1, by omega, by go_num, HB1.out⟩, by simp [intOf]; omega⟩
    · obtain rfl : k = n := by omega
      go_wp2
      go_ret
      exact ⟨rfl, HBW.out⟩
def cleanD (D : PD) (a : Int) : Bool := hasB D.s a 0 && (List.range D.s.2.1.toNat).all fun i => !usedB D a (i : Int)
section
variable {N0 p : Nat} {D : PD} {w : World} {ok : Nat → Prop}
set_option maxHeartbeats 2000000 in
set_option maxRecDepth 100000 in
theorem Clean_any (hD : DevIs N0 p D ok w) (a : Int) : Calls Try.prog 45 #[.pointer (some ⟨p, 0, none⟩), .int .i64 a] w fun e w' => e = .returned (.bool (cleanD D a)) ∧ Below w.heap.size w w' := by
  have hs : ShapeOk D.s := by
    obtain ⟨m, v, es, ck, hD⟩ := hD
    exact hD.shape
  have hth := there_any hD a 0
  have hshape := fun (X : World) (hX : Below w.heap.size w X) => Shape_any (hD.below hX)
  have hus := fun (X : World) (hX : Below w.heap.size w X) (y : Int) => Used_any (hD.below hX) a y
  obtain ⟨n, hn⟩ := Int.eq_ofNat_of_zero_le (show 0 ≤ D.s.2.1 by have := hs.b0; omega)
  have hn1 : n ≤ 64 := by have := hs.b1; omega
  have hcl : cleanD D a = (hasB D.s a 0 && (List.range n).all fun i => !usedB D a (i : Int)) := by unfold cleanD; rw [hn]; rfl
  rw [hcl]
  rw [hn] at hshape
  have HTH := Lib.hid hth
  have HSHP := Lib.hid hshape
  have HUS := Lib.hid hus
  clear hth hshape hus hs hD hcl hn
  cases hb : hasB D.s a 0 with
  | false =>
    have HTE := Lib.hid (show hasE D.s a 0 = 6 by unfold hasE; rw [hb]; rfl)
    clear hb
    go_enter Try.func45, Try.ntmps45
    go_wp2_with (go_at_call 54; (with_reducible refine HTH.out.mono ?_); rw [HTE.out]; rintro e w1 ⟨rfl, hb⟩; have HB1 := Aside0.mk hb; clear hb)
    go_ret
    exact ⟨rfl, HB1.out⟩
  | true =>
    have HTE := Lib.hid (show hasE D.s a 0 = 0 by unfold hasE; rw [hb]; rfl)
    clear hb
    go_enter Try.func45, Try.ntmps45
    have rs := fun (X : World) => run_shape2 X D.s.1 (n : Int) D.s.2.2
    go_wp2_with (first
      | (go_at_call 54; (with_reducible refine HTH.out.mono ?_); rw [HTE.out]; rintro e w1 ⟨rfl, hb⟩; have HB1 := Aside0.mk hb; clear hb)
      | (go_at_call 56; (with_reducible refine (HSHP.out _ HB1.out).mono ?_); rintro e w2 ⟨rfl, hb2⟩; have HB2 := Aside0.mk (HB1.out.trans (hb2.mono HB1.out.size)); clear hb2))
    go_loopw [5, 13] (fun v5 v13 wr => ∃ k : Nat, k ≤ n ∧ v13 = .int .i64 (k : Int) ∧ ((List.range k).all fun i => !usedB D a (i : Int)) = true ∧ Below w.heap.size w wr) (fun _ v13 _ => n - (intOf v13).toNat)
    case atStart => exact ⟨0, Nat.zero_le _, rfl, rfl, HB2.out⟩
    case round =>
      obtain ⟨k, hk, rfl, hal, hb⟩ := hrel
      have HBW := Aside0.mk hb
      have HAL := Lib.hid hal
      clear hb hal
      by_cases hlt : k < n
      · have k0 : (0 : Int) ≤ (k : Int) := by omega
        have k2 : (k : Int) < (n : Int) := by omega
        cases hu : usedB D a (k : Int) with
        | true =>
          have HU := Lib.hid hu
          have HF := Lib.hid (show ((List.range n).all fun i => !usedB D a (i : Int)) = false by
            rw [List.all_eq_false]
            exact ⟨k, List.mem_range.2 hlt, by rw [hu]; decide⟩)
          clear hu
          go_wp2_with (go_at_call 58; (with_reducible refine (HUS.out _ HBW.out _).mono ?_); rw [HU.out]; rintro e w3 ⟨rfl, rfl⟩)
          go_ret
          rw [HF.out]
          exact ⟨rfl, HBW.out⟩
        | false =>
          have HU := Lib.hid hu
          clear hu
          go_wp2_with (go_at_call 58; (with_reducible refine (HUS.out _ HBW.out _).mono ?_); rw [HU.out]; rintro e w3 ⟨rfl, rfl⟩)
          exact ⟨⟨k + 1, by omega, by go_num, by rw [List.range_succ, List.all_append, HAL.out]; simp [HU.out], HBW.out⟩, by simp [intOf]; omega⟩
      · obtain rfl : k = n := by omega
        go_wp2
        go_ret
        rw [HAL.out]
        exact ⟨rfl, HBW.out⟩
end
end Go.Proofs.Ytmbiebdcnadhkaa.Fl
namespace Go.Proofs.Ytmbiebdcnadhkaa.Fl
open Go.RowKit Go.Proofs.YtmbiebdcnadhkaaW.PrintWords Go.Proofs.YtmbiebdcnadhkaaW.PrintMore Go.Maps
set_option linter.unusedSimpArgs false
set_option linter.unusedVariables false
section
variable {D : PD} {s : Int × Int × Int} {ps : List Pg}
theorem Sim.raw (h : Sim D s ps) (a b : Int) : rawD D a b = rawP s ps a b := by
  unfold rawD rawP
  rw [h.sh]
  have hk : ∀ k, k ≤ nRaw s a b → rawK D a b k = rawPK s.2.2.toNat ps a b k := fun k => by
    induction k with
    | zero => intro _; rfl
    | succ k ih =>
      intro hle
      rw [rawK_succ, rawPK_succ, ih (by omega)]
      have hh := (nRaw_lt (s := s) (a := a) (b := b) (i := k) (by omega)).1
      unfold gotD
      rw [h.sh, if_pos hh, h.read]
  exact hk _ (Nat.le_refl _)
theorem Sim.ent (h : Sim D s ps) (a b : Int) : entD D a b = entP s ps a b := by
  unfold entD entP
  rw [h.raw, h.sh]
theorem Sim.scan (h : Sim D s ps) (a : Int) : scanD D a = scanP s ps a := by
  unfold scanD scanP
  rw [h.sh, funext (h.ent a)]
theorem Sim.byt (h : Sim D s ps) (hb : BytP ps) : BytD D := fun a b => by
  unfold gotD
  split
  · rw [h.read]
    unfold readP
    split
    · rename_i p hp
      exact hb p (List.mem_of_find?_eq_some hp)
    · exact Byt.fullT Byt.nil
  · exact Byt.nil
def cleanP (s : Int × Int × Int) (ps : List Pg) (a : Int) : Bool := hasB s a 0 && (List.range s.2.1.toNat).all fun i => decide (findI a (i : Int) ps < 0)
theorem Sim.clean (h : Sim D s ps) (a : Int) : cleanD D a = cleanP s ps a := by
  unfold cleanD cleanP
  rw [h.sh]
  congr 2
  funext i
  rw [h.used]
  by_cases hf : 0 ≤ findI a (i : Int) ps
  · rw [decide_eq_true hf, decide_eq_false (by omega)]; rfl
  · rw [decide_eq_false hf, decide_eq_true (by omega)]; rfl
end
theorem entL_data (s : Int × Int × Int) (a b : Int) (raw : List Int) : (entL s a b raw).1.data.length ≤ 4096 := by
  unfold entL
  split
  · simp [zEn]
  · split
    · rename_i h
      obtain ⟨m, h1, h2, h3, h4⟩ := parsed_n h
      simp only
      omega
    · simp [zEn]
theorem scanF_mem {E : Int → En × Int} {n sq : Int} : ∀ {f : Nat} {page : Int} {e : En}, e ∈ scanF E n sq f page → ∃ p, e = (E p).1
  | 0, _, _, h => by cases h
  | f + 1, page, e, h => by
    unfold scanF at h
    split at h
    · split at h
      · cases h
      · rcases List.mem_cons.1 h with h | h
        · exact ⟨page, h⟩
        · exact scanF_mem h
    · cases h
theorem scanF_len {E : Int → En × Int} {n sq : Int} : ∀ {f : Nat} {page : Int}, (scanF E n sq f page).length ≤ f
  | 0, _ => Nat.le_refl _
  | f + 1, page => by
    unfold scanF
    split
    · split
      · simp
      · have := scanF_len (E := E) (n := n) (sq := sq) (f := f) (page := page + (E page).1.pages)
        simp only [List.length_cons]
        omega
    · simp
theorem scanP_bd (s : Int × Int × Int) (ps : List Pg) (a : Int) : (scanP s ps a).2.1.length ≤ 64 ∧ ∀ e ∈ (scanP s ps a).2.1, e.data.length < 1000000 := by
  unfold scanP scanL
  split
  · exact ⟨by simp, fun e h => by cases h⟩
  · refine ⟨scanF_len, fun e h => ?_⟩
    obtain ⟨p, rfl⟩ := scanF_mem h
    have := entL_data s a p (rawP s ps a p)
    unfold entP
    omega
end Go.Proofs.Ytmbiebdcnadhkaa.Fl
namespace Go.Proofs.Ytmbiebdcnadhkaa.Fl
open Go.RowKit Go.Proofs.YtmbiebdcnadhkaaW.PrintWords Go.Proofs.YtmbiebdcnadhkaaW.PrintMore Go.Maps
set_option linter.unusedSimpArgs false
set_option linter.unusedVariables false
set_option maxHeartbeats 8000000 in
set_option maxRecDepth 100000 in
theorem SegmentScans_any {w : World} {A B : Option Addr} {c e : Nat} (s : Int × Int × Int) {ds : List DeedT} {rs : List RecT} (aa ab nn : Int) (hr : DRow w A ds) (h0 : ds.length ≤ 9223372036854775807) (hp : ∀ d ∈ ds, PlanOk d.P ∧ Byt d.l) (hq : RRow w B rs) (h1 : rs.length ≤ 9223372036854775807) (hk : ∀ r ∈ rs, RecTOk r) (hnn : -9223372036854775808 ≤ nn ∧ nn ≤ 9223372036854775807) :
    Calls Try.prog 6 #[.agg #[.int .i64 s.1, .int .i64 s.2.1, .int .i64 s.2.2], .slice A ds.length c, .slice B rs.length e, .agg #[.int .i64 aa, .int .i64 ab], .int .i64 nn] w fun e w' => e = .returned (.bool true) ∧ Below w.heap.size w w' := by
  obtain ⟨n, hn⟩ : ∃ n, n = ds.length := ⟨_, rfl⟩
  obtain ⟨m, hm⟩ : ∃ m, m = rs.length := ⟨_, rfl⟩
  obtain ⟨W, hW⟩ : ∃ W, W = (w.alloc (.cells #[.int .i64 s.1, .int .i64 s.2.1, .int .i64 s.2.2] 23)).alloc (.cells #[.int .i64 aa, .int .i64 ab] TA) := ⟨_, rfl⟩
  have q0 : W.heap[w.heap.size]? = some (.cells #[.int .i64 s.1, .int .i64 s.2.1, .int .i64 s.2.2] 23 (0, 0)) := by
    rw [hW]; exact (Below.heap_alloc _ _ _ (by simp)).trans (blk_new w _)
  have q1 : W.heap[w.heap.size + 1]? = some (.cells #[.int .i64 aa, .int .i64 ab] TA (0, 0)) := by
    rw [hW]; have := blk_new (w.alloc (.cells #[.int .i64 s.1, .int .i64 s.2.1, .int .i64 s.2.2] 23)) (.cells #[.int .i64 aa, .int .i64 ab] TA); rwa [World.size_alloc] at this
  have qb : Below w.heap.size w W := by rw [hW]; exact below_alloc (below_alloc (Below.refl _ _) _) _
  have hbox : ∀ V : World, Below W.heap.size W V → V.cell? ⟨w.heap.size, 0, none⟩ = some (.int .i64 s.1) ∧ V.cell? ⟨w.heap.size, 1, none⟩ = some (.int .i64 s.2.1) ∧ V.cell? ⟨w.heap.size, 2, none⟩ = some (.int .i64 s.2.2) ∧ V.cell? ⟨w.heap.size + 1, 0, none⟩ = some (.int .i64 aa) ∧ V.cell? ⟨w.heap.size + 1, 1, none⟩ = some (.int .i64 ab) := fun V hV => by
    have h0 := (hV.block w.heap.size (blt q0)).trans q0
    have h1 := (hV.block (w.heap.size + 1) (blt q1)).trans q1
    exact ⟨bcell h0 0, bcell h0 1, bcell h0 2, bcell h1 0, bcell h1 1⟩
  have hfew : ∀ V : World, Below W.heap.size W V → Calls Try.prog 34 #[.slice A n c] V fun e w' => e = .returned (.bool (fewB ds)) ∧ Below W.heap.size W w' := fun V hV => by
    rw [hn]
    exact (Few_any ((hr.below qb).below hV) h0).mono fun e w' ⟨h1, h2⟩ => ⟨h1, hV.trans (h2.mono hV.size)⟩
  have hfew2 : ∀ V : World, Below W.heap.size W V → Calls Try.prog 9 #[.slice B m e] V fun e w' => e = .returned (.bool (fewR rs)) ∧ Below W.heap.size W w' := fun V hV => by
    rw [hm]
    exact (Few14_any ((hq.below qb).below hV) h1).mono fun e w' ⟨h1, h2⟩ => ⟨h1, hV.trans (h2.mono hV.size)⟩
  have hmade : shapeB s = true → fewB ds = true → ∀ V : World, Below W.heap.size W V → Calls Try.prog 35 #[.agg #[.int .i64 s.1, .int .i64 s.2.1, .int .i64 s.2.2], .slice A n c] V fun e w' => ∃ p x, e = .returned (.tuple #[.pointer (some ⟨p, 0, none⟩), .pointer (some ⟨x, 0, none⟩), .bool true]) ∧ (∃ D ps, Two (fun _ => False) V.heap.size p x D s ps w' ∧ Sim D s ps ∧ ps.length ≤ 60 ∧ BytP ps) ∧ Below V.heap.size V w' := fun hs hf V hV => by
    rw [hn]
    exact (Made_byt hs ((hr.below qb).below hV) (fewB_len hf) (fun d h => (hp d h).1)).mono fun e w' ⟨p, x, D, ps, h1, h2, h3, h4, h5, h6⟩ => ⟨p, x, h1, ⟨D, ps, h2, h3, h4, h6 (fun d h => (hp d h).2)⟩, h5⟩
  have HR := Lib.hid (hq.below qb)
  have HK := Lib.hid hk
  have HBOX := Lib.hid hbox
  have HFEW := Lib.hid hfew
  have HFEW2 := Lib.hid hfew2
  have HMADE := Lib.hid hmade
  have HW := Lib.hid hW
  have QB := Aside0.mk qb
  have HN := Lib.hid hn
  have HM := Lib.hid hm
  have HNN := Lib.hid hnn
  rw [← hn] at h0
  rw [← hm] at h1
  rw [← hn, ← hm]
  clear hr hn hp hq hk hm hbox hfew hfew2 hmade hW q0 q1 qb hnn
  cases hf : fewB ds with
  | false =>
    have HF := Lib.hid hf
    clear hf
    go_enter Try.func6, Try.ntmps6
    go_wp2_with fail
    rw [← HW.out]
    go_wp2_with (first
      | (go_at_call 8; (with_reducible refine (Awake14_any _).mono ?_); rintro e w1 ⟨rfl, hb⟩; have HB1 := Aside0.mk hb; clear hb)
      | (go_at_call 34; (with_reducible refine (HFEW.out _ HB1.out).mono ?_); rw [HF.out]; rintro e w2 ⟨rfl, hb⟩; have HB2 := Aside0.mk hb; clear hb))
    go_ret
    exact ⟨rfl, QB.out.trans (HB2.out.mono QB.out.size)⟩
  | true =>
    have HF := Lib.hid hf
    clear hf
    cases hf2 : fewR rs with
    | false =>
      have HF2 := Lib.hid hf2
      clear hf2
      go_enter Try.func6, Try.ntmps6
      go_wp2_with fail
      rw [← HW.out]
      go_wp2_with (first
        | (go_at_call 8; (with_reducible refine (Awake14_any _).mono ?_); rintro e w1 ⟨rfl, hb⟩; have HB1 := Aside0.mk hb; clear hb)
        | (go_at_call 34; (with_reducible refine (HFEW.out _ HB1.out).mono ?_); rw [HF.out]; rintro e w2 ⟨rfl, hb⟩; have HB2 := Aside0.mk hb; clear hb)
        | (go_at_call 9; (with_reducible refine (HFEW2.out _ HB2.out).mono ?_); rw [HF2.out]; rintro e w3 ⟨rfl, hb⟩; have HB3 := Aside0.mk hb; clear hb))
      go_ret
      exact ⟨rfl, QB.out.trans (HB3.out.mono QB.out.size)⟩
    | true =>
      have HF2 := Lib.hid hf2
      clear hf2
      cases hs : shapeB s with
      | false =>
        have HS := Lib.hid hs
        clear hs
        go_enter Try.func6, Try.ntmps6
        go_wp2_with fail
        rw [← HW.out]
        go_wp2_with (first
          | (go_at_call 8; (with_reducible refine (Awake14_any _).mono ?_); rintro e w1 ⟨rfl, hb⟩; have HB1 := Aside0.mk hb; clear hb)
          | (go_at_call 34; (with_reducible refine (HFEW.out _ HB1.out).mono ?_); rw [HF.out]; rintro e w2 ⟨rfl, hb⟩; have HB2 := Aside0.mk hb; clear hb)
          | (go_at_call 9; (with_reducible refine (HFEW2.out _ HB2.out).mono ?_); rw [HF2.out]; rintro e w3 ⟨rfl, hb⟩; obtain ⟨k1, k2, k3, k4, k5⟩ := HBOX.out _ hb; have HB3 := Aside0.mk hb; clear hb)
          | (go_at_call 10; (with_reducible refine (RShape_any _ _).mono ?_); rw [HS.out]; rintro e w4 ⟨rfl, hb⟩; have HB4 := Aside0.mk (HB3.out.trans (hb.mono HB3.out.size)); clear hb))
        go_ret
        exact ⟨rfl, QB.out.trans (HB4.out.mono QB.out.size)⟩
      | true =>
        have HMD := Lib.hid (HMADE.out hs HF.out)
        have HSO := Lib.hid (shapeB_ok hs)
        have HS := Lib.hid hs
        obtain ⟨hm40, hm600⟩ := fewR_ok HF2.out
        rw [← HM.out] at hm40
        have H600 := Lib.hid hm600
        clear hs HMADE hm600
        go_enter Try.func6, Try.ntmps6
        go_wp2_with fail
        rw [← HW.out]
        go_wp2_with (first
          | (go_at_call 8; (with_reducible refine (Awake14_any _).mono ?_); rintro e w1 ⟨rfl, hb⟩; have HB1 := Aside0.mk hb; clear hb)
          | (go_at_call 34; (with_reducible refine (HFEW.out _ HB1.out).mono ?_); rw [HF.out]; rintro e w2 ⟨rfl, hb⟩; have HB2 := Aside0.mk hb; clear hb)
          | (go_at_call 9; (with_reducible refine (HFEW2.out _ HB2.out).mono ?_); rw [HF2.out]; rintro e w3 ⟨rfl, hb⟩; obtain ⟨k1, k2, k3, k4, k5⟩ := HBOX.out _ hb; have HB3 := Aside0.mk hb; clear hb)
          | (go_at_call 10; (with_reducible refine (RShape_any _ _).mono ?_); rw [HS.out]; rintro e w4 ⟨rfl, hb⟩; have HB4 := Aside0.mk (HB3.out.trans (hb.mono HB3.out.size)); clear hb; obtain ⟨j1, j2, j3, j4, j5⟩ := HBOX.out _ HB4.out)
          | (go_at_call 35; (with_reducible refine (HMD.out _ HB4.out).mono ?_); rintro e w5 ⟨p, x, rfl, ht, hb⟩; have HT5 := Lib.hid ht; have HB5 := Aside0.mk hb; clear ht hb k1 k2 k3 k4 k5 j1 j2 j3 j4 j5))
        go_loopw [56] (fun v56 wr => ∃ (k : Nat) (D : PD) (ps : List Pg), k ≤ m ∧ v56 = .int .i64 (k : Int) ∧ Two (fun _ => False) w4.heap.size p x D s ps wr ∧ Sim D s ps ∧ ps.length ≤ 60 + 514 * k ∧ BytP ps ∧ Below w4.heap.size w4 wr) (fun v56 _ => m - (intOf v56).toNat)
        case atStart =>
          obtain ⟨D, ps, h1, h2, h3, h4⟩ := HT5.out
          exact ⟨0, D, ps, Nat.zero_le _, rfl, h1, h2, by omega, h4, HB5.out⟩
        case round =>
          obtain ⟨k, D, ps, hk, rfl, ht, hsim, hl, hbp, hb⟩ := hrel
          have HT := Aside0.mk ht
          have HSIM := Aside0.mk hsim
          have HB := Aside0.mk (HB4.out.trans (hb.mono HB4.out.size))
          have HBW := Aside0.mk hb
          have HL := Lib.hid hl
          have HBP := Lib.hid hbp
          clear ht hsim hb hl hbp
          by_cases hlt : k < m
          · obtain ⟨r, hd⟩ : ∃ r, rs[k]? = some r := ⟨_, List.getElem?_eq_getElem (by have := HM.out; omega)⟩
            obtain ⟨ad, A1, c1, hA, hc⟩ := HR.out k r hd
            have ROW0 := Aside0.mk hc.row
            have hc := hc.below HB.out
            subst hA
            have d0 := hc.c0; have d1 := hc.c1; have d2 := hc.c2; have d3 := hc.c3; have d4 := hc.c4
            have ROW := Aside0.mk hc.row
            have CAP := Lib.hid hc.cap
            have ROK := Lib.hid (HK.out r (List.mem_of_getElem? hd))
            have R600 := Lib.hid (H600.out r (List.mem_of_getElem? hd))
            have k0 : (0 : Int) ≤ (k : Int) := by omega
            have k2 : (k : Int) < (m : Int) := by omega
            clear hd hc
            obtain ⟨ra, rb, rq, rk, dl⟩ := r
            simp only at d0 d1 d2 d3 d4 ROW ROW0 R600 CAP
            have rkd : KindOk rk := ROK.out.kd
            have rsq : SeqOk rq := ROK.out.sq
            have rby : Byt dl := ROK.out.byt
            have RKD := Lib.hid rkd
            have RSQ := Lib.hid rsq
            have RBY := Lib.hid rby
            clear rkd rsq rby ROK
            obtain ⟨Y, hY⟩ : ∃ Y, Y = wr.alloc (.cells #[.int .i64 ra, .int .i64 rb, .int .u64 rq, .int .u8 rk, .slice A1 dl.length c1] 38) := ⟨_, rfl⟩
            have y0 : Y.heap[wr.heap.size]? = some (.cells #[.int .i64 ra, .int .i64 rb, .int .u64 rq, .int .u8 rk, .slice A1 dl.length c1] 38 (0, 0)) := by rw [hY]; exact blk_new wr _
            have yb : Below wr.heap.size wr Y := by rw [hY]; exact below_alloc (Below.refl _ _) _
            have hT2 := HT.out.keep yb
            have HY := Lib.hid hY
            have Y0 := Lib.hid y0
            have YB := Aside0.mk (HBW.out.trans (yb.mono HBW.out.size))
            have ROWY := Aside0.mk (Kd.C_below ROW.out yb)
            have HKB := Lib.hid (show False ∨ (wr.heap.size ≤ wr.heap.size ∧ wr.heap.size < Y.heap.size) from .inr ⟨Nat.le_refl _, blt y0⟩)
            have HMP := Lib.hid (show ps.length < 800000 by have := HL.out; omega)
            have HMD2 := Lib.hid (show D.dirty.length < 800000 from Nat.lt_of_le_of_lt HSIM.out.dirtyLe HMP.out)
            have HT2 := Aside0.mk hT2
            -- the four calls: Start, its like, Append, its like
            have hA1 := Start_F (two_frame w4.heap.size p x s ps) HT2.out ra RSQ.out (by have := HMD2.out; omega)
            have hs2 := HSIM.out.app ra 0 0 (rec 1 rq [])
            have hE1 := HSIM.out.appE ra 0 0
            have hP1 := appP_len HSO.out ps ra 0 0 (rec_len 1 rq [])
            have hB1 := BytP.app HSO.out HBP.out ra 0 0 (rec_byt (seq := rq) one_kind Byt.nil)
            rw [hE1] at hA1
            have HSIM2 := Aside0.mk hs2
            have HP1 := Lib.hid hP1
            clear hs2 hP1 hE1
            obtain ⟨D1, hD1⟩ : ∃ D1, D1 = appD D ra 0 0 (rec 1 rq []) := ⟨_, rfl⟩
            rw [← hD1] at hA1 HSIM2
            have hR1 := fun (V : World) (hV : Two (fun k => False ∨ (wr.heap.size ≤ k ∧ k < Y.heap.size)) w4.heap.size p x D1 s ps V) => RAppend_G (A := none) (c := 0) (l := []) (two_refFrame w4.heap.size p x s D1) hV HSO.out ra 0 one_kind RSQ.out Byt.nil (Kd.C_nil kB V) (Nat.le_refl _) (by simp) (by have := HMP.out; omega)
            simp only [List.length_nil] at hR1
            obtain ⟨⟨r1, r2⟩, hr12⟩ : ∃ q, q = appR s ps ra 0 0 := ⟨_, rfl⟩
            obtain ⟨qs, hqs⟩ : ∃ qs, qs = appP s ps ra 0 0 (rec 1 rq []) := ⟨_, rfl⟩
            rw [← hr12] at hA1 hR1
            rw [← hqs] at hR1 HSIM2 HP1 hB1
            simp only at hA1 hR1
            have hS3 := fun (V : World) (hV : Two (fun k => False ∨ (wr.heap.size ≤ k ∧ k < Y.heap.size)) w4.heap.size p x D1 s qs V) (hC : kB.C V A1 dl.length dl) => Append_F (two_frame w4.heap.size p x s qs) hV ra rb RKD.out RSQ.out RBY.out hC CAP.out (by have := R600.out; omega) (by have := HSIM2.out.dirtyLe; have := HP1.out; have := HMP.out; omega)
            have hs3 := HSIM2.out.app ra rb dl.length (rec rk rq dl)
            have hE3 := HSIM2.out.appE ra rb dl.length
            have hP3 := appP_len HSO.out qs ra rb dl.length (rec_len rk rq dl)
            have hB3 := BytP.app HSO.out hB1 ra rb dl.length (rec_byt (seq := rq) RKD.out RBY.out)
            rw [hE3] at hS3
            have HSIM3 := Aside0.mk hs3
            have HP3 := Lib.hid hP3
            clear hs3 hP3 hE3
            obtain ⟨D3, hD3⟩ : ∃ D3, D3 = appD D1 ra rb dl.length (rec rk rq dl) := ⟨_, rfl⟩
            rw [← hD3] at hS3 HSIM3
            have hR4 := fun (V : World) (hV : Two (fun k => False ∨ (wr.heap.size ≤ k ∧ k < Y.heap.size)) w4.heap.size p x D3 s qs V) (hC : kB.C V A1 dl.length dl) => RAppend_G (two_refFrame w4.heap.size p x s D3) hV HSO.out ra rb RKD.out RSQ.out RBY.out hC CAP.out (by have := R600.out; omega) (by have := HP1.out; have := HMP.out; omega)
            obtain ⟨⟨r3, r4⟩, hr34⟩ : ∃ q, q = appR s qs ra rb dl.length := ⟨_, rfl⟩
            obtain ⟨ts, hts⟩ : ∃ ts, ts = appP s qs ra rb dl.length (rec rk rq dl) := ⟨_, rfl⟩
            rw [← hr34] at hS3 hR4
            rw [← hts] at hR4 HSIM3 HP3 hB3
            simp only at hS3 hR4
            have HA1 := Lib.hid hA1
            have HR1 := Lib.hid hR1
            have HS3 := Lib.hid hS3
            have HR4 := Lib.hid hR4
            have HBP3 := Lib.hid hB3
            clear hA1 hR1 hS3 hR4 hD1 hD3 hr12 hr34 hqs hts hY y0 yb hT2 hB1 hB3
            go_wp2_with fail
            rw [← HY.out]
            have hy0 := Y0.out
            have y0 : Y.cell? ⟨wr.heap.size, 0, none⟩ = some (.int .i64 ra) := bcell hy0 0
            have y1 : Y.cell? ⟨wr.heap.size, 1, none⟩ = some (.int .i64 rb) := bcell hy0 1
            have y2 : Y.cell? ⟨wr.heap.size, 2, none⟩ = some (.int .u64 rq) := bcell hy0 2
            have y3 : Y.cell? ⟨wr.heap.size, 3, none⟩ = some (.int .u8 rk) := bcell hy0 3
            have y4 : Y.cell? ⟨wr.heap.size, 4, none⟩ = some (.slice A1 dl.length c1) := bcell hy0 4
            clear hy0 d0 d1 d2 d3 d4
            have HBY := Aside0.mk (HB4.out.trans (YB.out.mono HB4.out.size))
            go_wp2_with (first
              | (go_at_call 12; (with_reducible refine (HA1.out).mono ?_); rintro e w6 ⟨rfl, ht, hb, hk⟩; have hx := (hk _ HKB.out).trans Y0.out; have HT6 := Aside0.mk ht; have HB6 := Aside0.mk (YB.out.trans hb); have X6 := Lib.hid hx; have ROW6 := Aside0.mk (Kd.C_below ROW0.out (HB4.out.trans (HB6.out.mono HB4.out.size))); clear ht hb hk y0 y1 y2 y3 y4; have y0 : w6.cell? ⟨wr.heap.size, 0, none⟩ = some (.int .i64 ra) := bcell hx 0; have y1 : w6.cell? ⟨wr.heap.size, 1, none⟩ = some (.int .i64 rb) := bcell hx 1; have y2 : w6.cell? ⟨wr.heap.size, 2, none⟩ = some (.int .u64 rq) := bcell hx 2; have y3 : w6.cell? ⟨wr.heap.size, 3, none⟩ = some (.int .u8 rk) := bcell hx 3; have y4 : w6.cell? ⟨wr.heap.size, 4, none⟩ = some (.slice A1 dl.length c1) := bcell hx 4; clear hx)
              | (go_at_call 36; (with_reducible refine (HR1.out _ HT6.out).mono ?_); rintro e w7 ⟨rfl, ht, hb, hk⟩; have hx := (hk _ HKB.out).trans X6.out; have HT7 := Aside0.mk ht; have HB7 := Aside0.mk (HB6.out.trans hb); have X7 := Lib.hid hx; have ROW7 := Aside0.mk (Kd.C_below ROW0.out (HB4.out.trans (HB7.out.mono HB4.out.size))); clear ht hb hk y0 y1 y2 y3 y4; have y0 : w7.cell? ⟨wr.heap.size, 0, none⟩ = some (.int .i64 ra) := bcell hx 0; have y1 : w7.cell? ⟨wr.heap.size, 1, none⟩ = some (.int .i64 rb) := bcell hx 1; have y2 : w7.cell? ⟨wr.heap.size, 2, none⟩ = some (.int .u64 rq) := bcell hx 2; have y3 : w7.cell? ⟨wr.heap.size, 3, none⟩ = some (.int .u8 rk) := bcell hx 3; have y4 : w7.cell? ⟨wr.heap.size, 4, none⟩ = some (.slice A1 dl.length c1) := bcell hx 4; clear hx)
              | (go_at_call 14; (with_reducible refine (HS3.out _ HT7.out ROW7.out).mono ?_); rintro e w8 ⟨rfl, ht, hb, hk⟩; have hx := (hk _ HKB.out).trans X7.out; have HT8 := Aside0.mk ht; have HB8 := Aside0.mk (HB7.out.trans hb); have X8 := Lib.hid hx; have ROW8 := Aside0.mk (Kd.C_below ROW0.out (HB4.out.trans (HB8.out.mono HB4.out.size))); clear ht hb hk y0 y1 y2 y3 y4; have y0 : w8.cell? ⟨wr.heap.size, 0, none⟩ = some (.int .i64 ra) := bcell hx 0; have y1 : w8.cell? ⟨wr.heap.size, 1, none⟩ = some (.int .i64 rb) := bcell hx 1; have y2 : w8.cell? ⟨wr.heap.size, 2, none⟩ = some (.int .u64 rq) := bcell hx 2; have y3 : w8.cell? ⟨wr.heap.size, 3, none⟩ = some (.int .u8 rk) := bcell hx 3; have y4 : w8.cell? ⟨wr.heap.size, 4, none⟩ = some (.slice A1 dl.length c1) := bcell hx 4; clear hx)
              | (go_at_call 36; (with_reducible refine (HR4.out _ HT8.out ROW8.out).mono ?_); rintro e w9 ⟨rfl, ht, hb, hk⟩; have hx := (hk _ HKB.out).trans X8.out; have HT9 := Aside0.mk ht; have HB9 := Aside0.mk (HB8.out.trans hb); have X9 := Lib.hid hx; have ROW9 := Aside0.mk (Kd.C_below ROW0.out (HB4.out.trans (HB9.out.mono HB4.out.size))); clear ht hb hk y0 y1 y2 y3 y4; have y0 : w9.cell? ⟨wr.heap.size, 0, none⟩ = some (.int .i64 ra) := bcell hx 0; have y1 : w9.cell? ⟨wr.heap.size, 1, none⟩ = some (.int .i64 rb) := bcell hx 1; have y2 : w9.cell? ⟨wr.heap.size, 2, none⟩ = some (.int .u64 rq) := bcell hx 2; have y3 : w9.cell? ⟨wr.heap.size, 3, none⟩ = some (.int .u8 rk) := bcell hx 3; have y4 : w9.cell? ⟨wr.heap.size, 4, none⟩ = some (.slice A1 dl.length c1) := bcell hx 4; clear hx))
            exact ⟨⟨k + 1, D3, ts, by omega, by go_num, HT9.out.free, HSIM3.out, by have := HP1.out; have := HP3.out; have := HL.out; omega, HBP3.out, HB9.out⟩, by simp [intOf]; omega⟩
          · obtain rfl : k = m := by omega
            have HMP := Lib.hid (show ps.length < 1000000 by have := HL.out; omega)
            obtain ⟨okD, okX, hD, hX, -⟩ := HT.out
            have hby := HSIM.out.byt HBP.out
            have hlen := HSIM.out.len
            have hsc := fun (X : World) (hb : Below wr.heap.size wr X) => Scan_ent (hD.below hb) hby aa
            have hrsc := fun (X : World) (hb : Below wr.heap.size wr X) => RScan_ent (hX.below hb) HSO.out HMP.out hlen HBP.out aa
            have hrd := fun (X : World) (hb : Below wr.heap.size wr X) => Read_ent (hD.below hb) hby aa ab
            have hen := fun (X : World) (hb : Below wr.heap.size wr X) => Entry_ent (hX.below hb) HSO.out HMP.out hlen HBP.out aa ab
            have hha := fun (X : World) (hb : Below wr.heap.size wr X) => RHas_any (hX.below hb) aa 0
            have hfi := fun (X : World) (hb : Below wr.heap.size wr X) (y : Int) => RFind_any (hX.below hb) HMP.out aa y
            have hra := fun (X : World) (hb : Below wr.heap.size wr X) => Raw_any (hD.below hb) aa ab
            have hrr := fun (X : World) (hb : Below wr.heap.size wr X) => RRaw_any (hX.below hb) HSO.out HMP.out hlen aa ab
            have hcl := fun (X : World) (hb : Below wr.heap.size wr X) => Clean_any (hD.below hb) aa
            have hft := fun (X : World) => Fits_all s HSO.out ab nn HNN.out X
            have hbd := scanP_bd s ps aa
            have hed : (entP s ps aa ab).1.data.length < 1000000 := by have := entL_data s aa ab (rawP s ps aa ab); unfold entP; omega
            rw [HSIM.out.scan] at hsc
            rw [HSIM.out.ent] at hrd
            rw [HSIM.out.raw] at hra
            rw [HSIM.out.clean] at hcl
            obtain ⟨⟨q, l, is⟩, hq⟩ : ∃ r, r = scanP s ps aa := ⟨_, rfl⟩
            rw [← hq] at hsc hrsc hbd
            obtain ⟨⟨ent, er⟩, hen2⟩ : ∃ r, r = entP s ps aa ab := ⟨_, rfl⟩
            rw [← hen2] at hrd hen hed
            obtain ⟨rn, hrn⟩ : ∃ r, r = (rawP s ps aa ab).length := ⟨_, rfl⟩
            rw [← hrn] at hra hrr
            simp only at hbd hed
            have hll : l.length ≤ 1000000 := by have := hbd.1; omega
            have HSC := Lib.hid hsc
            have HRSC := Lib.hid hrsc
            have HRD := Lib.hid hrd
            have HEN := Lib.hid hen
            have HHA := Lib.hid hha
            have HFI := Lib.hid hfi
            have HRA := Lib.hid hra
            have HRR := Lib.hid hrr
            have HCL := Lib.hid hcl
            have HFT := Lib.hid hft
            have HED := Lib.hid hed
            have HBD := Lib.hid hbd.2
            have HLL := Lib.hid hll
            have HBX := Lib.hid (fun (X : World) (hb : Below wr.heap.size wr X) => HBOX.out X (HB.out.trans (hb.mono HB.out.size)))
            have hb0 := HSO.out.b0
            have hb1 := HSO.out.b1
            obtain ⟨k1, k2, k3, k4, k5⟩ := HBX.out _ (Below.refl _ _)
            clear hD hX hby hlen hsc hrsc hrd hen hha hfi hra hrr hcl hft hbd hed hq hen2 hrn hll
            obtain ⟨ea, eb, esq, epg, ekd, edl⟩ := ent
            simp only at HED
            go_wp2_with (first
              | (go_at_call 15; (with_reducible refine (HSC.out _ (Below.refl _ _)).mono ?_); rintro e z1 ⟨v1, rfl, hR, hb⟩; obtain ⟨E1, f1, rfl, -, hE⟩ := ERow.ofR hR; have HE1 := Lib.hid hE; have HZ1 := Aside0.mk hb; clear hR hE hb k1 k2 k3 k4 k5; obtain ⟨k1, k2, k3, k4, k5⟩ := HBX.out _ HZ1.out)
              | (go_at_call 37; (with_reducible refine (HRSC.out _ HZ1.out).mono ?_); rintro e z2 ⟨v2, rfl, hR, hb⟩; obtain ⟨E2, f2, rfl, -, hE⟩ := ERow.ofR hR; have HE2 := Lib.hid hE; have HZ2 := Aside0.mk (HZ1.out.trans (hb.mono HZ1.out.size)); have HE1 := Lib.hid (HE1.out.below hb); clear hR hE hb k1 k2 k3 k4 k5; obtain ⟨k1, k2, k3, k4, k5⟩ := HBX.out _ HZ2.out)
              | (go_at_call 38; (with_reducible refine (HRD.out _ HZ2.out).mono ?_); rintro e z3 ⟨v3, rfl, hD, hb⟩; obtain ⟨D1, g1, rfl, -, hC⟩ := hD.reads; have HC1 := Aside0.mk hC; have HZ3 := Aside0.mk (HZ2.out.trans (hb.mono HZ2.out.size)); have HE1 := Lib.hid (HE1.out.below hb); have HE2 := Lib.hid (HE2.out.below hb); clear hD hC hb k1 k2 k3 k4 k5; have HZ3a := Aside0.mk (HZ3.out.alloc HZ3.out.size (.cells #[.int .i64 ea, .int .i64 eb, .int .u64 esq, .int .i64 epg, .int .u8 ekd, .slice D1 edl.length g1] TE)); obtain ⟨k1, k2, k3, k4, k5⟩ := HBX.out _ HZ3a.out)
              | (go_at_call 39; (with_reducible refine (HEN.out _ HZ3a.out).mono ?_); rintro e z4 ⟨v4, rfl, hD, hb⟩; obtain ⟨D2, g2, rfl, -, hC⟩ := hD.reads; have HC2 := Aside0.mk hC; have HZ4 := Aside0.mk (HZ3a.out.trans (hb.mono HZ3a.out.size)); have hb2 := (below_alloc (Below.refl z3.heap.size z3) (.cells #[.int .i64 ea, .int .i64 eb, .int .u64 esq, .int .i64 epg, .int .u8 ekd, .slice D1 edl.length g1] TE)).trans (hb.mono (by simp)); have HE1 := Lib.hid (HE1.out.below hb2); have HE2 := Lib.hid (HE2.out.below hb2); have HC1 := Aside0.mk (Kd.C_below HC1.out hb2); have HBOX1 := Lib.hid ((hb.block _ (by simp)).trans (blk_new z3 (.cells #[.int .i64 ea, .int .i64 eb, .int .u64 esq, .int .i64 epg, .int .u8 ekd, .slice D1 edl.length g1] TE))); clear hD hC hb hb2 k1 k2 k3 k4 k5; have HZ4a := Aside0.mk (HZ4.out.alloc HZ4.out.size (.cells #[.int .i64 ea, .int .i64 eb, .int .u64 esq, .int .i64 epg, .int .u8 ekd, .slice D2 edl.length g2] TE)); obtain ⟨k1, k2, k3, k4, k5⟩ := HBX.out _ HZ4a.out)
              | (go_at_call 40; (with_reducible refine (HHA.out _ HZ4a.out).mono ?_); rintro e z5 ⟨rfl, rfl⟩))
            obtain ⟨Z, hZ⟩ : ∃ Z, Z = z4.alloc (.cells #[.int .i64 ea, .int .i64 eb, .int .u64 esq, .int .i64 epg, .int .u8 ekd, .slice D2 edl.length g2] TE) := ⟨_, rfl⟩
            have hE1 : ERow Z E1 l := HE1.out.below (by rw [hZ]; exact below_alloc (Below.refl _ _) _)
            have hE2 : ERow Z E2 l := HE2.out.below (by rw [hZ]; exact below_alloc (Below.refl _ _) _)
            have hC1 : kB.C Z D1 edl.length edl := Kd.C_below HC1.out (by rw [hZ]; exact below_alloc (Below.refl _ _) _)
            have hC2 : kB.C Z D2 edl.length edl := Kd.C_below HC2.out (by rw [hZ]; exact below_alloc (Below.refl _ _) _)
            have hx1 : Z.heap[z3.heap.size]? = some (.cells #[.int .i64 ea, .int .i64 eb, .int .u64 esq, .int .i64 epg, .int .u8 ekd, .slice D1 edl.length g1] TE (0, 0)) := by rw [hZ]; exact (Below.heap_alloc _ _ _ (blt HBOX1.out)).trans HBOX1.out
            have hx2 : Z.heap[z4.heap.size]? = some (.cells #[.int .i64 ea, .int .i64 eb, .int .u64 esq, .int .i64 epg, .int .u8 ekd, .slice D2 edl.length g2] TE (0, 0)) := by rw [hZ]; exact blk_new _ _
            have hzz : Below wr.heap.size wr Z := by rw [hZ]; exact HZ4a.out
            rw [← hZ]
            have hse := fun (X : World) (hb : Below Z.heap.size Z X) (c d : Nat) => SameEntries_ok (c := c) (d := d) (hE1.below hb) (hE2.below hb) HLL.out HBD.out
            have hs1 := fun (X : World) (hb : Below Z.heap.size Z X) (c d : Nat) => SameEntry_ok (e := ⟨ea, eb, esq, epg, ekd, edl⟩) (f := ⟨ea, eb, esq, epg, ekd, edl⟩) (c := c) (d := d) (Kd.C_below hC1 hb) (Kd.C_below hC2 hb) HED.out HED.out
            rw [sameB_self] at hs1
            simp only at hs1
            have hcs := fun (X : World) (hb : Below Z.heap.size Z X) => And.intro (ent_cells ((hb.block _ (blt hx1)).trans hx1)) (ent_cells ((hb.block _ (blt hx2)).trans hx2))
            have hbz := fun (X : World) (hb : Below Z.heap.size Z X) => HBX.out X (hzz.trans (hb.mono hzz.size))
            have HSE := Lib.hid hse
            have HS1 := Lib.hid hs1
            have HCS := Lib.hid hcs
            have HBZ := Lib.hid hbz
            have HZZ := Aside0.mk hzz
            clear hE1 hE2 hC1 hC2 hx1 hx2 hzz hse hs1 hcs hbz HE1 HE2 HC1 HC2 HBOX1 HZ1 HZ2 HZ3 HZ3a HZ4 HZ4a k1 k2 k3 k4 k5 hZ
            go_loopw [26, 27] (fun v26 v27 wr2 => ∃ k : Nat, (k : Int) ≤ s.2.1 ∧ v27 = .int .i64 (k : Int) ∧ v26 = .bool (hasB s aa 0 && (List.range k).all fun i => decide (findI aa (i : Int) ps < 0)) ∧ Below Z.heap.size Z wr2) (fun _ v27 _ => (s.2.1 - intOf v27).toNat)
            case atStart => exact ⟨0, by omega, rfl, by simp, Below.refl _ _⟩
            case round =>
              obtain ⟨k, hk, rfl, rfl, hb⟩ := hrel
              have HB2 := Aside0.mk hb
              obtain ⟨k1, k2, k3, k4, k5⟩ := HBZ.out _ hb
              obtain ⟨cb, hcb⟩ : ∃ cb, cb = (hasB s aa 0 && (List.range k).all fun i => decide (findI aa (i : Int) ps < 0)) := ⟨_, rfl⟩
              rw [← hcb]
              have hcs : (hasB s aa 0 && (List.range (k + 1)).all fun i => decide (findI aa (i : Int) ps < 0)) = (cb && decide (findI aa (k : Int) ps < 0)) := by
                rw [List.range_succ, List.all_append, ← Bool.and_assoc, ← hcb]
                simp
              have HCB := Lib.hid hcb
              have HCN := Lib.hid hcs
              clear hb hcb hcs
              by_cases hlt : (k : Int) < s.2.1
              · cases hc : cb with
                | false =>
                  have HC := Lib.hid hc
                  clear hc
                  go_wp2
                  exact ⟨⟨k + 1, by omega, by go_num, by rw [HCN.out, HC.out]; rfl, HB2.out⟩, by simp [intOf]; omega⟩
                | true =>
                  have HC := Lib.hid hc
                  clear hc
                  go_wp2_with (go_at_call 41; (with_reducible refine (HFI.out _ (HZZ.out.trans (HB2.out.mono HZZ.out.size)) _).mono ?_); rintro e y1 ⟨rfl, hb⟩; have HB3 := Aside0.mk (HB2.out.trans (hb.mono HB2.out.size)); clear hb)
                  exact ⟨⟨k + 1, by omega, by go_num, by rw [HCN.out, HC.out]; rfl, HB3.out⟩, by simp [intOf]; omega⟩
              · have hcl : cb = cleanP s ps aa := by
                  rw [HCB.out]
                  unfold cleanP
                  rw [show k = s.2.1.toNat by omega]
                have hclc := HCL.out
                rw [← hcl] at hclc
                have HCL := Lib.hid hclc
                clear hcl hclc HCN HCB
                have bq : (q == q) = true := by simp
                have bis : (is == is) = true := by simp
                have ber : (er == er) = true := by simp
                have bcb : (cb == cb) = true := by simp
                have brn : ((rn : Int) == (rn : Int)) = true := by simp
                by_cases n0 : 0 ≤ nn
                · by_cases n1 : nn ≤ 4096
                  · by_cases n2 : 0 ≤ ab
                    · by_cases n3 : ab ≤ s.2.1
                      · have HFQ := Lib.hid (show fitsQ s ab nn = decide ((kpg s nn.toNat : Int) ≤ s.2.1 - ab) by unfold fitsQ; congr 1; exact propext ⟨fun h => h.2.2.2, fun h => ⟨⟨n0, n1⟩, n2, n3, h⟩⟩)
                        have HPG := Lib.hid (fun X : World => RPages_ok nn.toNat s HSO.out (by omega) X)
                        obtain ⟨kp, hkp⟩ : ∃ kp, kp = kpg s nn.toNat := ⟨_, rfl⟩
                        have hpg := HPG.out
                        have hfq := HFQ.out
                        rw [← hkp] at hpg hfq
                        rw [Int.toNat_of_nonneg n0] at hpg
                        have HPG := Lib.hid hpg
                        have HFQ := Lib.hid hfq
                        obtain ⟨fb, hfb⟩ : ∃ fb, fb = decide ((kp : Int) ≤ s.2.1 - ab) := ⟨_, rfl⟩
                        have hfb2 := hfb.symm
                        have bfb : (fb == fb) = true := by simp
                        have hfq2 : fitsQ s ab nn = fb := hfq.trans hfb2
                        have HFQ2 := Lib.hid hfq2
                        have m0 : ¬ (0 : Int) > nn := by omega
                        have m1 : ¬ nn > (5000 : Int) := by omega
                        have m2 : ¬ nn < (0 : Int) := by omega
                        have m3 : ¬ (5000 : Int) < nn := by omega
                        have m4 : max nn 0 = nn := by omega
                        have m5 : min nn 5000 = nn := by omega
                        have m6 : IntKind.i64.wrap (s.2.1 - ab) = s.2.1 - ab := IntWalk.i64_in _ (by omega)
                        clear hpg hfq hkp hfb hfq2
                        go_wp2_with fail
                        go_region_held3 (fun w' => w'.cell? ⟨w.heap.size, 1, none⟩ = some (.int .i64 s.2.1) ∧ w'.cell? ⟨w.heap.size, 2, none⟩ = some (.int .i64 s.2.2) ∧ w'.cell? ⟨w.heap.size + 1, 1, none⟩ = some (.int .i64 ab)) (first | go_keep | exact ⟨k2, k3, k5⟩)
                          (first | (go_at_call 42; (with_reducible refine (HPG.out _).mono ?_); rintro e y0 ⟨rfl, hb⟩; have HB3 := Aside0.mk (HB2.out.trans ((undrew hb).mono HB2.out.size)); clear hb k1 k2 k3 k4 k5; obtain ⟨k1, k2, k3, k4, k5⟩ := HBZ.out _ HB3.out))
                        go_wp2_with (first
                          | (go_at_call 43; (with_reducible refine (HRA.out _ (HZZ.out.trans (HB3.out.mono HZZ.out.size))).mono ?_); rintro e y1 ⟨R1, c1, rfl, -, -, hb⟩; have HY1 := Aside0.mk (HB3.out.trans (hb.mono HB3.out.size)); clear hb k1 k2 k3 k4 k5; obtain ⟨k1, k2, k3, k4, k5⟩ := HBZ.out _ HY1.out)
                          | (go_at_call 21; (with_reducible refine (HSE.out _ HY1.out _ _).mono ?_); rintro e y2 ⟨rfl, hb⟩; have HY2 := Aside0.mk (HY1.out.trans (hb.mono HY1.out.size)); clear hb k1 k2 k3 k4 k5; obtain ⟨⟨t0, t1, t2, t3, t4, t5, -⟩, ⟨o0, o1, o2, o3, o4, o5, -⟩⟩ := HCS.out _ HY2.out)
                          | (go_at_call 44; (with_reducible refine (HS1.out _ HY2.out _ _).mono ?_); rintro e y3 ⟨rfl, hb⟩; have HY3 := Aside0.mk (HY2.out.trans (hb.mono HY2.out.size)); clear hb t0 t1 t2 t3 t4 t5 o0 o1 o2 o3 o4 o5; obtain ⟨k1, k2, k3, k4, k5⟩ := HBZ.out _ HY3.out)
                          | (go_at_call 45; (with_reducible refine (HCL.out _ (HZZ.out.trans (HY3.out.mono HZZ.out.size))).mono ?_); rintro e y4 ⟨rfl, hb⟩; have HY4 := Aside0.mk (HY3.out.trans (hb.mono HY3.out.size)); clear hb k1 k2 k3 k4 k5; obtain ⟨k1, k2, k3, k4, k5⟩ := HBZ.out _ HY4.out)
                          | (go_at_call 46; (with_reducible refine (HFT.out _).mono ?_); rw [HFQ2.out]; rintro e y5 ⟨rfl, hb⟩; have HY5 := Aside0.mk (HY4.out.trans (hb.mono HY4.out.size)); clear hb k1 k2 k3 k4 k5; obtain ⟨k1, k2, k3, k4, k5⟩ := HBZ.out _ HY5.out)
                          | (go_at_call 47; (with_reducible refine (HRR.out _ (HZZ.out.trans (HY5.out.mono HZZ.out.size))).mono ?_); rintro e y6 ⟨R2, c2, rfl, -, -, hb⟩; have HY6 := Aside0.mk (HY5.out.trans (hb.mono HY5.out.size)); clear hb))
                        go_ret
                        exact ⟨rfl, QB.out.trans ((HB.out.trans ((HZZ.out.trans (HY6.out.mono HZZ.out.size)).mono HB.out.size)).mono QB.out.size)⟩
                      · have HFQ := Lib.hid (show fitsQ s ab nn = false from decide_eq_false (fun hh => by omega))
                        have e4 : decide (ab ≤ s.2.1) = false := by simp; omega
                        go_wp2_with fail
                        go_quiet (fail)
                        clear k1 k2 k3 k4 k5
                        have HB2 := Aside0.mk (pw_below_drewN HB2.out nq)
                        obtain ⟨k1, k2, k3, k4, k5⟩ := HBZ.out _ HB2.out
                        go_wp2_with (first
                          | (go_at_call 43; (with_reducible refine (HRA.out _ (HZZ.out.trans (HB2.out.mono HZZ.out.size))).mono ?_); rintro e y1 ⟨R1, c1, rfl, -, -, hb⟩; have HY1 := Aside0.mk (HB2.out.trans (hb.mono HB2.out.size)); clear hb k1 k2 k3 k4 k5; obtain ⟨k1, k2, k3, k4, k5⟩ := HBZ.out _ HY1.out)
                          | (go_at_call 21; (with_reducible refine (HSE.out _ HY1.out _ _).mono ?_); rintro e y2 ⟨rfl, hb⟩; have HY2 := Aside0.mk (HY1.out.trans (hb.mono HY1.out.size)); clear hb k1 k2 k3 k4 k5; obtain ⟨⟨t0, t1, t2, t3, t4, t5, -⟩, ⟨o0, o1, o2, o3, o4, o5, -⟩⟩ := HCS.out _ HY2.out)
                          | (go_at_call 44; (with_reducible refine (HS1.out _ HY2.out _ _).mono ?_); rintro e y3 ⟨rfl, hb⟩; have HY3 := Aside0.mk (HY2.out.trans (hb.mono HY2.out.size)); clear hb t0 t1 t2 t3 t4 t5 o0 o1 o2 o3 o4 o5; obtain ⟨k1, k2, k3, k4, k5⟩ := HBZ.out _ HY3.out)
                          | (go_at_call 45; (with_reducible refine (HCL.out _ (HZZ.out.trans (HY3.out.mono HZZ.out.size))).mono ?_); rintro e y4 ⟨rfl, hb⟩; have HY4 := Aside0.mk (HY3.out.trans (hb.mono HY3.out.size)); clear hb k1 k2 k3 k4 k5; obtain ⟨k1, k2, k3, k4, k5⟩ := HBZ.out _ HY4.out)
                          | (go_at_call 46; (with_reducible refine (HFT.out _).mono ?_); rw [HFQ.out]; rintro e y5 ⟨rfl, hb⟩; have HY5 := Aside0.mk (HY4.out.trans (hb.mono HY4.out.size)); clear hb k1 k2 k3 k4 k5; obtain ⟨k1, k2, k3, k4, k5⟩ := HBZ.out _ HY5.out)
                          | (go_at_call 47; (with_reducible refine (HRR.out _ (HZZ.out.trans (HY5.out.mono HZZ.out.size))).mono ?_); rintro e y6 ⟨R2, c2, rfl, -, -, hb⟩; have HY6 := Aside0.mk (HY5.out.trans (hb.mono HY5.out.size)); clear hb))
                        go_ret
                        exact ⟨rfl, QB.out.trans ((HB.out.trans ((HZZ.out.trans (HY6.out.mono HZZ.out.size)).mono HB.out.size)).mono QB.out.size)⟩
                    · have HFQ := Lib.hid (show fitsQ s ab nn = false from decide_eq_false (fun hh => by omega))
                      have e4 : decide (0 ≤ ab) = false := by simp; omega
                      go_wp2_with fail
                      go_quiet (fail)
                      clear k1 k2 k3 k4 k5
                      have HB2 := Aside0.mk (pw_below_drewN HB2.out nq)
                      obtain ⟨k1, k2, k3, k4, k5⟩ := HBZ.out _ HB2.out
                      go_wp2_with (first
                        | (go_at_call 43; (with_reducible refine (HRA.out _ (HZZ.out.trans (HB2.out.mono HZZ.out.size))).mono ?_); rintro e y1 ⟨R1, c1, rfl, -, -, hb⟩; have HY1 := Aside0.mk (HB2.out.trans (hb.mono HB2.out.size)); clear hb k1 k2 k3 k4 k5; obtain ⟨k1, k2, k3, k4, k5⟩ := HBZ.out _ HY1.out)
                        | (go_at_call 21; (with_reducible refine (HSE.out _ HY1.out _ _).mono ?_); rintro e y2 ⟨rfl, hb⟩; have HY2 := Aside0.mk (HY1.out.trans (hb.mono HY1.out.size)); clear hb k1 k2 k3 k4 k5; obtain ⟨⟨t0, t1, t2, t3, t4, t5, -⟩, ⟨o0, o1, o2, o3, o4, o5, -⟩⟩ := HCS.out _ HY2.out)
                        | (go_at_call 44; (with_reducible refine (HS1.out _ HY2.out _ _).mono ?_); rintro e y3 ⟨rfl, hb⟩; have HY3 := Aside0.mk (HY2.out.trans (hb.mono HY2.out.size)); clear hb t0 t1 t2 t3 t4 t5 o0 o1 o2 o3 o4 o5; obtain ⟨k1, k2, k3, k4, k5⟩ := HBZ.out _ HY3.out)
                        | (go_at_call 45; (with_reducible refine (HCL.out _ (HZZ.out.trans (HY3.out.mono HZZ.out.size))).mono ?_); rintro e y4 ⟨rfl, hb⟩; have HY4 := Aside0.mk (HY3.out.trans (hb.mono HY3.out.size)); clear hb k1 k2 k3 k4 k5; obtain ⟨k1, k2, k3, k4, k5⟩ := HBZ.out _ HY4.out)
                        | (go_at_call 46; (with_reducible refine (HFT.out _).mono ?_); rw [HFQ.out]; rintro e y5 ⟨rfl, hb⟩; have HY5 := Aside0.mk (HY4.out.trans (hb.mono HY4.out.size)); clear hb k1 k2 k3 k4 k5; obtain ⟨k1, k2, k3, k4, k5⟩ := HBZ.out _ HY5.out)
                        | (go_at_call 47; (with_reducible refine (HRR.out _ (HZZ.out.trans (HY5.out.mono HZZ.out.size))).mono ?_); rintro e y6 ⟨R2, c2, rfl, -, -, hb⟩; have HY6 := Aside0.mk (HY5.out.trans (hb.mono HY5.out.size)); clear hb))
                      go_ret
                      exact ⟨rfl, QB.out.trans ((HB.out.trans ((HZZ.out.trans (HY6.out.mono HZZ.out.size)).mono HB.out.size)).mono QB.out.size)⟩
                  · have HFQ := Lib.hid (show fitsQ s ab nn = false from decide_eq_false (fun hh => by omega))
                    have e4 : decide (nn ≤ 4096) = false := by simp; omega
                    go_wp2_with fail
                    go_quiet (fail)
                    clear k1 k2 k3 k4 k5
                    have HB2 := Aside0.mk (pw_below_drewN HB2.out nq)
                    obtain ⟨k1, k2, k3, k4, k5⟩ := HBZ.out _ HB2.out
                    go_wp2_with (first
                      | (go_at_call 43; (with_reducible refine (HRA.out _ (HZZ.out.trans (HB2.out.mono HZZ.out.size))).mono ?_); rintro e y1 ⟨R1, c1, rfl, -, -, hb⟩; have HY1 := Aside0.mk (HB2.out.trans (hb.mono HB2.out.size)); clear hb k1 k2 k3 k4 k5; obtain ⟨k1, k2, k3, k4, k5⟩ := HBZ.out _ HY1.out)
                      | (go_at_call 21; (with_reducible refine (HSE.out _ HY1.out _ _).mono ?_); rintro e y2 ⟨rfl, hb⟩; have HY2 := Aside0.mk (HY1.out.trans (hb.mono HY1.out.size)); clear hb k1 k2 k3 k4 k5; obtain ⟨⟨t0, t1, t2, t3, t4, t5, -⟩, ⟨o0, o1, o2, o3, o4, o5, -⟩⟩ := HCS.out _ HY2.out)
                      | (go_at_call 44; (with_reducible refine (HS1.out _ HY2.out _ _).mono ?_); rintro e y3 ⟨rfl, hb⟩; have HY3 := Aside0.mk (HY2.out.trans (hb.mono HY2.out.size)); clear hb t0 t1 t2 t3 t4 t5 o0 o1 o2 o3 o4 o5; obtain ⟨k1, k2, k3, k4, k5⟩ := HBZ.out _ HY3.out)
                      | (go_at_call 45; (with_reducible refine (HCL.out _ (HZZ.out.trans (HY3.out.mono HZZ.out.size))).mono ?_); rintro e y4 ⟨rfl, hb⟩; have HY4 := Aside0.mk (HY3.out.trans (hb.mono HY3.out.size)); clear hb k1 k2 k3 k4 k5; obtain ⟨k1, k2, k3, k4, k5⟩ := HBZ.out _ HY4.out)
                      | (go_at_call 46; (with_reducible refine (HFT.out _).mono ?_); rw [HFQ.out]; rintro e y5 ⟨rfl, hb⟩; have HY5 := Aside0.mk (HY4.out.trans (hb.mono HY4.out.size)); clear hb k1 k2 k3 k4 k5; obtain ⟨k1, k2, k3, k4, k5⟩ := HBZ.out _ HY5.out)
                      | (go_at_call 47; (with_reducible refine (HRR.out _ (HZZ.out.trans (HY5.out.mono HZZ.out.size))).mono ?_); rintro e y6 ⟨R2, c2, rfl, -, -, hb⟩; have HY6 := Aside0.mk (HY5.out.trans (hb.mono HY5.out.size)); clear hb))
                    go_ret
                    exact ⟨rfl, QB.out.trans ((HB.out.trans ((HZZ.out.trans (HY6.out.mono HZZ.out.size)).mono HB.out.size)).mono QB.out.size)⟩
                · have HFQ := Lib.hid (show fitsQ s ab nn = false from decide_eq_false (fun hh => by omega))
                  have e4 : decide (0 ≤ nn) = false := by simp; omega
                  go_wp2_with fail
                  go_quiet (fail)
                  clear k1 k2 k3 k4 k5
                  have HB2 := Aside0.mk (pw_below_drewN HB2.out nq)
                  obtain ⟨k1, k2, k3, k4, k5⟩ := HBZ.out _ HB2.out
                  go_wp2_with (first
                    | (go_at_call 43; (with_reducible refine (HRA.out _ (HZZ.out.trans (HB2.out.mono HZZ.out.size))).mono ?_); rintro e y1 ⟨R1, c1, rfl, -, -, hb⟩; have HY1 := Aside0.mk (HB2.out.trans (hb.mono HB2.out.size)); clear hb k1 k2 k3 k4 k5; obtain ⟨k1, k2, k3, k4, k5⟩ := HBZ.out _ HY1.out)
                    | (go_at_call 21; (with_reducible refine (HSE.out _ HY1.out _ _).mono ?_); rintro e y2 ⟨rfl, hb⟩; have HY2 := Aside0.mk (HY1.out.trans (hb.mono HY1.out.size)); clear hb k1 k2 k3 k4 k5; obtain ⟨⟨t0, t1, t2, t3, t4, t5, -⟩, ⟨o0, o1, o2, o3, o4, o5, -⟩⟩ := HCS.out _ HY2.out)
                    | (go_at_call 44; (with_reducible refine (HS1.out _ HY2.out _ _).mono ?_); rintro e y3 ⟨rfl, hb⟩; have HY3 := Aside0.mk (HY2.out.trans (hb.mono HY2.out.size)); clear hb t0 t1 t2 t3 t4 t5 o0 o1 o2 o3 o4 o5; obtain ⟨k1, k2, k3, k4, k5⟩ := HBZ.out _ HY3.out)
                    | (go_at_call 45; (with_reducible refine (HCL.out _ (HZZ.out.trans (HY3.out.mono HZZ.out.size))).mono ?_); rintro e y4 ⟨rfl, hb⟩; have HY4 := Aside0.mk (HY3.out.trans (hb.mono HY3.out.size)); clear hb k1 k2 k3 k4 k5; obtain ⟨k1, k2, k3, k4, k5⟩ := HBZ.out _ HY4.out)
                    | (go_at_call 46; (with_reducible refine (HFT.out _).mono ?_); rw [HFQ.out]; rintro e y5 ⟨rfl, hb⟩; have HY5 := Aside0.mk (HY4.out.trans (hb.mono HY4.out.size)); clear hb k1 k2 k3 k4 k5; obtain ⟨k1, k2, k3, k4, k5⟩ := HBZ.out _ HY5.out)
                    | (go_at_call 47; (with_reducible refine (HRR.out _ (HZZ.out.trans (HY5.out.mono HZZ.out.size))).mono ?_); rintro e y6 ⟨R2, c2, rfl, -, -, hb⟩; have HY6 := Aside0.mk (HY5.out.trans (hb.mono HY5.out.size)); clear hb))
                  go_ret
                  exact ⟨rfl, QB.out.trans ((HB.out.trans ((HZZ.out.trans (HY6.out.mono HZZ.out.size)).mono HB.out.size)).mono QB.out.size)⟩
end Go.Proofs.Ytmbiebdcnadhkaa.Fl
namespace Go.Proofs.Ytmbiebdcnadhkaa.Opens
open Go.ChangeShapes Go.WideShapes Go.ChangeAt Go.RowKit Go.Joins Go.Deep Go.Proofs.YtmbiebdcnadhkaaW.PrintWords
section
variable {H : Type} {enc : TypeId × Value → H} {P : Program} {w : World} {base : Nat} {spare : Nat → Bool} {held : Bool}
theorem cell_ints {t e : TypeId} {k : IntKind} {fuel : Nat} {u : Value} {x : DataW H × List MemPlace} (ht : P.underlying t = some (.slice e)) (he : P.underlying e = some (.int k)) (hC : P.cellsOf e = 1)
    (h : DataW.trod enc P w base spare held fuel t [u] = some x) :
    ∃ (A : Option Addr) (c : Nat) (l : List Int), [u] = [Value.slice A l.length c] ∧ Kd.C (Kd.int k) w A l.length l ∧ l.length ≤ c ∧ l.length ≤ maxLen ∧ (∀ n ∈ l, (Lit.int k n).wf = true) := by
  rcases open_ints ht he hC h with ⟨hcs, _⟩ | ⟨a, len, cap, zs, hcs, _, hl, hm, hz, _, hcell, hwz⟩
  · refine ⟨none, 0, [], hcs, ?_, Nat.le_refl _, Nat.zero_le _, fun n hn => by cases hn⟩
    exact Kd.C_of_reads (d := (0 : Int)) (h1 := fun _ => rfl) ⟨rfl, by simp, fun h => absurd h (by simp)⟩
  · have hlz : len ≤ zs.length := by
      rw [hz]
      split
      · exact hl
      · exact Nat.le_refl _
    have e : (zs.take len).length = len := by rw [List.length_take]; omega
    refine ⟨some a, cap, zs.take len, by rw [e]; exact hcs, ?_, by omega, by rw [e]; omega, fun n hn => hwz n (List.mem_of_mem_take hn)⟩
    refine Kd.C_of_reads (d := (0 : Int)) (h1 := fun _ => rfl) ⟨rfl, by rw [e]; unfold maxLen at hm; omega, fun _ => ⟨a, rfl, fun j hj => ?_⟩⟩
    rw [e] at hj
    rw [hcell j (by omega)]
    simp [List.getD_eq_getElem?_getD, hj]
end
end Go.Proofs.Ytmbiebdcnadhkaa.Opens
namespace Go.Proofs.Ytmbiebdcnadhkaa.Fl
open Go.ChangeShapes Go.WideShapes Go.ChangeAt Go.RowKit Go.Joins Go.Deep Go.Proofs.YtmbiebdcnadhkaaW.PrintWords Go.Proofs.Ytmbiebdcnadhkaa.Opens
section
variable {H : Type} {enc : TypeId × Value → H} {P : Program} {w : World} {base : Nat} {spare : Nat → Bool} {held : Bool}
theorem plan_of {k t c : Int} (h : (Lit.int .u64 k).wf = true) : PlanOk ⟨k, t, c⟩ := by
  unfold Lit.wf at h
  rw [Bool.and_eq_true, decide_eq_true_eq, decide_eq_true_eq] at h
  have e1 : IntKind.min .u64 = 0 := by decide
  have e2 : IntKind.max .u64 = 18446744073709551615 := by decide
  rw [e1, e2] at h
  exact ⟨h.1, by show k < _; omega⟩
theorem plan_cells {t : TypeId} {g0 g1 g2 : Field} {n : Nat} {u0 u1 u2 : Value} {y : DataW H × List MemPlace} (he : P.underlying t = some (.struct #[g0, g1, g2])) (hone : oneCellFields P #[g0, g1, g2] = true)
    (t0 : P.underlying g0.type = some (.int .u64)) (t1 : P.underlying g1.type = some (.int .i64)) (t2 : P.underlying g2.type = some (.int .i64))
    (h : DataW.trod enc P w base spare held n t [u0, u1, u2] = some y) : ∃ Q : PlanT, u0 = .int .u64 Q.keep ∧ u1 = .int .i64 Q.torn ∧ u2 = .int .i64 Q.cut ∧ PlanOk Q := by
  obtain ⟨xs, m, _, _, _, hlen, hg⟩ := DataW.trod_struct he h
  obtain ⟨o0, k0⟩ := hone_of hone 0 g0 rfl
  obtain ⟨o1, k1⟩ := hone_of hone 1 g1 rfl
  obtain ⟨o2, k2⟩ := hone_of hone 2 g2 rfl
  match xs, hlen with
  | [y0, y1, y2], _ =>
    have t0' : DataW.trod enc P w base spare held m g0.type [u0] = some y0 := by simpa [o0, k0] using hg 0 g0 rfl
    have t1' : DataW.trod enc P w base spare held m g1.type [u1] = some y1 := by simpa [o1, k1] using hg 1 g1 rfl
    have t2' : DataW.trod enc P w base spare held m g2.type [u2] = some y2 := by simpa [o2, k2] using hg 2 g2 rfl
    obtain ⟨a0, z0, _, w0⟩ := DataW.trod_int t0 t0'
    obtain ⟨a1, z1, _, _⟩ := DataW.trod_int t1 t1'
    obtain ⟨a2, z2, _, _⟩ := DataW.trod_int t2 t2'
    exact ⟨⟨a0, a1, a2⟩, List.head_eq_of_cons_eq z0, List.head_eq_of_cons_eq z1, List.head_eq_of_cons_eq z2, plan_of w0⟩
theorem byt_of {l : List Int} (h : ∀ x ∈ l, (Lit.int .u8 x).wf = true) : Byt l := fun x hx => by
  have h1 := h x hx
  unfold Lit.wf at h1
  rw [Bool.and_eq_true, decide_eq_true_eq, decide_eq_true_eq] at h1
  have e1 : IntKind.min .u8 = 0 := by decide
  have e2 : IntKind.max .u8 = 255 := by decide
  rw [e1, e2] at h1
  exact h1
theorem deed_cells {e te : TypeId} {f0 f1 f2 f3 f4 g0 g1 g2 : Field} {n : Nat} {cs : List Value} {y : DataW H × List MemPlace} (he : P.underlying e = some (.struct #[f0, f1, f2, f3, f4]))
    (o0 : f0.offset = 0) (o1 : f1.offset = 1) (o2 : f2.offset = 2) (o3 : f3.offset = 3) (o4 : f4.offset = 4)
    (k0 : P.cellsOf f0.type = 1) (k1 : P.cellsOf f1.type = 1) (k2 : P.cellsOf f2.type = 1) (k3 : P.cellsOf f3.type = 1) (k4 : P.cellsOf f4.type = 3)
    (u0 : P.underlying f0.type = some (.int .i64)) (u1 : P.underlying f1.type = some (.int .i64)) (u2 : P.underlying f2.type = some (.int .i64)) (u3 : P.underlying f3.type = some (.slice te)) (ue : P.underlying te = some (.int .u8)) (ke : P.cellsOf te = 1)
    (u4 : P.underlying f4.type = some (.struct #[g0, g1, g2])) (hone : oneCellFields P #[g0, g1, g2] = true)
    (t0 : P.underlying g0.type = some (.int .u64)) (t1 : P.underlying g1.type = some (.int .i64)) (t2 : P.underlying g2.type = some (.int .i64))
    (hl : cs.length = 7) (h : DataW.trod enc P w base spare held n e cs = some y) :
    ∃ (d : DeedT) (A : Option Addr) (c : Nat), cs = [.int .i64 d.op, .int .i64 d.a, .int .i64 d.b, .slice A d.l.length c, .int .u64 d.P.keep, .int .i64 d.P.torn, .int .i64 d.P.cut] ∧ kB.C w A d.l.length d.l ∧ PlanOk d.P ∧ Byt d.l := by
  obtain ⟨xs, m, _, _, _, hlen, hg⟩ := DataW.trod_struct he h
  match cs, hl, xs, hlen with
  | [c0, c1, c2, c3, c4, c5, c6], _, [y0, y1, y2, y3, y4], _ =>
    have s0 : DataW.trod enc P w base spare held m f0.type [c0] = some y0 := by simpa [o0, k0] using hg 0 f0 rfl
    have s1 : DataW.trod enc P w base spare held m f1.type [c1] = some y1 := by simpa [o1, k1] using hg 1 f1 rfl
    have s2 : DataW.trod enc P w base spare held m f2.type [c2] = some y2 := by simpa [o2, k2] using hg 2 f2 rfl
    have s3 : DataW.trod enc P w base spare held m f3.type [c3] = some y3 := by simpa [o3, k3] using hg 3 f3 rfl
    have s4 : DataW.trod enc P w base spare held m f4.type [c4, c5, c6] = some y4 := by simpa [o4, k4] using hg 4 f4 rfl
    obtain ⟨a0, z0, _, _⟩ := DataW.trod_int u0 s0
    obtain ⟨a1, z1, _, _⟩ := DataW.trod_int u1 s1
    obtain ⟨a2, z2, _, _⟩ := DataW.trod_int u2 s2
    obtain ⟨A, c, l, z3, hr, _, _, hw⟩ := cell_ints u3 ue ke s3
    obtain ⟨Q, e4, e5, e6, hQ⟩ := plan_cells u4 hone t0 t1 t2 s4
    refine ⟨⟨a0, a1, a2, l, Q⟩, A, c, ?_, hr, hQ, byt_of hw⟩
    rw [List.head_eq_of_cons_eq z0, List.head_eq_of_cons_eq z1, List.head_eq_of_cons_eq z2, List.head_eq_of_cons_eq z3, e4, e5, e6]
theorem row_deeds {t e te : TypeId} {f0 f1 f2 f3 f4 g0 g1 g2 : Field} {A : Option Addr} {len c : Nat} {d : DataW H} {p : List MemPlace} (ht : P.underlying t = some (.slice e)) (he : P.underlying e = some (.struct #[f0, f1, f2, f3, f4])) (hC : P.cellsOf e = 7)
    (o0 : f0.offset = 0) (o1 : f1.offset = 1) (o2 : f2.offset = 2) (o3 : f3.offset = 3) (o4 : f4.offset = 4)
    (k0 : P.cellsOf f0.type = 1) (k1 : P.cellsOf f1.type = 1) (k2 : P.cellsOf f2.type = 1) (k3 : P.cellsOf f3.type = 1) (k4 : P.cellsOf f4.type = 3)
    (u0 : P.underlying f0.type = some (.int .i64)) (u1 : P.underlying f1.type = some (.int .i64)) (u2 : P.underlying f2.type = some (.int .i64)) (u3 : P.underlying f3.type = some (.slice te)) (ue : P.underlying te = some (.int .u8)) (ke : P.cellsOf te = 1)
    (u4 : P.underlying f4.type = some (.struct #[g0, g1, g2])) (hone : oneCellFields P #[g0, g1, g2] = true)
    (t0 : P.underlying g0.type = some (.int .u64)) (t1 : P.underlying g1.type = some (.int .i64)) (t2 : P.underlying g2.type = some (.int .i64))
    (h : DataW.Trod enc P w base spare held t (.slice A len c) d p) : ∃ ds : List DeedT, len = ds.length ∧ DRow w A ds ∧ ds.length ≤ 9223372036854775807 ∧ ∀ d ∈ ds, PlanOk d.P ∧ Byt d.l := by
  obtain ⟨fuel, hf⟩ := h
  rcases open_slice ht hf with ⟨hcs, _⟩ | ⟨a, len', cap, m, n, D, Pl, hcs, hb, hl, hm, hmm, _, hel⟩
  · simp [Value.cells] at hcs
    obtain ⟨rfl, rfl, rfl⟩ := hcs
    exact ⟨[], rfl, fun i d hi => by simp at hi, by simp, by simp⟩
  · simp [Value.cells] at hcs
    obtain ⟨rfl, rfl, rfl⟩ := hcs
    have hlm : len ≤ m := by rw [hmm]; split <;> omega
    have each : ∀ i, ∃ x : DeedT, i < len → (PlanOk x.P ∧ Byt x.l) ∧ ∃ A1 c1, kB.C w A1 x.l.length x.l ∧ w.cells? base (a.add (i * 7)) 7 = some [.int .i64 x.op, .int .i64 x.a, .int .i64 x.b, .slice A1 x.l.length c1, .int .u64 x.P.keep, .int .i64 x.P.torn, .int .i64 x.P.cut] := by
      intro i
      by_cases hi : i < len
      · obtain ⟨cs', h1, h2⟩ := hel i (by omega)
        rw [hC] at h1
        obtain ⟨x, A1, c1, rfl, h3, h4, h5⟩ := deed_cells he o0 o1 o2 o3 o4 k0 k1 k2 k3 k4 u0 u1 u2 u3 ue ke u4 hone t0 t1 t2 (World.cells?_some h1).2.1 h2
        exact ⟨x, fun _ => ⟨⟨h4, h5⟩, A1, c1, h3, h1⟩⟩
      · exact ⟨⟨0, 0, 0, [], 0, 0, 0⟩, fun h => absurd h hi⟩
    refine ⟨(List.range len).map (fun i => Classical.choose (each i)), by simp, fun i d hi => ?_, by simp; unfold maxLen at hm; omega, fun d hd => ?_⟩
    · have hil : i < len := by
        have := (List.getElem?_eq_some_iff.1 hi).1
        simpa using this
      have hx : d = Classical.choose (each i) := by simpa [hil] using hi.symm
      obtain ⟨_, A1, c1, h1, h2⟩ := Classical.choose_spec (each i) hil
      rw [← hx] at h1 h2
      have h3 := (World.cells?_some h2).2.2
      have g0 := h3 0 (by omega)
      refine ⟨a, A1, c1, rfl, ?_, h3 1 (by omega), h3 2 (by omega), h3 3 (by omega), h3 4 (by omega), h3 5 (by omega), h3 6 (by omega), h1⟩
      simpa [Addr.add] using g0
    · rw [List.mem_map] at hd
      obtain ⟨i, hi, rfl⟩ := hd
      exact (Classical.choose_spec (each i) (by simpa using hi)).1
end
end Go.Proofs.Ytmbiebdcnadhkaa.Fl
namespace Go.Proofs.Ytmbiebdcnadhkaa.Fl
open Go.ChangeShapes Go.WideShapes Go.ChangeAt Go.RowKit Go.Joins Go.Deep Go.Proofs.YtmbiebdcnadhkaaW.PrintWords Go.Proofs.Ytmbiebdcnadhkaa.Opens
section
variable {H : Type} {enc : TypeId × Value → H} {P : Program} {w : World} {base : Nat} {spare : Nat → Bool} {held : Bool}
theorem kind_of {k : Int} (h : (Lit.int .u8 k).wf = true) : KindOk k := by
  unfold Lit.wf at h
  rw [Bool.and_eq_true, decide_eq_true_eq, decide_eq_true_eq] at h
  have e1 : IntKind.min .u8 = 0 := by decide
  have e2 : IntKind.max .u8 = 255 := by decide
  rw [e1, e2] at h
  exact ⟨h.1, h.2⟩
theorem seq_of {k : Int} (h : (Lit.int .u64 k).wf = true) : SeqOk k := by
  unfold Lit.wf at h
  rw [Bool.and_eq_true, decide_eq_true_eq, decide_eq_true_eq] at h
  have e1 : IntKind.min .u64 = 0 := by decide
  have e2 : IntKind.max .u64 = 18446744073709551615 := by decide
  rw [e1, e2] at h
  exact ⟨h.1, h.2⟩
theorem rec_cells {e te : TypeId} {f0 f1 f2 f3 f4 : Field} {n : Nat} {cs : List Value} {y : DataW H × List MemPlace} (he : P.underlying e = some (.struct #[f0, f1, f2, f3, f4]))
    (o0 : f0.offset = 0) (o1 : f1.offset = 1) (o2 : f2.offset = 2) (o3 : f3.offset = 3) (o4 : f4.offset = 4)
    (k0 : P.cellsOf f0.type = 1) (k1 : P.cellsOf f1.type = 1) (k2 : P.cellsOf f2.type = 1) (k3 : P.cellsOf f3.type = 1) (k4 : P.cellsOf f4.type = 1)
    (u0 : P.underlying f0.type = some (.int .i64)) (u1 : P.underlying f1.type = some (.int .i64)) (u2 : P.underlying f2.type = some (.int .u64)) (u3 : P.underlying f3.type = some (.int .u8)) (u4 : P.underlying f4.type = some (.slice te)) (ue : P.underlying te = some (.int .u8)) (ke : P.cellsOf te = 1)
    (hl : cs.length = 5) (h : DataW.trod enc P w base spare held n e cs = some y) :
    ∃ (r : RecT) (A : Option Addr) (c : Nat), cs = [.int .i64 r.seg, .int .i64 r.page, .int .u64 r.seq, .int .u8 r.kind, .slice A r.l.length c] ∧ kB.C w A r.l.length r.l ∧ r.l.length ≤ c ∧ RecTOk r := by
  obtain ⟨xs, m, _, _, _, hlen, hg⟩ := DataW.trod_struct he h
  match cs, hl, xs, hlen with
  | [c0, c1, c2, c3, c4], _, [y0, y1, y2, y3, y4], _ =>
    have s0 : DataW.trod enc P w base spare held m f0.type [c0] = some y0 := by simpa [o0, k0] using hg 0 f0 rfl
    have s1 : DataW.trod enc P w base spare held m f1.type [c1] = some y1 := by simpa [o1, k1] using hg 1 f1 rfl
    have s2 : DataW.trod enc P w base spare held m f2.type [c2] = some y2 := by simpa [o2, k2] using hg 2 f2 rfl
    have s3 : DataW.trod enc P w base spare held m f3.type [c3] = some y3 := by simpa [o3, k3] using hg 3 f3 rfl
    have s4 : DataW.trod enc P w base spare held m f4.type [c4] = some y4 := by simpa [o4, k4] using hg 4 f4 rfl
    obtain ⟨a0, z0, _, _⟩ := DataW.trod_int u0 s0
    obtain ⟨a1, z1, _, _⟩ := DataW.trod_int u1 s1
    obtain ⟨a2, z2, _, w2⟩ := DataW.trod_int u2 s2
    obtain ⟨a3, z3, _, w3⟩ := DataW.trod_int u3 s3
    obtain ⟨A, c, l, z4, hr, hc, _, hw⟩ := cell_ints u4 ue ke s4
    refine ⟨⟨a0, a1, a2, a3, l⟩, A, c, ?_, hr, hc, ⟨kind_of w3, seq_of w2, byt_of hw⟩⟩
    rw [List.head_eq_of_cons_eq z0, List.head_eq_of_cons_eq z1, List.head_eq_of_cons_eq z2, List.head_eq_of_cons_eq z3, List.head_eq_of_cons_eq z4]
theorem row_recs {t e te : TypeId} {f0 f1 f2 f3 f4 : Field} {A : Option Addr} {len c : Nat} {d : DataW H} {p : List MemPlace} (ht : P.underlying t = some (.slice e)) (he : P.underlying e = some (.struct #[f0, f1, f2, f3, f4])) (hC : P.cellsOf e = 5)
    (o0 : f0.offset = 0) (o1 : f1.offset = 1) (o2 : f2.offset = 2) (o3 : f3.offset = 3) (o4 : f4.offset = 4)
    (k0 : P.cellsOf f0.type = 1) (k1 : P.cellsOf f1.type = 1) (k2 : P.cellsOf f2.type = 1) (k3 : P.cellsOf f3.type = 1) (k4 : P.cellsOf f4.type = 1)
    (u0 : P.underlying f0.type = some (.int .i64)) (u1 : P.underlying f1.type = some (.int .i64)) (u2 : P.underlying f2.type = some (.int .u64)) (u3 : P.underlying f3.type = some (.int .u8)) (u4 : P.underlying f4.type = some (.slice te)) (ue : P.underlying te = some (.int .u8)) (ke : P.cellsOf te = 1)
    (h : DataW.Trod enc P w base spare held t (.slice A len c) d p) : ∃ rs : List RecT, len = rs.length ∧ RRow w A rs ∧ rs.length ≤ 9223372036854775807 ∧ ∀ r ∈ rs, RecTOk r := by
  obtain ⟨fuel, hf⟩ := h
  rcases open_slice ht hf with ⟨hcs, _⟩ | ⟨a, len', cap, m, n, D, Pl, hcs, hb, hl, hm, hmm, _, hel⟩
  · simp [Value.cells] at hcs
    obtain ⟨rfl, rfl, rfl⟩ := hcs
    exact ⟨[], rfl, fun i d hi => by simp at hi, by simp, by simp⟩
  · simp [Value.cells] at hcs
    obtain ⟨rfl, rfl, rfl⟩ := hcs
    have hlm : len ≤ m := by rw [hmm]; split <;> omega
    have each : ∀ i, ∃ x : RecT, i < len → RecTOk x ∧ ∃ A1 c1, kB.C w A1 x.l.length x.l ∧ x.l.length ≤ c1 ∧ w.cells? base (a.add (i * 5)) 5 = some [.int .i64 x.seg, .int .i64 x.page, .int .u64 x.seq, .int .u8 x.kind, .slice A1 x.l.length c1] := by
      intro i
      by_cases hi : i < len
      · obtain ⟨cs', h1, h2⟩ := hel i (by omega)
        rw [hC] at h1
        obtain ⟨x, A1, c1, rfl, h3, h4, h5⟩ := rec_cells he o0 o1 o2 o3 o4 k0 k1 k2 k3 k4 u0 u1 u2 u3 u4 ue ke (World.cells?_some h1).2.1 h2
        exact ⟨x, fun _ => ⟨h5, A1, c1, h3, h4, h1⟩⟩
      · exact ⟨⟨0, 0, 0, 0, []⟩, fun h => absurd h hi⟩
    refine ⟨(List.range len).map (fun i => Classical.choose (each i)), by simp, fun i d hi => ?_, by simp; unfold maxLen at hm; omega, fun d hd => ?_⟩
    · have hil : i < len := by
        have := (List.getElem?_eq_some_iff.1 hi).1
        simpa using this
      have hx : d = Classical.choose (each i) := by simpa [hil] using hi.symm
      obtain ⟨_, A1, c1, h1, h2, h3⟩ := Classical.choose_spec (each i) hil
      rw [← hx] at h1 h2 h3
      have h3 := (World.cells?_some h3).2.2
      have g0 := h3 0 (by omega)
      refine ⟨a, A1, c1, rfl, ?_, h3 1 (by omega), h3 2 (by omega), h3 3 (by omega), h3 4 (by omega), h1, h2⟩
      simpa [Addr.add] using g0
    · rw [List.mem_map] at hd
      obtain ⟨i, hi, rfl⟩ := hd
      exact (Classical.choose_spec (each i) (by simpa using hi)).1
end
end Go.Proofs.Ytmbiebdcnadhkaa.Fl
namespace Go.Proofs.Ytmbiebdcnadhkaa.Fl
open Go.RowKit Go.Proofs.YtmbiebdcnadhkaaW.PrintWords
theorem segment_scans_walk (a b c : Int) (A : Option Addr) (d : Nat) (ds : List DeedT) (B : Option Addr) (e : Nat) (rs : List RecT) (aa ab nn : Int) (W : World) (_ : (Lit.int .i64 a).wf = true) (_ : (Lit.int .i64 b).wf = true) (_ : (Lit.int .i64 c).wf = true) (hr : DRow W A ds) (h0 : ds.length ≤ 9223372036854775807) (hp : ∀ d ∈ ds, PlanOk d.P ∧ Byt d.l) (hq : RRow W B rs) (h1 : rs.length ≤ 9223372036854775807) (hk : ∀ r ∈ rs, RecTOk r) (_ : (Lit.int .i64 aa).wf = true) (_ : (Lit.int .i64 ab).wf = true) (hn : (Lit.int .i64 nn).wf = true) :
    Calls Try.prog 6 #[.agg #[.int .i64 a, .int .i64 b, .int .i64 c], .slice A ds.length d, .slice B rs.length e, .agg #[.int .i64 aa, .int .i64 ab], .int .i64 nn] W fun e w' => e = .returned (.bool true) ∧ Below W.heap.size W w' := by
  refine SegmentScans_any (a, b, c) aa ab nn hr h0 hp hq h1 hk ?_
  unfold Lit.wf at hn
  rw [Bool.and_eq_true, decide_eq_true_eq, decide_eq_true_eq] at hn
  have e1 : IntKind.min .i64 = -9223372036854775808 := by decide
  have e2 : IntKind.max .i64 = 9223372036854775807 := by decide
  rw [e1, e2] at hn
  exact hn
end Go.Proofs.Ytmbiebdcnadhkaa.Fl
