import Derived.Test.YtmbiebdcnadhkaaPkSegmentCrashC
import Derived.IntWalk
import Derived.Test.YtmbiebdcnadhkaaPkSegmentCrashA
import Derived.Lib.MinMax
namespace Go.Proofs.Ytmbiebdcnadhkaa.Fl
open Go.RowKit Go.Proofs.YtmbiebdcnadhkaaW.PrintWords Go.Proofs.YtmbiebdcnadhkaaW.PrintMore Go.Maps
set_option linter.unusedSimpArgs false
set_option linter.unusedVariables false
def nRaw (s : Int × Int × Int) (a b : Int) : Nat := if 0 ≤ a ∧ a < s.1 ∧ 0 ≤ b ∧ b < s.2.1 then (s.2.1 - b).toNat else 0
def rawK (D : PD) (a b : Int) (k : Nat) : List Int := (List.range k).flatMap fun (i : Nat) => gotD D a (b + (i : Int))
def rawD (D : PD) (a b : Int) : List Int := rawK D a b (nRaw D.s a b)
theorem rawK_succ (D : PD) (a b : Int) (k : Nat) : rawK D a b (k + 1) = rawK D a b k ++ gotD D a (b + (k : Int)) := by
  simp [rawK, List.range_succ]
theorem nRaw_le {s : Int × Int × Int} (hs : ShapeOk s) (a b : Int) : nRaw s a b ≤ 64 := by
  have := hs.b1
  unfold nRaw
  split <;> omega
theorem nRaw_lt {s : Int × Int × Int} {a b : Int} {i : Nat} (h : i < nRaw s a b) : hasB s a (b + (i : Int)) = true ∧ 0 ≤ b ∧ b + (i : Int) < 64 + s.2.1 := by
  unfold nRaw at h
  split at h
  · simp [hasB, fitsB]
    omega
  · omega
theorem nRaw_eq {s : Int × Int × Int} {a b : Int} (hb : 0 ≤ b) : hasB s a (b + (nRaw s a b : Int)) = false := by
  have h : ¬ (0 ≤ a ∧ a ≤ s.1 - 1 ∧ 0 ≤ b + (nRaw s a b : Int) ∧ b + (nRaw s a b : Int) ≤ s.2.1 - 1) := by
    unfold nRaw
    split <;> omega
  simp only [hasB, fitsB]
  rw [Bool.and_eq_false_iff]
  by_cases h1 : 0 ≤ a ∧ a ≤ s.1 - 1
  · exact .inr (decide_eq_false (by omega))
  · exact .inl (decide_eq_false h1)
theorem gotD_len {N0 p : Nat} {D : PD} {ok : Nat → Prop} {w : World} (hD : DevIs N0 p D ok w) (a b : Int) : (gotD D a b).length ≤ 256 := by
  obtain ⟨m, v, es, ck, hD⟩ := hD
  unfold gotD readD numB
  split
  · rw [full_length (look_len hD.lens _)]
    have := hD.shape.c1
    omega
  · simp
section
variable {N0 p : Nat} {D : PD} {w : World} {ok : Nat → Prop}
theorem rawK_len {a b : Int} (hl : ∀ x, (gotD D a x).length ≤ 256) : ∀ k, (rawK D a b k).length ≤ 256 * k
  | 0 => by simp [rawK]
  | k + 1 => by
    rw [rawK_succ, List.length_append]
    have := rawK_len (b := b) hl k
    have := hl (b + (k : Int))
    omega
set_option maxHeartbeats 2000000 in
set_option maxRecDepth 100000 in
theorem Raw_any (hD : DevIs N0 p D ok w) (a b : Int) : Calls Try.prog 43 #[.pointer (some ⟨p, 0, none⟩), .int .i64 a, .int .i64 b] w fun e w' => ∃ A c, e = .returned (.slice A (rawD D a b).length c) ∧ (rawD D a b).length ≤ c ∧ kB.C w' A (rawD D a b).length (rawD D a b) ∧ Below w.heap.size w w' := by
  have hs : ShapeOk D.s := by
    obtain ⟨m, v, es, ck, hD⟩ := hD
    exact hD.shape
  have hlen : ∀ k, (rawK D a b k).length ≤ 256 * k := rawK_len (gotD_len hD a)
  have hglen := gotD_len hD a
  have hrd := fun (V : World) (hV : Below w.heap.size w V) (x : Int) => Read_any (hD.below hV) a x
  have hn := nRaw_le hs a b
  have hnl := fun i => @nRaw_lt D.s a b i
  have hne := @nRaw_eq D.s a b
  unfold rawD
  obtain ⟨n, hnn⟩ : ∃ n, n = nRaw D.s a b := ⟨_, rfl⟩
  rw [← hnn] at hn hne hnl ⊢
  have hb1 := hs.b1
  have HLEN := Lib.hid hlen
  have HGL := Lib.hid hglen
  have HRD := Lib.hid hrd
  have HNL := Lib.hid hnl
  have HNE := Lib.hid hne
  clear hlen hglen hrd hnl hne hnn hs hD
  go_enter Try.func43, Try.ntmps43
  go_wp2
  go_loopw [2, 7] (fun v2 v7 wr => ∃ i : Nat, i ≤ n ∧ v2 = .int .i64 (b + (i : Int)) ∧ kB.R TB wr w.heap.size (fun k => w.heap.size ≤ k) v7 (rawK D a b i) ∧ Below w.heap.size w wr) (fun v2 _ _ => n - (intOf v2 - b).toNat)
  case atStart => exact ⟨0, Nat.zero_le _, by simp, Kd.R_nil _ _ _ _ _, Below.refl _ _⟩
  case round =>
    obtain ⟨i, hi, rfl, hR, hb⟩ := hrel
    obtain ⟨A7, c7, rfl⟩ := Kd.R_slice hR
    have HR := Aside0.mk hR
    have HB := Aside0.mk hb
    clear hR hb
    have hLn := HLEN.out i
    have HLN := Lib.hid hLn
    clear hLn
    by_cases hb0 : 0 ≤ b
    · have g0 : (0 : Int) ≤ b + (i : Int) := by omega
      by_cases hin : i < n
      · obtain ⟨hh, -, hlt⟩ := HNL.out i hin
        have he : hasE D.s a (b + (i : Int)) = 0 := by unfold hasE; rw [if_pos hh]
        have HG := Lib.hid (HGL.out (b + (i : Int)))
        clear hh
        go_wp2_with (first
          | (at_builtin; refine Kd.R_append_row (Value.int .u8) (0 : Int) (w0 := w) w.heap.size rfl (.tmp 21) (.tmp 22) 36 TB (.int .u8 0) 1 rfl Try.underlying36 info_u8 rfl (by decide) (.slice A7 (rawK D a b i).length c7) (rawK D a b i) (gotD D a (b + (i : Int))) _ _ _ (fun k => w.heap.size ≤ k) rfl rfl (fun k hk => Nat.le_trans HB2.out.size hk) HR2.out HC2.out HB2.out HB2.out.size (by have := HG.out; have := HLN.out; omega) ?_; intro v3 w3 ho3 hb3 hg3 hat3; clear hg3 hat3; have HO3 := Aside0.mk ho3; have HB3 := Aside0.mk hb3; clear ho3 hb3)
          | (go_at_call 60; (with_reducible refine (HRD.out _ HB.out _).mono ?_); rintro e w2 ⟨v, rfl, hrow, hb2⟩; obtain ⟨A8, c8, rfl, _, hC2⟩ := hrow.reads; have HR2 := Aside0.mk (Kd.R_below HR.out hb2); have HC2 := Aside0.mk hC2; have HB2 := Aside0.mk (HB.out.trans (hb2.mono HB.out.size)); clear hrow hb2 hC2; rw [he]))
        refine ⟨⟨i + 1, hin, by congr 1; push_cast; omega, by rw [rawK_succ]; exact HO3.out, HB3.out⟩, ?_⟩
        simp only [intOf]
        omega
      · have hii : i = n := by omega
        subst hii
        have he : hasE D.s a (b + (i : Int)) = 6 := by unfold hasE; rw [HNE.out hb0]; rfl
        have HG := Lib.hid (HGL.out (b + (i : Int)))
        go_wp2_with (go_at_call 60; (with_reducible refine (HRD.out _ HB.out _).mono ?_); rintro e w2 ⟨v, rfl, hrow, hb2⟩; obtain ⟨A8, c8, rfl, _, hC2⟩ := hrow.reads; have HR2 := Aside0.mk (Kd.R_below HR.out hb2); have HB2 := Aside0.mk (HB.out.trans (hb2.mono HB.out.size)); clear hrow hb2 hC2; rw [he])
        obtain ⟨A9, c9, e9, hc9, hC9⟩ := (Row.ofR HR2.out).reads
        cases e9
        have HC9 := Aside0.mk hC9
        have HCC := Lib.hid hc9
        clear hC9 hc9
        go_ret
        first | exact ⟨_, _, rfl, HCC.out, HC9.out, HB2.out⟩ | exact ⟨_, HCC.out, HC9.out, HB2.out⟩ | exact ⟨HCC.out, HC9.out, HB2.out⟩ | exact ⟨A7, ⟨c7, rfl⟩, HCC.out, HC9.out, HB2.out⟩ | exact ⟨_, _, ⟨rfl, rfl⟩, HCC.out, HC9.out, HB2.out⟩
    · have hn0 : n = 0 := by
        by_cases hn0 : 0 < n
        · exact absurd (HNL.out 0 hn0).2.1 hb0
        · omega
      have hii : i = n := by omega
      subst hii
      have g0 : ¬ (0 : Int) ≤ b + (i : Int) := by omega
      have g1 : decide ((0 : Int) ≤ b + (i : Int)) = false := decide_eq_false g0
      clear hn0
      obtain ⟨A9, c9, e9, hc9, hC9⟩ := (Row.ofR HR.out).reads
      cases e9
      have HC9 := Aside0.mk hC9
      have HCC := Lib.hid hc9
      clear hC9 hc9
      go_wp2
      go_ret
      first | exact ⟨_, _, rfl, HCC.out, HC9.out, HB.out⟩ | exact ⟨_, HCC.out, HC9.out, HB.out⟩ | exact ⟨A7, c7, rfl, HCC.out, HC9.out, HB.out⟩ | exact ⟨A7, ⟨c7, rfl⟩, HCC.out, HC9.out, HB.out⟩
end
end Go.Proofs.Ytmbiebdcnadhkaa.Fl
namespace Go.Proofs.Ytmbiebdcnadhkaa.Fl
open Go.RowKit Go.Proofs.YtmbiebdcnadhkaaW.PrintWords Go.Proofs.YtmbiebdcnadhkaaW.PrintMore Go.Maps
set_option linter.unusedSimpArgs false
set_option linter.unusedVariables false
def Dat (w : World) (base : Nat) (ok : Nat → Prop) (v : Value) (l : List Int) : Prop :=
  ∃ A c, v = .slice A l.length c ∧ l.length ≤ c ∧ l.length ≤ 9223372036854775807 ∧ (l = [] ∨ ∃ g off cs, A = some ⟨g, off, none⟩ ∧ base ≤ g ∧ ok g ∧ w.heap[g]? = some (.cells cs TB (0, 0)) ∧ ∀ j x, l[j]? = some x → cs[off + j]? = some (.int .u8 x))
section
variable {w w' : World} {base base' : Nat} {ok ok' : Nat → Prop} {v : Value} {l : List Int}
theorem Dat.nil (w : World) (base : Nat) (ok : Nat → Prop) : Dat w base ok (.slice none 0 0) [] := ⟨none, 0, rfl, Nat.le_refl _, by simp, .inl rfl⟩
theorem Dat.move (h : Dat w base ok v l) (hm : ∀ k, ok k → w'.heap[k]? = w.heap[k]?) : Dat w' base ok v l := by
  obtain ⟨A, c, h1, h2, h3, h4⟩ := h
  refine ⟨A, c, h1, h2, h3, h4.imp id ?_⟩
  rintro ⟨g, off, cs, e, hb, ho, hh, hc⟩
  exact ⟨g, off, cs, e, hb, ho, (hm g ho).trans hh, hc⟩
theorem Dat.mono (h : Dat w base ok v l) (hk : ∀ k, ok k → ok' k) : Dat w base ok' v l := by
  obtain ⟨A, c, h1, h2, h3, h4⟩ := h
  refine ⟨A, c, h1, h2, h3, h4.imp id ?_⟩
  rintro ⟨g, off, cs, e, hb, ho, hh, hc⟩
  exact ⟨g, off, cs, e, hb, hk g ho, hh, hc⟩
theorem Dat.lower (h : Dat w base ok v l) (hb : base' ≤ base) : Dat w base' ok v l := by
  obtain ⟨A, c, h1, h2, h3, h4⟩ := h
  refine ⟨A, c, h1, h2, h3, h4.imp id ?_⟩
  rintro ⟨g, off, cs, e, hg, ho, hh, hc⟩
  exact ⟨g, off, cs, e, by omega, ho, hh, hc⟩
theorem Dat.bound (h : Dat w base ok v l) : Dat w base (fun k => ok k ∧ base ≤ k ∧ k < w.heap.size ∧ ∃ q, q ∈ [TB] ∧ ∃ cells, w.heap[k]? = some (.cells cells q (0, 0))) v l := by
  obtain ⟨A, c, h1, h2, h3, h4⟩ := h
  refine ⟨A, c, h1, h2, h3, h4.imp id ?_⟩
  rintro ⟨g, off, cs, e, hg, ho, hh, hc⟩
  exact ⟨g, off, cs, e, hg, ⟨ho, hg, blt hh, TB, by simp, cs, hh⟩, hh, hc⟩
theorem Dat.step (h : Dat w base ok v l) (hm : ∀ k, ok k → k < w.heap.size → w'.heap[k]? = w.heap[k]?) : Dat w' base ok v l :=
  Dat.mono (Dat.move (Dat.bound h) (fun k hk => hm k hk.1 hk.2.2.1)) (fun _ hk => hk.1)
theorem Dat.below (h : Dat w base ok v l) (hb : Below w.heap.size w w') : Dat w' base ok v l := h.step (fun k _ hlt => hb.block k hlt)
theorem Dat.typed (h : Dat w base ok v l) (hm : ∀ k cs, w.heap[k]? = some (.cells cs TB (0, 0)) → ok k → w'.heap[k]? = w.heap[k]?) : Dat w' base ok v l :=
  Dat.mono (Dat.move (Dat.bound h) (fun k hk => by
    obtain ⟨h1, _, _, q, hq, cs, hc⟩ := hk
    obtain rfl : q = TB := by simpa using hq
    exact hm k cs hc h1)) (fun _ hk => hk.1)
theorem Dat.reads (h : Dat w base ok v l) : ∃ A c, v = .slice A l.length c ∧ l.length ≤ c ∧ kB.C w A l.length l := by
  obtain ⟨A, c, h1, h2, h3, h4⟩ := h
  refine ⟨A, c, h1, h2, Kd.C_of_reads (d := 0) ⟨rfl, h3, fun hn => ?_⟩⟩
  rcases h4 with rfl | ⟨g, off, cs, e, hg, ho, hh, hc⟩
  · simp at hn
  · refine ⟨_, e, fun j hj => ?_⟩
    have ha : (⟨g, off, none⟩ : Addr).add j = ⟨g, off + j, none⟩ := Addr.add_lit _ _ _
    rw [ha]
    have := hc j _ (List.getElem?_eq_getElem hj)
    simp [World.cell?, hh, this, List.getD_eq_getElem?_getD, hj]
theorem Dat.ofRow (h : Row w base ok v l) : Dat w base ok v l := by
  obtain ⟨A, c, h1, h2, h3, h4⟩ := h
  exact ⟨A, c, h1, h2, h3, h4.imp (fun h => h.2) id⟩
theorem Dat.ofR (h : kB.R TB w base ok v l) : Dat w base ok v l := Dat.ofRow (Row.ofR h)
theorem Dat.ofQ (h : kB.Q TB w base ok v l) : Dat w base ok v l := by
  obtain ⟨A, c, rfl, hlc, hC⟩ := Kd.Q_reads h
  obtain ⟨h0, inner, hq, hr⟩ := h
  have hm : l.length ≤ 9223372036854775807 := hC.2.1
  refine ⟨A, c, rfl, hlc, hm, ?_⟩
  rcases hq.2 with ⟨hn, _⟩ | ⟨g, off, cap, cur, e, hg, hh, hle, hmx, hs, ht⟩
  · exact .inl (List.eq_nil_of_length_eq_zero hn)
  · injection e with e1 e2 e3
    subst e1
    refine .inr ⟨g, off * 1, cur, rfl, hg, h0 g (by simp [Value.ownBlock]), hh, fun j x hj => ?_⟩
    have h3 := hr.2 j x hj
    have h4 : (inner.drop (j * 1)).take 1 = [.int .u8 x] := h3
    have h5 : inner[j]? = some (.int .u8 x) := by
      have := congrArg (fun l => l[0]?) h4
      simpa using this
    rw [← ht, List.getElem?_take] at h5
    split at h5
    · rw [List.getElem?_drop] at h5
      have h6 : cur.toList[off * 1 + j]? = some (Value.int .u8 x) := h5
      simpa using h6
    · cases h5
end
def kDat : Kd (List Int) where
  sz := 1
  E := [TB]
  K := fun w xs cs => ∃ A c, cs = [.slice A xs.length c] ∧ xs.length ≤ c ∧ kB.C w A xs.length xs
  M := fun w base ok xs cs => ∃ v, cs = [v] ∧ Dat w base ok v xs
  K_len := by
    rintro w x cs ⟨A, c, rfl, _⟩
    rfl
  K_one := by
    rintro w x cs ⟨A, c, rfl, _⟩ u hu
    rw [List.mem_singleton.1 hu]
    rfl
  K_below := by
    rintro w w1 x cs hb ⟨A, c, rfl, hl, hr⟩
    exact ⟨A, c, rfl, hl, Kd.C_below hr hb⟩
  K_of_M := by
    rintro w base ok x cs ⟨v, rfl, h⟩
    obtain ⟨A, c, rfl, hl, hr⟩ := h.reads
    exact ⟨A, c, rfl, hl, hr⟩
  M_mono := by
    rintro w base ok ok' x cs hok ⟨v, rfl, h⟩
    exact ⟨v, rfl, h.mono hok⟩
  M_bound := by
    rintro w base ok x cs ⟨v, rfl, h⟩
    exact ⟨v, rfl, h.bound⟩
  M_move := by
    rintro w w1 base ok x cs hm ⟨v, rfl, h⟩
    exact ⟨v, rfl, h.move hm⟩
  M_lower := by
    rintro w base base' ok x cs hb ⟨v, rfl, h⟩
    exact ⟨v, rfl, h.lower hb⟩
structure En where
  a : Int
  b : Int
  seq : Int
  pages : Int
  kind : Int
  data : List Int
def zEn : En := ⟨0, 0, 0, 0, 0, []⟩
abbrev TE : TypeId := 47
def enC (e : En) (v : Value) : List Value := [.int .i64 e.a, .int .i64 e.b, .int .u64 e.seq, .int .i64 e.pages, .int .u8 e.kind, v]
def kEnt : Kd En where
  sz := 6
  E := [TB]
  K := fun w e cs => ∃ A c, cs = enC e (.slice A e.data.length c) ∧ e.data.length ≤ c ∧ kB.C w A e.data.length e.data
  M := fun w base ok e cs => ∃ v, cs = enC e v ∧ Dat w base ok v e.data
  K_len := by
    rintro w x cs ⟨A, c, rfl, _⟩
    rfl
  K_one := by
    rintro w x cs ⟨A, c, rfl, _⟩ u hu
    simp only [enC, List.mem_cons, List.not_mem_nil, or_false] at hu
    rcases hu with rfl | rfl | rfl | rfl | rfl | rfl <;> rfl
  K_below := by
    rintro w w1 x cs hb ⟨A, c, rfl, hl, hr⟩
    exact ⟨A, c, rfl, hl, Kd.C_below hr hb⟩
  K_of_M := by
    rintro w base ok x cs ⟨v, rfl, h⟩
    obtain ⟨A, c, rfl, hl, hr⟩ := h.reads
    exact ⟨A, c, rfl, hl, hr⟩
  M_mono := by
    rintro w base ok ok' x cs hok ⟨v, rfl, h⟩
    exact ⟨v, rfl, h.mono hok⟩
  M_bound := by
    rintro w base ok x cs ⟨v, rfl, h⟩
    exact ⟨v, rfl, h.bound⟩
  M_move := by
    rintro w w1 base ok x cs hm ⟨v, rfl, h⟩
    exact ⟨v, rfl, h.move hm⟩
  M_lower := by
    rintro w base base' ok x cs hb ⟨v, rfl, h⟩
    exact ⟨v, rfl, h.lower hb⟩
theorem info_ent : (Try.prog.info? TE).map (fun i => (i.zero, i.size, i.bytes)) = some (some (.agg #[.int .i64 0, .int .i64 0, .int .u64 0, .int .i64 0, .int .u8 0, .slice none 0 0]), 6, 64) := by kernel_rfl
def parsed (l : List Int) : Int × Int × List Int × Int × Int := Go.Proofs.Ytmbiebdcnadhkaa.FrameFacts.parsed l
def entL (s : Int × Int × Int) (a b : Int) (raw : List Int) : En × Int :=
  if hasB s a b = false then (zEn, 6) else if (parsed raw).2.2.2.2 = 0 then (⟨a, b, (parsed raw).2.1, (kpg s ((parsed raw).2.2.2.1 - 16).toNat : Int), (parsed raw).1, (parsed raw).2.2.1⟩, 0) else (zEn, (parsed raw).2.2.2.2)
structure ParsedOk (raw : List Int) : Prop where
  n : ∃ m : Nat, (parsed raw).2.2.2.1 = (m : Int) + 16 ∧ m ≤ 4096 ∧ m + 16 ≤ raw.length ∧ (parsed raw).2.2.1.length = m
theorem parsed_ok {raw : List Int} (h : (parsed raw).2.2.2.2 = 0) : ParsedOk raw := by
  unfold parsed Go.Proofs.Ytmbiebdcnadhkaa.FrameFacts.parsed at h
  by_cases hh : Go.Proofs.Ytmbiebdcnadhkaa.FrameFacts.head raw = 0
  · rw [if_pos hh] at h
    obtain ⟨_, h16, h4, h5⟩ := Go.Proofs.Ytmbiebdcnadhkaa.FrameFacts.head_zero hh
    split at h
    · rename_i hs
      refine ⟨Go.Proofs.Ytmbiebdcnadhkaa.FrameFacts.dl raw, ?_, h4, h5, ?_⟩
      · unfold parsed Go.Proofs.Ytmbiebdcnadhkaa.FrameFacts.parsed
        rw [if_pos hh, if_pos hs]
        simp
      · unfold parsed Go.Proofs.Ytmbiebdcnadhkaa.FrameFacts.parsed
        rw [if_pos hh, if_pos hs]
        simp only [List.length_drop, List.length_take]
        omega
    · simp at h
  · rw [if_neg hh] at h
    exact absurd h hh
def ParsedN (raw : List Int) (n : Int) (d : List Int) : Prop := ∃ m : Nat, n = (m : Int) + 16 ∧ m ≤ 4096 ∧ m + 16 ≤ raw.length ∧ d.length = m
theorem parsed_n {raw : List Int} (h : (parsed raw).2.2.2.2 = 0) : ParsedN raw (parsed raw).2.2.2.1 (parsed raw).2.2.1 := (parsed_ok h).n
def scanF (E : Int → En × Int) (n sq : Int) : Nat → Int → List En
  | 0, _ => []
  | f + 1, page => if 0 ≤ page ∧ page < n then (if (E page).2 ≠ 0 ∨ (E page).1.kind = 1 ∨ (E page).1.seq ≠ sq then [] else (E page).1 :: scanF E n sq f (page + (E page).1.pages)) else []
def scanL (E : Int → En × Int) (n : Int) : Int × List En × Bool :=
  if (E 0).2 ≠ 0 ∨ (E 0).1.kind ≠ 1 ∨ 0 < (E 0).1.data.length then (0, [], false) else ((E 0).1.seq, scanF E n (E 0).1.seq 64 (E 0).1.pages, true)
def entD (D : PD) (a b : Int) : En × Int := entL D.s a b (rawD D a b)
def scanD (D : PD) (a : Int) : Int × List En × Bool := scanL (entD D a) D.s.2.1
def BytD (D : PD) : Prop := ∀ a b, Byt (gotD D a b)
theorem BytD.raw {D : PD} (h : BytD D) (a b : Int) : Byt (rawD D a b) := by
  intro x hx
  unfold rawD rawK at hx
  rw [List.mem_flatMap] at hx
  obtain ⟨i, _, hi⟩ := hx
  exact h _ _ x hi
section
variable {w : World} {A : Option Addr} {c : Nat} {l : List Int}
theorem Get_ok (hl : Byt l) (hm : l.length ≤ 800000) (h : kB.C w A l.length l) (hc : l.length ≤ c) :
    Calls Try.prog 83 #[.slice A l.length c] w fun e w' => ∃ v, e = .returned (.tuple #[.agg #[.int .u8 (parsed l).1, .int .u64 (parsed l).2.1, v], .int .i64 (parsed l).2.2.2.1, .int .i64 (parsed l).2.2.2.2]) ∧ Dat w' w.heap.size (fun k => w.heap.size ≤ k) v (parsed l).2.2.1 ∧ Below w.heap.size w w' := by
  refine (Go.Proofs.Ytmbiebdcnadhkaa.QFrame.frame_Get.calls (l.length + 40) A c l (parsed l).1 (parsed l).2.1 (parsed l).2.2.1 (parsed l).2.2.2.1 (parsed l).2.2.2.2 w h hc (Go.Proofs.Ytmbiebdcnadhkaa.FrameFacts.get_is _ l hl hm (Nat.le_refl _))).mono fun e w' ⟨v, e1, hq, hb⟩ => ⟨v, e1, ?_, hb⟩
  exact (Dat.ofQ (Kd.Q_mono (Kd.Q_bound hq) (ok' := fun k => w.heap.size ≤ k) (fun k hk => hk.2.1)))
theorem Parse_ok (hl : Byt l) (hm : l.length ≤ 800000) (h : kB.C w A l.length l) (hc : l.length ≤ c) :
    Calls Try.prog 84 #[.slice A l.length c] w fun e w' => ∃ v, e = .returned (.tuple #[.agg #[.int .u8 (parsed l).1, .int .u64 (parsed l).2.1, v], .int .i64 (parsed l).2.2.2.1, .int .i64 (parsed l).2.2.2.2]) ∧ Dat w' w.heap.size (fun k => w.heap.size ≤ k) v (parsed l).2.2.1 ∧ Below w.heap.size w w' := by
  refine (Go.Proofs.Ytmbiebdcnadhkaa.QFrame.spenceref11_Parse.calls (l.length + 40 + 3) A c l (parsed l).1 (parsed l).2.1 (parsed l).2.2.1 (parsed l).2.2.2.1 (parsed l).2.2.2.2 w h hc (Go.Proofs.Ytmbiebdcnadhkaa.FrameFacts.parse_is _ l hl hm (Nat.le_refl _))).mono fun e w' ⟨v, e1, hq, hb⟩ => ⟨v, e1, ?_, hb⟩
  exact (Dat.ofR (Kd.R_mono (Kd.R_bound hq) (ok' := fun k => w.heap.size ≤ k) (fun k hk => hk.2.1)))
end
end Go.Proofs.Ytmbiebdcnadhkaa.Fl
namespace Go.Proofs.Ytmbiebdcnadhkaa.Fl
open Go.RowKit Go.Proofs.YtmbiebdcnadhkaaW.PrintWords Go.Proofs.YtmbiebdcnadhkaaW.PrintMore Go.Maps
set_option linter.unusedSimpArgs false
set_option linter.unusedVariables false
def EntPost (w : World) (r : En × Int) (e : Ending) (w' : World) : Prop :=
  ∃ v, e = .returned (.tuple #[.agg #[.int .i64 r.1.a, .int .i64 r.1.b, .int .u64 r.1.seq, .int .i64 r.1.pages, .int .u8 r.1.kind, v], .int .i64 r.2]) ∧ Dat w' w.heap.size (fun k => w.heap.size ≤ k) v r.1.data ∧ Below w.heap.size w w'
theorem ent_cells {X : World} {g : Nat} {T : TypeId} {c0 c1 c2 c3 c4 c5 : Value} (h : X.heap[g]? = some (.cells #[c0, c1, c2, c3, c4, c5] T (0, 0))) :
    X.cell? ⟨g, 0, none⟩ = some c0 ∧ X.cell? ⟨g, 1, none⟩ = some c1 ∧ X.cell? ⟨g, 2, none⟩ = some c2 ∧ X.cell? ⟨g, 3, none⟩ = some c3 ∧ X.cell? ⟨g, 4, none⟩ = some c4 ∧ X.cell? ⟨g, 5, none⟩ = some c5 ∧
    X.frozen? ⟨g, 0, none⟩ = false ∧ X.frozen? ⟨g, 1, none⟩ = false ∧ X.frozen? ⟨g, 2, none⟩ = false ∧ X.frozen? ⟨g, 3, none⟩ = false ∧ X.frozen? ⟨g, 4, none⟩ = false ∧ X.frozen? ⟨g, 5, none⟩ = false :=
  ⟨bcell h 0, bcell h 1, bcell h 2, bcell h 3, bcell h 4, bcell h 5, bfrozen h 0, bfrozen h 1, bfrozen h 2, bfrozen h 3, bfrozen h 4, bfrozen h 5⟩
theorem set6 {B : Nat} {w X : World} {g : Nat} (h : Below B w X) (hg : B ≤ g) (c0 c1 c2 c3 c4 c5 : Value) : Below B w ((((((X.setCell ⟨g, 0, none⟩ c0).setCell ⟨g, 1, none⟩ c1).setCell ⟨g, 2, none⟩ c2).setCell ⟨g, 3, none⟩ c3).setCell ⟨g, 4, none⟩ c4).setCell ⟨g, 5, none⟩ c5) :=
  (((((h.setCell hg c0).setCell hg c1).setCell hg c2).setCell hg c3).setCell hg c4).setCell hg c5
theorem set6_blk {X : World} {g : Nat} {T : TypeId} {o0 o1 o2 o3 o4 o5 : Value} (h : X.heap[g]? = some (.cells #[o0, o1, o2, o3, o4, o5] T (0, 0))) (c0 c1 c2 c3 c4 c5 : Value) :
    ((((((X.setCell ⟨g, 0, none⟩ c0).setCell ⟨g, 1, none⟩ c1).setCell ⟨g, 2, none⟩ c2).setCell ⟨g, 3, none⟩ c3).setCell ⟨g, 4, none⟩ c4).setCell ⟨g, 5, none⟩ c5).heap[g]? = some (.cells #[c0, c1, c2, c3, c4, c5] T (0, 0)) :=
  bset (bset (bset (bset (bset (bset h 0 c0) 1 c1) 2 c2) 3 c3) 4 c4) 5 c5
theorem post_world {P : Program} {f : Func} {Q : Ending → World → Prop} {ex : Exit} {a : Act} {W : World} (Pr : World → Prop) (h : Pr W) (k : ∀ Y, Pr Y → bodyPost P f Q ex a Y) : bodyPost P f Q ex a W := k W h
def EndE (w : World) (e : En) (v : Value) (Y : World) : Prop := Y.heap[w.heap.size + 1]? = some (.cells #[.int .i64 e.a, .int .i64 e.b, .int .u64 e.seq, .int .i64 e.pages, .int .u8 e.kind, v] TE (0, 0)) ∧ Dat Y w.heap.size (fun k => w.heap.size ≤ k) v e.data ∧ Below w.heap.size w Y
theorem EndE.zero {w X : World} {o0 o1 o2 o3 o4 o5 : Value} (h : X.heap[w.heap.size + 1]? = some (.cells #[o0, o1, o2, o3, o4, o5] TE (0, 0))) (hb : Below w.heap.size w X) :
    EndE w zEn (.slice none 0 0) ((((((X.setCell ⟨w.heap.size + 1, 0, none⟩ (.int .i64 0)).setCell ⟨w.heap.size + 1, 1, none⟩ (.int .i64 0)).setCell ⟨w.heap.size + 1, 2, none⟩ (.int .u64 0)).setCell ⟨w.heap.size + 1, 3, none⟩ (.int .i64 0)).setCell ⟨w.heap.size + 1, 4, none⟩ (.int .u8 0)).setCell ⟨w.heap.size + 1, 5, none⟩ (.slice none 0 0)) :=
  ⟨set6_blk h _ _ _ _ _ _, Dat.nil _ _ _, set6 hb (by omega) _ _ _ _ _ _⟩
theorem EndE.alloc {w X : World} {e : En} {v : Value} (h : EndE w e v X) (o : Obj) : EndE w e v (X.alloc o) :=
  ⟨(Below.heap_alloc _ _ _ (blt h.1)).trans h.1, h.2.1.below (below_alloc (Below.refl _ _) _), below_alloc h.2.2 _⟩
theorem EndE.drew {w X : World} {e : En} {v : Value} (h : EndE w e v X) : EndE w e v X.drew :=
  ⟨h.1, h.2.1.below ((Below.refl _ X).drew), h.2.2.drew⟩
theorem EndE.put {w X : World} {o0 o1 o2 o3 o4 o5 v : Value} (e : En) (h : X.heap[w.heap.size + 1]? = some (.cells #[o0, o1, o2, o3, o4, o5] TE (0, 0))) (hb : Below w.heap.size w X) (hd : Dat X w.heap.size (fun k => w.heap.size ≤ k) v e.data) :
    EndE w e v ((((((X.setCell ⟨w.heap.size + 1, 0, none⟩ (.int .i64 e.a)).setCell ⟨w.heap.size + 1, 1, none⟩ (.int .i64 e.b)).setCell ⟨w.heap.size + 1, 2, none⟩ (.int .u64 e.seq)).setCell ⟨w.heap.size + 1, 3, none⟩ (.int .i64 e.pages)).setCell ⟨w.heap.size + 1, 4, none⟩ (.int .u8 e.kind)).setCell ⟨w.heap.size + 1, 5, none⟩ v) := by
  refine ⟨set6_blk h _ _ _ _ _ _, hd.typed (fun k cs hk _ => ?_), set6 hb (by omega) _ _ _ _ _ _⟩
  have hne : k ≠ w.heap.size + 1 := not_typ h (by decide) hk
  rw [Below.heap_setCell _ _ _ _ hne, Below.heap_setCell _ _ _ _ hne, Below.heap_setCell _ _ _ _ hne, Below.heap_setCell _ _ _ _ hne, Below.heap_setCell _ _ _ _ hne, Below.heap_setCell _ _ _ _ hne]
section
variable {N0 p : Nat} {D : PD} {w : World} {ok : Nat → Prop}
set_option maxHeartbeats 2000000 in
set_option maxRecDepth 100000 in
theorem Read_ent (hD : DevIs N0 p D ok w) (hby : BytD D) (a b : Int) : Calls Try.prog 38 #[.pointer (some ⟨p, 0, none⟩), .agg #[.int .i64 a, .int .i64 b]] w (EntPost w (entD D a b)) := by
  have hs : ShapeOk D.s := by
    obtain ⟨m, v, es, ck, hD⟩ := hD
    exact hD.shape
  obtain ⟨W, hW⟩ : ∃ W, W = (w.alloc (.cells #[.int .i64 a, .int .i64 b] TA)).alloc (.cells #[.int .i64 0, .int .i64 0, .int .u64 0, .int .i64 0, .int .u8 0, .slice none 0 0] TE) := ⟨_, rfl⟩
  have q0 : W.heap[w.heap.size]? = some (.cells #[.int .i64 a, .int .i64 b] TA (0, 0)) := by
    rw [hW]; exact (Below.heap_alloc _ _ _ (by simp)).trans (blk_new w _)
  have q1 : W.heap[w.heap.size + 1]? = some (.cells #[.int .i64 0, .int .i64 0, .int .u64 0, .int .i64 0, .int .u8 0, .slice none 0 0] TE (0, 0)) := by
    rw [hW]; have := blk_new (w.alloc (.cells #[.int .i64 a, .int .i64 b] TA)) (.cells #[.int .i64 0, .int .i64 0, .int .u64 0, .int .i64 0, .int .u8 0, .slice none 0 0] TE); rwa [World.size_alloc] at this
  have qb : Below w.heap.size w W := by rw [hW]; exact below_alloc (below_alloc (Below.refl _ _) _) _
  have hbox : ∀ X : World, Below W.heap.size W X → X.heap[w.heap.size]? = some (.cells #[.int .i64 a, .int .i64 b] TA (0, 0)) ∧ X.heap[w.heap.size + 1]? = some (.cells #[.int .i64 0, .int .i64 0, .int .u64 0, .int .i64 0, .int .u8 0, .slice none 0 0] TE (0, 0)) := fun X hX =>
    ⟨(hX.block _ (blt q0)).trans q0, (hX.block _ (blt q1)).trans q1⟩
  have hth := there_any (hD.below qb) a b
  have hraw := fun (X : World) (hX : Below W.heap.size W X) => Raw_any ((hD.below qb).below hX) a b
  have hshape := fun (X : World) (hX : Below W.heap.size W X) => Shape_any ((hD.below qb).below hX)
  have k0 : W.cell? ⟨w.heap.size, 0, none⟩ = some (.int .i64 a) := bcell q0 0
  have k1 : W.cell? ⟨w.heap.size, 1, none⟩ = some (.int .i64 b) := bcell q0 1
  have hrl : (rawD D a b).length ≤ 16384 := by
    have h1 := rawK_len (b := b) (gotD_len hD a) (nRaw D.s a b)
    have h2 := nRaw_le hs a b
    unfold rawD
    omega
  have hrb := hby.raw a b
  have HBOX := Lib.hid hbox
  have HTH := Lib.hid hth
  have HRAW := Lib.hid hraw
  have HSHP := Lib.hid hshape
  have HS := Lib.hid hs
  have HRL := Lib.hid hrl
  have HRB := Lib.hid hrb
  have HW := Lib.hid hW
  have QB := Aside0.mk qb
  have QS := Lib.hid (show w.heap.size + 1 < W.heap.size from blt q1)
  clear hbox hth hraw hshape hs hrl hrb hW qb q0 q1 hD hby
  cases hb : hasB D.s a b with
  | false =>
    have hE : entD D a b = (zEn, 6) := by unfold entD entL; rw [if_pos hb]
    have hTE : hasE D.s a b = 6 := by unfold hasE; rw [hb]; rfl
    have HTE := Lib.hid hTE
    rw [hE]
    clear hE hTE hb
    go_enter Try.func38, Try.ntmps38
    go_wp2_with fail
    rw [← HW.out]
    go_wp2_with (go_at_call 54; (with_reducible refine HTH.out.mono ?_); rw [HTE.out]; rintro e w1 ⟨rfl, hb⟩; obtain ⟨z0, z1⟩ := HBOX.out _ hb; obtain ⟨t0, t1, t2, t3, t4, t5, f0, f1, f2, f3, f4, f5⟩ := ent_cells z1; have HB1 := Aside0.mk hb; have Z1 := Lib.hid z1; clear hb z0 z1)
    refine post_world (EndE w zEn (.slice none 0 0)) (EndE.zero Z1.out (QB.out.trans (HB1.out.mono QB.out.size))) ?_
    rintro Y ⟨y, hd, hb⟩
    obtain ⟨t0, t1, t2, t3, t4, t5, -⟩ := ent_cells y
    exact bodyPost_ret (v := .tuple #[.agg #[.int .i64 0, .int .i64 0, .int .u64 0, .int .i64 0, .int .u8 0, .slice none 0 0], .int .i64 6]) (by simp [results, Try.results38, go_sem, t0, t1, t2, t3, t4, t5, zEn]) rfl ⟨_, rfl, hd, hb⟩
  | true =>
    have hTE : hasE D.s a b = 0 := by unfold hasE; rw [hb]; rfl
    have HTE := Lib.hid hTE
    obtain ⟨n, hn⟩ : ∃ n, n = (rawD D a b).length := ⟨_, rfl⟩
    have hget := fun (X : World) (A : Option Addr) (c : Nat) (hC : kB.C X A n (rawD D a b)) (hc : n ≤ c) => Get_ok (w := X) (A := A) (c := c) HRB.out (by have := HRL.out; omega) (by rw [← hn]; exact hC) (by rw [← hn]; exact hc)
    rw [← hn] at hget
    have hraw := HRAW.out
    rw [← hn] at hraw
    have HRW := Lib.hid hraw
    have hnl : n ≤ 16384 := by have := HRL.out; omega
    have hP : entD D a b = if (parsed (rawD D a b)).2.2.2.2 = 0 then (⟨a, b, (parsed (rawD D a b)).2.1, (kpg D.s ((parsed (rawD D a b)).2.2.2.1 - 16).toNat : Int), (parsed (rawD D a b)).1, (parsed (rawD D a b)).2.2.1⟩, 0) else (zEn, (parsed (rawD D a b)).2.2.2.2) := by unfold entD entL; rw [if_neg (by rw [hb]; decide)]
    have hok : (parsed (rawD D a b)).2.2.2.2 = 0 → ParsedN (rawD D a b) (parsed (rawD D a b)).2.2.2.1 (parsed (rawD D a b)).2.2.1 := fun h => parsed_n h
    clear hTE hn hraw hb HRAW
    rw [hP]
    clear hP
    generalize hPE : parsed (rawD D a b) = P at hget hok ⊢
    obtain ⟨kd, sq, d, pn, er⟩ := P
    simp only at hget hok ⊢
    have HGET := Lib.hid hget
    clear hget
    by_cases he : er = 0
    · subst he
      obtain ⟨m, hm1, hm2, hm3, hm4⟩ := hok rfl
      obtain ⟨nb, hnb⟩ := Int.eq_ofNat_of_zero_le (show 0 ≤ D.s.2.2 by have := HS.out.c0; omega)
      have hnb0 : 16 ≤ nb := by have := HS.out.c0; omega
      have hnb1 : nb ≤ 256 := by have := HS.out.c1; omega
      have hkp : (((m : Int) + 16 + (nb : Int) - 1) / (nb : Int)) = (kpg D.s (pn - 16).toNat : Int) := by
        unfold kpg
        rw [hnb, hm1]
        simp only [Int.toNat_natCast, Int.add_sub_cancel]
        rw [Int.natCast_ediv]
        congr 1
        omega
      have hshp := HSHP.out
      rw [hnb] at hshp
      rw [if_pos rfl]
      subst hm1
      have HKP := Lib.hid hkp
      have HSH := Lib.hid hshp
      have HM3 := Lib.hid hm3
      have HM4 := Lib.hid hm4
      have hw1 : IntKind.i64.wrap ((m : Int) + 16 + (nb : Int)) = (m : Int) + 16 + (nb : Int) := IntWalk.i64_in _ (by omega)
      have hw2 : IntKind.i64.wrap ((m : Int) + 16 + (nb : Int) - 1) = (m : Int) + 16 + (nb : Int) - 1 := IntWalk.i64_in _ (by omega)
      have HW1 := Lib.hid hw1
      have HW2 := Lib.hid hw2
      have rs := fun (X : World) => run_shape3 X D.s.1 D.s.2.1 (nb : Int)
      clear hPE hok hshp hkp hnb HSHP hm3 hm4 hw1 hw2
      go_enter Try.func38, Try.ntmps38
      go_wp2_with fail
      rw [← HW.out]
      go_wp2_with (first
        | (go_at_call 54; (with_reducible refine HTH.out.mono ?_); rw [HTE.out]; rintro e w1 ⟨rfl, hb⟩; obtain ⟨z0, z1⟩ := HBOX.out _ hb; have k0 : w1.cell? ⟨w.heap.size, 0, none⟩ = some (.int .i64 a) := bcell z0 0; have k1 : w1.cell? ⟨w.heap.size, 1, none⟩ = some (.int .i64 b) := bcell z0 1; have HB1 := Aside0.mk hb; clear hb z0 z1)
        | (go_at_call 43; (with_reducible refine (HRW.out _ HB1.out).mono ?_); rintro e w2 ⟨A2, c2, rfl, hc2, hC2, hb⟩; have HB2 := Aside0.mk (HB1.out.trans (hb.mono HB1.out.size)); have HC2 := Aside0.mk hC2; have HCC := Lib.hid hc2; clear hb hC2 hc2)
        | (go_at_call 83; (with_reducible refine (HGET.out _ _ _ HC2.out HCC.out).mono ?_); rintro e w3 ⟨v3, rfl, hd3, hb⟩; obtain ⟨A3, c3, rfl, -, -⟩ := hd3.reads; have HB3 := Aside0.mk (HB2.out.trans (hb.mono HB2.out.size)); have HD3 := Aside0.mk (Dat.mono (Dat.lower hd3 (Nat.le_trans QB.out.size HB2.out.size)) (fun k hk => Nat.le_trans (Nat.le_trans QB.out.size HB2.out.size) hk)); clear hb hd3)
        | (go_at_call 56; (with_reducible refine (HSH.out _ (below_alloc HB3.out _)).mono ?_); rintro e w4 ⟨rfl, hb⟩; have z2 := (hb.block _ (blt (blk_new _ _))).trans (blk_new _ _); have HB4 := Aside0.mk ((below_alloc HB3.out _).trans (hb.mono (below_alloc HB3.out _).size)); have hz3 : w.heap.size + 1 < w3.heap.size := Nat.lt_of_lt_of_le QS.out HB3.out.size; have HD4 := Aside0.mk (HD3.out.below ((below_alloc (Below.refl _ _) _).trans (hb.mono (by simp)))); obtain ⟨z0, z1⟩ := HBOX.out _ HB4.out; have k0 : w4.cell? ⟨w.heap.size, 0, none⟩ = some (.int .i64 a) := bcell z0 0; have k1 : w4.cell? ⟨w.heap.size, 1, none⟩ = some (.int .i64 b) := bcell z0 1; have g0 : w4.cell? ⟨w3.heap.size, 0, none⟩ = some (.int .u8 kd) := bcell z2 0; have g1 : w4.cell? ⟨w3.heap.size, 1, none⟩ = some (.int .u64 sq) := bcell z2 1; have g2 : w4.cell? ⟨w3.heap.size, 2, none⟩ = some (.slice A3 d.length c3) := bcell z2 2; obtain ⟨t0, t1, t2, t3, t4, t5, f0, f1, f2, f3, f4, f5⟩ := ent_cells z1; have Z1 := Lib.hid z1; clear hb z0 z1 z2))
      clear rs
      have hw1 := HW1.out
      have hw2 := HW2.out
      have hne1 : ¬ w3.heap.size = w.heap.size + 1 := by omega
      have hne2 : ¬ w.heap.size + 1 = w3.heap.size := by omega
      have hi0 : (0 : Int) < (nb : Int) := by omega
      have hi1 : (16 : Int) ≤ (nb : Int) := by omega
      have hi2 : (0 : Int) ≤ (m : Int) + 16 + (nb : Int) - 1 := by omega
      have hi3 : ¬ (nb : Int) = 0 := by omega
      have hi4 : ((nb : Int) == 0) = false := by simp; omega
      have hi5 : ¬ nb = 0 := by omega
      have hq : ((m : Int) + 16 + (nb : Int) - 1).tdiv (nb : Int) = ((m : Int) + 16 + (nb : Int) - 1) / (nb : Int) := Int.tdiv_eq_ediv_of_nonneg hi2
      have hq2 : ((m : Int) + 16 + (nb : Int) - 1) / (nb : Int) ≤ (m : Int) + 16 + (nb : Int) - 1 := Int.ediv_le_self _ hi2
      have hq3 : 0 ≤ ((m : Int) + 16 + (nb : Int) - 1) / (nb : Int) := Int.ediv_nonneg hi2 (by omega)
      have hw5 : IntKind.i64.wrap (((m : Int) + 16 + (nb : Int) - 1) / (nb : Int)) = ((m : Int) + 16 + (nb : Int) - 1) / (nb : Int) := IntWalk.i64_in _ (by omega)
      go_region_held3 (fun w' => w'.cell? ⟨w.heap.size, 0, none⟩ = some (.int .i64 a) ∧ w'.cell? ⟨w.heap.size, 1, none⟩ = some (.int .i64 b) ∧ w'.cell? ⟨w3.heap.size, 0, none⟩ = some (.int .u8 kd) ∧ w'.cell? ⟨w3.heap.size, 1, none⟩ = some (.int .u64 sq) ∧ w'.cell? ⟨w3.heap.size, 2, none⟩ = some (.slice A3 d.length c3)) (go_keep) (fail)
      clear hw1 hw2 hq hq2 hq3 hw5
      go_wp2
      refine post_world (EndE w ⟨a, b, sq, (m + 16 + nb - 1) / nb, kd, d⟩ (.slice A3 d.length c3)) (EndE.drew (EndE.put ⟨a, b, sq, (m + 16 + nb - 1) / nb, kd, d⟩ Z1.out (QB.out.trans (HB4.out.mono QB.out.size)) HD4.out)) ?_
      rintro Y ⟨y, hd, hb⟩
      simp only at y hd
      rw [HKP.out] at y
      obtain ⟨t0, t1, t2, t3, t4, t5, -⟩ := ent_cells y
      exact bodyPost_ret (v := .tuple #[.agg #[.int .i64 a, .int .i64 b, .int .u64 sq, .int .i64 (kpg D.s ((m : Int) + 16 - 16).toNat : Int), .int .u8 kd, .slice A3 d.length c3], .int .i64 0]) (by simp [results, Try.results38, go_sem, t0, t1, t2, t3, t4, t5]) rfl ⟨_, rfl, hd, hb⟩
    · have e1 : (er != 0) = true := bne_iff_ne.2 he
      have HE := Lib.hid he
      rw [if_neg he]
      clear hPE hok he
      go_enter Try.func38, Try.ntmps38
      go_wp2_with fail
      rw [← HW.out]
      go_wp2_with (first
        | (go_at_call 54; (with_reducible refine HTH.out.mono ?_); rw [HTE.out]; rintro e w1 ⟨rfl, hb⟩; obtain ⟨z0, z1⟩ := HBOX.out _ hb; have k0 : w1.cell? ⟨w.heap.size, 0, none⟩ = some (.int .i64 a) := bcell z0 0; have k1 : w1.cell? ⟨w.heap.size, 1, none⟩ = some (.int .i64 b) := bcell z0 1; have HB1 := Aside0.mk hb; clear hb z0 z1)
        | (go_at_call 43; (with_reducible refine (HRW.out _ HB1.out).mono ?_); rintro e w2 ⟨A2, c2, rfl, hc2, hC2, hb⟩; have HB2 := Aside0.mk (HB1.out.trans (hb.mono HB1.out.size)); have HC2 := Aside0.mk hC2; have HCC := Lib.hid hc2; clear hb hC2 hc2)
        | (go_at_call 83; (with_reducible refine (HGET.out _ _ _ HC2.out HCC.out).mono ?_); rintro e w3 ⟨v3, rfl, hd3, hb⟩; obtain ⟨A3, c3, rfl, -, -⟩ := hd3.reads; have HB3 := Aside0.mk (HB2.out.trans (hb.mono HB2.out.size)); have HD3 := Aside0.mk hd3; obtain ⟨z0, z1⟩ := HBOX.out _ HB3.out; obtain ⟨t0, t1, t2, t3, t4, t5, f0, f1, f2, f3, f4, f5⟩ := ent_cells z1; have hz3 : w.heap.size + 1 < w3.heap.size := blt z1; have Z1 := Lib.hid z1; clear hb hd3 z0 z1))
      refine post_world (EndE w zEn (.slice none 0 0)) ((EndE.zero Z1.out (QB.out.trans (HB3.out.mono QB.out.size))).alloc _) ?_
      rintro Y ⟨y, hd, hb⟩
      obtain ⟨t0, t1, t2, t3, t4, t5, -⟩ := ent_cells y
      exact bodyPost_ret (v := .tuple #[.agg #[.int .i64 0, .int .i64 0, .int .u64 0, .int .i64 0, .int .u8 0, .slice none 0 0], .int .i64 er]) (by simp [results, Try.results38, go_sem, t0, t1, t2, t3, t4, t5, zEn]) rfl ⟨_, rfl, hd, hb⟩
end
end Go.Proofs.Ytmbiebdcnadhkaa.Fl
namespace Go.Proofs.Ytmbiebdcnadhkaa.Fl
open Go.RowKit Go.Proofs.YtmbiebdcnadhkaaW.PrintWords Go.Proofs.YtmbiebdcnadhkaaW.PrintMore Go.Maps
set_option linter.unusedSimpArgs false
set_option linter.unusedVariables false
def ScanPost (w : World) (r : Int × List En × Bool) (e : Ending) (w' : World) : Prop :=
  ∃ v, e = .returned (.tuple #[.int .u64 r.1, v, .bool r.2.2]) ∧ kEnt.R TE w' w.heap.size (fun k => w.heap.size ≤ k) v r.2.1 ∧ Below w.heap.size w w'
theorem ent_pages {s : Int × Int × Int} (hs : ShapeOk s) {a b : Int} {raw : List Int} (h : (entL s a b raw).2 = 0) : 1 ≤ (entL s a b raw).1.pages ∧ (entL s a b raw).1.pages ≤ 257 := by
  unfold entL at h ⊢
  by_cases hb : hasB s a b = false
  · rw [if_pos hb] at h; cases h
  · rw [if_neg hb] at h ⊢
    by_cases hp : (parsed raw).2.2.2.2 = 0
    · rw [if_pos hp] at h ⊢
      obtain ⟨m, h1, h2, _, _⟩ := parsed_n hp
      have := kpg_bd hs (n := m) h2
      simp only [h1, show ((m : Int) + 16 - 16).toNat = m by omega]
      omega
    · rw [if_neg hp] at h
      exact absurd h hp
theorem scanF_end {E : Int → En × Int} {n sq : Int} {f : Nat} {page : Int} (h : ¬ (0 ≤ page ∧ page < n)) : scanF E n sq f page = [] := by
  cases f with
  | zero => rfl
  | succ f => rw [scanF, if_neg h]
theorem scanF_bad {E : Int → En × Int} {n sq : Int} {f : Nat} {page : Int} (h : (E page).2 ≠ 0 ∨ (E page).1.kind = 1 ∨ (E page).1.seq ≠ sq) : scanF E n sq f page = [] := by
  cases f with
  | zero => rfl
  | succ f =>
    rw [scanF]
    by_cases h0 : 0 ≤ page ∧ page < n
    · rw [if_pos h0, if_pos h]
    · rw [if_neg h0]
theorem scanF_good {E : Int → En × Int} {n sq : Int} {f : Nat} {page : Int} (h0 : 0 ≤ page ∧ page < n) (h1 : (E page).2 = 0) (h2 : (E page).1.kind ≠ 1) (h3 : (E page).1.seq = sq) : scanF E n sq (f + 1) page = (E page).1 :: scanF E n sq f (page + (E page).1.pages) := by
  rw [scanF, if_pos h0, if_neg]
  rintro (h | h | h)
  · exact h h1
  · exact h2 h
  · exact h h3
theorem ent_app {W : World} {N0 : Nat} {ok : Nat → Prop} {v : Value} {L : List En} (hR : kEnt.R TE W N0 ok v L) {u : Value} {e : En} (hrow : Dat W N0 ok u e.data) :
    ∃ okp : Nat → Prop, kEnt.M W N0 okp e (enC e u) ∧ ∀ k, okp k → ok k ∧ some k ≠ v.ownBlock := by
  refine ⟨_, ⟨u, rfl, hrow.bound⟩, fun k hk => ⟨hk.1, fun e => ?_⟩⟩
  obtain ⟨_, _, _, q, hq, cs, hc⟩ := hk
  obtain rfl : q = TB := by simpa using hq
  obtain ⟨cs', hc'⟩ := own_typed (Kd.R_own hR).choose_spec k e.symm
  exact typ_ne hc hc' (by decide) rfl
theorem scan_app {w4 : World} {B g1 : Nat} {v u : Value} {l : List En} {cs1 : Array Value} (e : En) (hH : w4.heap[g1]? = some (.cells cs1 TE (0, 0))) (hR : kEnt.R TE w4 B (fun k => B ≤ k ∧ k ≠ g1) v l) (hD : Dat w4 B (fun k => B ≤ k) u e.data) (o : Obj) :
    kEnt.R TE (w4.alloc o) B (fun k => (B ≤ k ∧ k ≠ g1) ∧ k ≠ w4.heap.size) v l ∧ ∃ okp : Nat → Prop, kEnt.M (w4.alloc o) B okp e (enC e u) ∧ ∀ k, okp k → ((B ≤ k ∧ k ≠ g1) ∧ k ≠ w4.heap.size) ∧ some k ≠ v.ownBlock := by
  have h1 : kEnt.R TE (w4.alloc o) B (fun k => (B ≤ k ∧ k ≠ g1) ∧ k ≠ w4.heap.size) v l := Kd.R_below (Kd.R_mono (Kd.R_bound hR) (fun k hk => ⟨hk.1, by have := hk.2.2.1; omega⟩)) (below_alloc (Below.refl _ _) _)
  refine ⟨h1, ent_app h1 ((hD.bound.mono (fun k hk => ?_)).below (below_alloc (Below.refl _ _) _))⟩
  obtain ⟨a1, _, a3, q, hq, cs, hc⟩ := hk
  obtain rfl : q = TB := by simpa using hq
  exact ⟨⟨a1, not_typ hH (by decide) hc⟩, by omega⟩
theorem own_ne {w : World} {B : Nat} {ok : Nat → Prop} {v : Value} {l : List En} (h : kEnt.R TE w B ok v l) {k : Nat} (hk : ¬ ok k) : some k ≠ v.ownBlock := fun e => hk (h.1 k e.symm)
section
variable {N0 p : Nat} {D : PD} {w : World} {ok : Nat → Prop}
set_option maxHeartbeats 4000000 in
set_option maxRecDepth 100000 in
theorem Scan_ent (hD : DevIs N0 p D ok w) (hby : BytD D) (a : Int) : Calls Try.prog 15 #[.pointer (some ⟨p, 0, none⟩), .int .i64 a] w (ScanPost w (scanD D a)) := by
  have hs : ShapeOk D.s := by
    obtain ⟨m, v, es, ck, hD⟩ := hD
    exact hD.shape
  have hpg : ∀ x, (entD D a x).2 = 0 → 1 ≤ (entD D a x).1.pages ∧ (entD D a x).1.pages ≤ 257 := fun x h => ent_pages hs h
  have hrd := fun (X : World) (hX : Below w.heap.size w X) (x : Int) => Read_ent (hD.below hX) hby a x
  have hshape := fun (X : World) (hX : Below w.heap.size w X) => Shape_any (hD.below hX)
  unfold scanD
  obtain ⟨E, hE⟩ : ∃ E, E = entD D a := ⟨_, rfl⟩
  rw [← hE] at hpg ⊢
  have hrd : ∀ (X : World), Below w.heap.size w X → ∀ x : Int, Calls Try.prog 38 #[.pointer (some ⟨p, 0, none⟩), .agg #[.int .i64 a, .int .i64 x]] X (EntPost X (E x)) := by rw [hE]; exact hrd
  obtain ⟨n, hn⟩ := Int.eq_ofNat_of_zero_le (show 0 ≤ D.s.2.1 by have := hs.b0; omega)
  have hn0 : 1 ≤ n := by have := hs.b0; omega
  have hn1 : n ≤ 64 := by have := hs.b1; omega
  rw [hn] at hshape ⊢
  have HRD := Lib.hid hrd
  have HSHP := Lib.hid hshape
  have HPG := Lib.hid hpg
  clear hpg hrd hshape hs hD hby hE hn
  unfold scanL
  rcases hh : E 0 with ⟨⟨ha, hb, hsq, hpgs, hkd, hdt⟩, her⟩
  have hr0 := HRD.out w (Below.refl _ _) 0
  have hp0 := HPG.out 0
  rw [hh] at hr0 hp0
  simp only at hp0 ⊢
  have HR0 := Lib.hid hr0
  have HP0 := Lib.hid hp0
  clear hr0 hp0 hh
  by_cases c1 : her = 0
  · subst c1
    by_cases c2 : hkd = 1
    · subst c2
      by_cases c3 : 0 < hdt.length
      · rw [if_pos (.inr (.inr c3))]
        have e3 : decide ((0 : Int) < (hdt.length : Int)) = true := by simp; omega
        have C3 := Lib.hid c3
        clear c3 HP0
        go_enter Try.func15, Try.ntmps15
        go_wp2_with fail
        go_step3
        go_wp2_with (go_at_call 38; (with_reducible refine HR0.out.mono ?_); rintro e w1 ⟨v1, rfl, hd1, hb1⟩; obtain ⟨A1, c1, rfl, -, -⟩ := hd1.reads; have HB1 := Aside0.mk hb1; clear hb1 hd1)
        try rw [Exit.noGoto_ret]
        go_ret3
        exact ⟨_, rfl, Kd.R_nil _ _ _ _ _, below_alloc HB1.out _⟩
      · obtain ⟨hp1, hp2⟩ := HP0.out rfl
        have hdt0 : hdt = [] := List.eq_nil_of_length_eq_zero (by omega)
        subst hdt0
        rw [if_neg (by simp)]
        obtain ⟨L, hL⟩ : ∃ L, L = scanF E (n : Int) hsq 64 hpgs := ⟨_, rfl⟩
        rw [← hL]
        have HL := Lib.hid hL
        clear hL c3 HP0
        go_enter Try.func15, Try.ntmps15
        go_wp2_with fail
        go_step3
        go_wp2_with (go_at_call 38; (with_reducible refine HR0.out.mono ?_); rintro e w1 ⟨v1, rfl, hd1, hb1⟩; obtain ⟨A1, c1, rfl, -, -⟩ := hd1.reads; have HB1 := Aside0.mk hb1; clear hb1 hd1)
        go_step3
        go_wp2_with fail
        go_loopw [9, 10] (fun v9 v10 wr => ∃ (f : Nat) (page : Int) (l : List En), v10 = .int .i64 page ∧ 1 ≤ page ∧ page ≤ 321 ∧ kEnt.R TE wr w.heap.size (fun k => w.heap.size ≤ k ∧ k ≠ w1.heap.size) v9 l ∧ L = l ++ scanF E (n : Int) hsq f page ∧ (n : Int) - page ≤ f ∧ (l.length : Int) ≤ page ∧ Below w.heap.size w wr ∧ wr.heap[w1.heap.size]? = some (.cells #[.int .i64 ha, .int .i64 hb, .int .u64 hsq, .int .i64 hpgs, .int .u8 1, .slice A1 0 c1] TE (0, 0))) (fun _ v10 _ => ((n : Int) - intOf v10).toNat)
        case atStart => exact ⟨64, hpgs, [], rfl, hp1, by omega, Kd.R_nil _ _ _ _ _, by rw [HL.out]; rfl, by omega, by simp; omega, below_alloc HB1.out _, blk_new _ _⟩
        case round =>
          have rs := fun (X : World) => run_shape2 X D.s.1 (n : Int) D.s.2.2
          obtain ⟨f, page, l, rfl, hpa, hpb, hR, hLL, hf, hll, hb, hH⟩ := hrel
          obtain ⟨A9, c9, rfl⟩ := Kd.R_slice hR
          have HR := Aside0.mk hR
          have HLL := Lib.hid hLL
          have HB := Aside0.mk hb
          have HH := Lib.hid hH
          have HLT := Lib.hid hll
          obtain ⟨y0, y1, y2, y3, y4, y5, -⟩ := ent_cells hH
          clear hR hLL hb hH hll
          by_cases hlt : page < (n : Int)
          · have hfit : fitsB page 0 ((n : Int) - 1) = true := by unfold fitsB; rw [decide_eq_true_iff]; omega
            have HFIT := Lib.hid hfit
            clear hfit y0 y1 y2 y3 y4 y5
            rcases hx : E page with ⟨⟨xa, xb, xsq, xpg, xkd, xdt⟩, xer⟩
            have hrx := fun (X : World) (hX : Below w.heap.size w X) => HRD.out X hX page
            rw [hx] at hrx
            have HRX := Lib.hid hrx
            have HX := Lib.hid hx
            clear hrx hx
            by_cases x1 : xer = 0
            · subst x1
              by_cases x2 : xkd = 1
              · subst x2
                have HBAD := Lib.hid (show (E page).2 ≠ 0 ∨ (E page).1.kind = 1 ∨ (E page).1.seq ≠ hsq from .inr (.inl (by rw [HX.out])))
                go_wp2_with (first
                  | (go_at_call 56; (with_reducible refine (HSHP.out _ HB.out).mono ?_); rintro e w2 ⟨rfl, hb2⟩; have HB2 := Aside0.mk (HB.out.trans (hb2.mono HB.out.size)); have HR2 := Aside0.mk (Kd.R_below HR.out hb2); have HH2 := Lib.hid ((hb2.block _ (blt HH.out)).trans HH.out); clear hb2)
                  | (go_at_call 59; (with_reducible refine (Fits_any _ _ _ _).mono ?_); rw [HFIT.out]; rintro e w3 ⟨rfl, rfl⟩)
                  | (go_at_call 38; (with_reducible refine (HRX.out _ HB2.out).mono ?_); rintro e w4 ⟨v4, rfl, hd4, hb4⟩; obtain ⟨A4, c4, rfl, -, -⟩ := hd4.reads; have HB4 := Aside0.mk (HB2.out.trans (hb4.mono HB2.out.size)); have HR4 := Aside0.mk (Kd.R_below HR2.out hb4); have h4 := (hb4.block _ (blt HH2.out)).trans HH2.out; obtain ⟨y0, y1, y2, y3, y4, y5, -⟩ := ent_cells h4; have HH4 := Lib.hid h4; have HD4 := Aside0.mk (Dat.mono (Dat.lower hd4 HB2.out.size) (fun k hk => Nat.le_trans HB2.out.size hk)); have hz4 : w1.heap.size < w4.heap.size := blt h4; clear hb4 hd4 h4))
                try rw [Exit.noGoto_ret]
                go_ret3
                rw [HLL.out, scanF_bad HBAD.out, List.append_nil]
                exact ⟨_, rfl, Kd.R_below (Kd.R_mono HR4.out (fun k hk => hk.1)) (below_alloc (Below.refl _ _) _), below_alloc HB4.out _⟩
              · have e2 : (xkd == 1) = false := by simpa using x2
                by_cases x3 : xsq = hsq
                · subst x3
                  have hpx := HPG.out page
                  rw [HX.out] at hpx
                  obtain ⟨hq1, hq2⟩ := hpx rfl
                  simp only at hq1 hq2
                  obtain ⟨f, rfl⟩ : ∃ f', f = f' + 1 := ⟨f - 1, by omega⟩
                  have hgood := scanF_good (E := E) (n := (n : Int)) (sq := xsq) (f := f) (page := page) ⟨by omega, hlt⟩ (by rw [HX.out]) (by rw [HX.out]; exact x2) (by rw [HX.out])
                  rw [HX.out] at hgood
                  simp only at hgood
                  have HGOOD := Lib.hid hgood
                  clear hgood hpx x2
                  go_wp2_with (first
                    | (go_at_call 56; (with_reducible refine (HSHP.out _ HB.out).mono ?_); rintro e w2 ⟨rfl, hb2⟩; have HB2 := Aside0.mk (HB.out.trans (hb2.mono HB.out.size)); have HR2 := Aside0.mk (Kd.R_below HR.out hb2); have HH2 := Lib.hid ((hb2.block _ (blt HH.out)).trans HH.out); clear hb2)
                    | (go_at_call 59; (with_reducible refine (Fits_any _ _ _ _).mono ?_); rw [HFIT.out]; rintro e w3 ⟨rfl, rfl⟩)
                    | (go_at_call 38; (with_reducible refine (HRX.out _ HB2.out).mono ?_); rintro e w4 ⟨v4, rfl, hd4, hb4⟩; obtain ⟨A4, c4, rfl, -, -⟩ := hd4.reads; have HB4 := Aside0.mk (HB2.out.trans (hb4.mono HB2.out.size)); have hr4 := Kd.R_below HR2.out hb4; have h4 := (hb4.block _ (blt HH2.out)).trans HH2.out; obtain ⟨y0, y1, y2, y3, y4, y5, -⟩ := ent_cells h4; have hz4 : w1.heap.size < w4.heap.size := blt h4; obtain ⟨hr5, okp, hm5, hok5⟩ := scan_app ⟨xa, xb, xsq, xpg, xkd, xdt⟩ h4 hr4 (Dat.mono (Dat.lower hd4 HB2.out.size) (fun k hk => Nat.le_trans HB2.out.size hk)) (.cells #[.int .i64 xa, .int .i64 xb, .int .u64 xsq, .int .i64 xpg, .int .u8 xkd, .slice A4 xdt.length c4] TE); have HR5 := Aside0.mk hr5; have HM5 := Aside0.mk hm5; have HOK5 := Lib.hid hok5; have HB5 := Aside0.mk (below_alloc HB4.out (.cells #[.int .i64 xa, .int .i64 xb, .int .u64 xsq, .int .i64 xpg, .int .u8 xkd, .slice A4 xdt.length c4] TE)); have HZ4 := Lib.hid h4; clear hb4 hd4 h4 hr4 hr5 hm5 hok5)
                    | (at_builtin; refine Kd.R_append kEnt (w0 := w) w.heap.size rfl (.tmp 63) (.tmp 65) 41 TE (.agg #[.int .i64 0, .int .i64 0, .int .u64 0, .int .i64 0, .int .u8 0, .slice none 0 0]) 64 rfl Try.underlying41 info_ent rfl (by decide) (by decide) (.slice A9 l.length c9) l ⟨xa, xb, xsq, xpg, xkd, xdt⟩ (enC ⟨xa, xb, xsq, xpg, xkd, xdt⟩ (.slice A4 xdt.length c4)) (fun k => (w.heap.size ≤ k ∧ k ≠ w1.heap.size) ∧ k ≠ w4.heap.size) okp rfl (by simp [Act.eval]) HM5.out HOK5.out (fun k hk => by have := HB4.out.size; have := blt HZ4.out; simp at hk; omega) HR5.out HB5.out HB5.out.size (by have := HLT.out; omega) ?_; intro v6 w6 hr6 hb6 hg6 hat6; have hbx := (hg6.block w4.heap.size (by simp) (own_ne HR5.out (by simp))).trans (blk_new w4 _); have hb1 := (hg6.block w1.heap.size (by simp; omega) (own_ne HR5.out (by simp))).trans ((Below.heap_alloc _ _ _ (blt HZ4.out)).trans HZ4.out); have HX6 := Lib.hid hbx; have HH6 := Lib.hid hb1; obtain ⟨z0, z1, z2, z3, z4, z5, -⟩ := ent_cells hbx; have HR6 := Aside0.mk hr6; have HB6 := Aside0.mk hb6; clear hr6 hb6 hg6 hat6 hbx hb1 y0 y1 y2 y3 y4 y5))
                  refine ⟨⟨f, page + xpg, l ++ [⟨xa, xb, xsq, xpg, xkd, xdt⟩], by go_num, by omega, by omega, Kd.R_mono HR6.out (fun k hk => hk.1), by rw [HLL.out, HGOOD.out]; simp, by omega, by have := HLT.out; simp; omega, HB6.out, HH6.out⟩, by simp [intOf]; omega⟩
                · have e3 : (xsq != hsq) = true := bne_iff_ne.2 x3
                  have HBAD := Lib.hid (show (E page).2 ≠ 0 ∨ (E page).1.kind = 1 ∨ (E page).1.seq ≠ hsq from .inr (.inr (by rw [HX.out]; exact x3)))
                  clear x2 x3
                  go_wp2_with (first
                    | (go_at_call 56; (with_reducible refine (HSHP.out _ HB.out).mono ?_); rintro e w2 ⟨rfl, hb2⟩; have HB2 := Aside0.mk (HB.out.trans (hb2.mono HB.out.size)); have HR2 := Aside0.mk (Kd.R_below HR.out hb2); have HH2 := Lib.hid ((hb2.block _ (blt HH.out)).trans HH.out); clear hb2)
                    | (go_at_call 59; (with_reducible refine (Fits_any _ _ _ _).mono ?_); rw [HFIT.out]; rintro e w3 ⟨rfl, rfl⟩)
                    | (go_at_call 38; (with_reducible refine (HRX.out _ HB2.out).mono ?_); rintro e w4 ⟨v4, rfl, hd4, hb4⟩; obtain ⟨A4, c4, rfl, -, -⟩ := hd4.reads; have HB4 := Aside0.mk (HB2.out.trans (hb4.mono HB2.out.size)); have HR4 := Aside0.mk (Kd.R_below HR2.out hb4); have h4 := (hb4.block _ (blt HH2.out)).trans HH2.out; obtain ⟨y0, y1, y2, y3, y4, y5, -⟩ := ent_cells h4; have HH4 := Lib.hid h4; have HD4 := Aside0.mk (Dat.mono (Dat.lower hd4 HB2.out.size) (fun k hk => Nat.le_trans HB2.out.size hk)); have hz4 : w1.heap.size < w4.heap.size := blt h4; clear hb4 hd4 h4))
                  try rw [Exit.noGoto_ret]
                  go_ret3
                  rw [HLL.out, scanF_bad HBAD.out, List.append_nil]
                  exact ⟨_, rfl, Kd.R_below (Kd.R_mono HR4.out (fun k hk => hk.1)) (below_alloc (Below.refl _ _) _), below_alloc HB4.out _⟩
            · have e1 : (xer != 0) = true := bne_iff_ne.2 x1
              have HBAD := Lib.hid (show (E page).2 ≠ 0 ∨ (E page).1.kind = 1 ∨ (E page).1.seq ≠ hsq from .inl (by rw [HX.out]; exact x1))
              clear x1
              go_wp2_with (first
                | (go_at_call 56; (with_reducible refine (HSHP.out _ HB.out).mono ?_); rintro e w2 ⟨rfl, hb2⟩; have HB2 := Aside0.mk (HB.out.trans (hb2.mono HB.out.size)); have HR2 := Aside0.mk (Kd.R_below HR.out hb2); have HH2 := Lib.hid ((hb2.block _ (blt HH.out)).trans HH.out); clear hb2)
                | (go_at_call 59; (with_reducible refine (Fits_any _ _ _ _).mono ?_); rw [HFIT.out]; rintro e w3 ⟨rfl, rfl⟩)
                | (go_at_call 38; (with_reducible refine (HRX.out _ HB2.out).mono ?_); rintro e w4 ⟨v4, rfl, hd4, hb4⟩; obtain ⟨A4, c4, rfl, -, -⟩ := hd4.reads; have HB4 := Aside0.mk (HB2.out.trans (hb4.mono HB2.out.size)); have HR4 := Aside0.mk (Kd.R_below HR2.out hb4); have h4 := (hb4.block _ (blt HH2.out)).trans HH2.out; obtain ⟨y0, y1, y2, y3, y4, y5, -⟩ := ent_cells h4; have HH4 := Lib.hid h4; have HD4 := Aside0.mk (Dat.mono (Dat.lower hd4 HB2.out.size) (fun k hk => Nat.le_trans HB2.out.size hk)); have hz4 : w1.heap.size < w4.heap.size := blt h4; clear hb4 hd4 h4))
              try rw [Exit.noGoto_ret]
              go_ret3
              rw [HLL.out, scanF_bad HBAD.out, List.append_nil]
              exact ⟨_, rfl, Kd.R_below (Kd.R_mono HR4.out (fun k hk => hk.1)) (below_alloc (Below.refl _ _) _), below_alloc HB4.out _⟩
          · have hfit : fitsB page 0 ((n : Int) - 1) = false := by unfold fitsB; rw [decide_eq_false_iff_not]; omega
            have HFIT := Lib.hid hfit
            have HEND := Lib.hid (show ¬ (0 ≤ page ∧ page < (n : Int)) from fun h => hlt h.2)
            clear hfit y0 y1 y2 y3 y4 y5
            go_wp2_with (first
              | (go_at_call 56; (with_reducible refine (HSHP.out _ HB.out).mono ?_); rintro e w2 ⟨rfl, hb2⟩; have HB2 := Aside0.mk (HB.out.trans (hb2.mono HB.out.size)); have HR2 := Aside0.mk (Kd.R_below HR.out hb2); have h2 := (hb2.block _ (blt HH.out)).trans HH.out; obtain ⟨y0, y1, y2, y3, y4, y5, -⟩ := ent_cells h2; clear hb2 h2)
              | (go_at_call 59; (with_reducible refine (Fits_any _ _ _ _).mono ?_); rw [HFIT.out]; rintro e w3 ⟨rfl, rfl⟩))
            try rw [Exit.noGoto_ret]
            go_ret3
            rw [HLL.out, scanF_end HEND.out, List.append_nil]
            exact ⟨_, rfl, Kd.R_mono HR2.out (fun k hk => hk.1), HB2.out⟩
    · rw [if_pos (.inr (.inl c2))]
      have e2 : (hkd != 1) = true := bne_iff_ne.2 c2
      clear c2 HP0
      go_enter Try.func15, Try.ntmps15
      go_wp2_with fail
      go_step3
      go_wp2_with (go_at_call 38; (with_reducible refine HR0.out.mono ?_); rintro e w1 ⟨v1, rfl, hd1, hb1⟩; obtain ⟨A1, c1, rfl, -, -⟩ := hd1.reads; have HB1 := Aside0.mk hb1; clear hb1 hd1)
      try rw [Exit.noGoto_ret]
      go_ret3
      exact ⟨_, rfl, Kd.R_nil _ _ _ _ _, below_alloc HB1.out _⟩
  · rw [if_pos (.inl c1)]
    have e1 : (her != 0) = true := bne_iff_ne.2 c1
    clear c1 HP0
    go_enter Try.func15, Try.ntmps15
    go_wp2_with fail
    go_step3
    go_wp2_with (go_at_call 38; (with_reducible refine HR0.out.mono ?_); rintro e w1 ⟨v1, rfl, hd1, hb1⟩; obtain ⟨A1, c1, rfl, -, -⟩ := hd1.reads; have HB1 := Aside0.mk hb1; clear hb1 hd1)
    try rw [Exit.noGoto_ret]
    go_ret3
    exact ⟨_, rfl, Kd.R_nil _ _ _ _ _, below_alloc HB1.out _⟩
end
end Go.Proofs.Ytmbiebdcnadhkaa.Fl
namespace Go.Proofs.Ytmbiebdcnadhkaa.Fl
set_option linter.unusedSimpArgs false
set_option linter.unusedVariables false
structure Sound (D : PD) : Prop where
  sh : ShapeOk D.s
  lens : ∀ q ∈ D.mp, q.2.length = D.s.2.2.toNat
theorem DevIs.sound {N0 p : Nat} {D : PD} {ok : Nat → Prop} {w : World} (h : DevIs N0 p D ok w) : Sound D := by
  obtain ⟨m, v, es, ck, h⟩ := h
  exact ⟨h.shape, h.lens⟩
section
variable {D : PD} {a b : Int} {l : List Int}
theorem writeE_zero (h : hasB D.s a b = true) (hl : (l.length : Int) ≤ D.s.2.2) (hu : usedB D a b = false) : writeE D a b l = 0 := by
  unfold writeE
  rw [if_neg (by rw [h]; decide), if_neg (by omega), if_neg (by rw [hu]; decide)]
theorem got_write (h : hasB D.s a b = true) (hl : (l.length : Int) ≤ D.s.2.2) (hu : usedB D a b = false) (c d : Int) :
    gotD (writeD D a b l) c d = if c = a ∧ d = b then full D.s.2.2.toNat l else gotD D c d := by
  have h0 := writeE_zero h hl hu
  unfold gotD
  rw [writeD_s]
  unfold writeD
  rw [if_pos h0]
  unfold readD numB
  simp only
  by_cases hc : c = a ∧ d = b
  · obtain ⟨rfl, rfl⟩ := hc
    rw [if_pos h, look_put, if_pos rfl, if_pos ⟨rfl, rfl⟩, Option.getD_some, full_full (by omega)]
  · have hne : ¬ ((c, d) = (a, b)) := fun e => hc ⟨congrArg Prod.fst e, congrArg Prod.snd e⟩
    rw [look_put, if_neg hne, if_neg hc]
theorem used_write (h : hasB D.s a b = true) (hl : (l.length : Int) ≤ D.s.2.2) (hu : usedB D a b = false) (c d : Int) :
    usedB (writeD D a b l) c d = (decide (c = a ∧ d = b) || usedB D c d) := by
  have h0 := writeE_zero h hl hu
  unfold usedB
  rw [writeD_s]
  unfold writeD
  rw [if_pos h0]
  simp only
  by_cases hc : c = a ∧ d = b
  · obtain ⟨rfl, rfl⟩ := hc
    rw [look_put, if_pos rfl, h]
    simp
  · have hne : ¬ ((c, d) = (a, b)) := fun e => hc ⟨congrArg Prod.fst e, congrArg Prod.snd e⟩
    rw [look_put, if_neg hne, decide_eq_false hc]
    rfl
theorem dirty_write (h : hasB D.s a b = true) (hl : (l.length : Int) ≤ D.s.2.2) (hu : usedB D a b = false) : (writeD D a b l).dirty = D.dirty ++ [(a, b)] := by
  unfold writeD
  rw [if_pos (writeE_zero h hl hu)]
def FreeRun (D : PD) (a b : Int) (rs : List (List Int)) : Prop := ∀ i : Nat, i < rs.length → hasB D.s a (b + (i : Int)) = true ∧ usedB D a (b + (i : Int)) = false
theorem FreeRun.head {r : List Int} {rs : List (List Int)} (h : FreeRun D a b (r :: rs)) : hasB D.s a b = true ∧ usedB D a b = false := by
  have := h 0 (by simp)
  simpa using this
theorem FreeRun.tail {r : List Int} {rs : List (List Int)} (h : FreeRun D a b (r :: rs)) (hl : (r.length : Int) ≤ D.s.2.2) : FreeRun (writeD D a b r) a (b + 1) rs := fun i hi => by
  have h1 := h (i + 1) (by simp; omega)
  rw [writeD_s, used_write h.head.1 hl h.head.2]
  rw [show b + 1 + (i : Int) = b + ((i + 1 : Nat) : Int) by omega, h1.2, Bool.or_false]
  exact ⟨h1.1, decide_eq_false (fun hh => by omega)⟩
theorem got_wr : ∀ (rs : List (List Int)) (b : Int) (D : PD), FreeRun D a b rs → (∀ r ∈ rs, (r.length : Int) ≤ D.s.2.2) → ∀ c d : Int, gotD (wrD a b rs D) c d = if c = a ∧ b ≤ d ∧ d < b + rs.length then full D.s.2.2.toNat (rs.getD (d - b).toNat []) else gotD D c d
  | [], b, D, _, _, c, d => by
    rw [if_neg (fun h => by simp at h; omega)]
    rfl
  | r :: rs, b, D, h, hl, c, d => by
    have hr := hl r (by simp)
    show gotD (wrD a (b + 1) rs (writeD D a b r)) c d = _
    rw [got_wr rs (b + 1) (writeD D a b r) (h.tail hr) (fun q hq => by rw [writeD_s]; exact hl q (by simp [hq])), writeD_s, got_write h.head.1 hr h.head.2]
    by_cases h1 : c = a ∧ b + 1 ≤ d ∧ d < b + 1 + rs.length
    · rw [if_pos h1, if_pos ⟨h1.1, by omega, by simp; omega⟩]
      obtain ⟨k, hk⟩ := Int.eq_ofNat_of_zero_le (show 0 ≤ d - (b + 1) by omega)
      rw [hk, show d - b = ((k + 1 : Nat) : Int) by omega]
      rfl
    · rw [if_neg h1]
      by_cases h2 : c = a ∧ d = b
      · rw [if_pos h2, if_pos ⟨h2.1, by omega, by simp; omega⟩, h2.2, Int.sub_self]
        rfl
      · rw [if_neg h2, if_neg]
        rintro ⟨x1, x2, x3⟩
        simp at x3
        exact h1 ⟨x1, by omega, by omega⟩
theorem used_wr : ∀ (rs : List (List Int)) (b : Int) (D : PD), FreeRun D a b rs → (∀ r ∈ rs, (r.length : Int) ≤ D.s.2.2) → ∀ c d : Int, usedB (wrD a b rs D) c d = (decide (c = a ∧ b ≤ d ∧ d < b + rs.length) || usedB D c d)
  | [], b, D, _, _, c, d => by
    rw [decide_eq_false (fun h => by simp at h; omega)]
    rfl
  | r :: rs, b, D, h, hl, c, d => by
    have hr := hl r (by simp)
    show usedB (wrD a (b + 1) rs (writeD D a b r)) c d = _
    rw [used_wr rs (b + 1) (writeD D a b r) (h.tail hr) (fun q hq => by rw [writeD_s]; exact hl q (by simp [hq])), used_write h.head.1 hr h.head.2, ← Bool.or_assoc, ← Bool.decide_or]
    congr 1
    refine decide_eq_decide.2 ⟨?_, ?_⟩
    · rintro (⟨x1, x2, x3⟩ | ⟨x1, x2⟩)
      · exact ⟨x1, by omega, by simp; omega⟩
      · exact ⟨x1, by omega, by simp; omega⟩
    · rintro ⟨x1, x2, x3⟩
      simp at x3
      by_cases hd : d = b
      · exact .inr ⟨x1, hd⟩
      · exact .inl ⟨x1, by omega, by omega⟩
theorem dirty_wr : ∀ (rs : List (List Int)) (b : Int) (D : PD), FreeRun D a b rs → (∀ r ∈ rs, (r.length : Int) ≤ D.s.2.2) → (wrD a b rs D).dirty = D.dirty ++ (List.range rs.length).map (fun i : Nat => (a, b + (i : Int)))
  | [], b, D, _, _ => by simp [wrD]
  | r :: rs, b, D, h, hl => by
    have hr := hl r (by simp)
    show (wrD a (b + 1) rs (writeD D a b r)).dirty = _
    rw [dirty_wr rs (b + 1) (writeD D a b r) (h.tail hr) (fun q hq => by rw [writeD_s]; exact hl q (by simp [hq])), dirty_write h.head.1 hr h.head.2, List.length_cons, List.range_succ_eq_map, List.map_cons, List.map_map, List.append_assoc]
    congr 1
    simp only [List.singleton_append, Int.natCast_zero, Int.add_zero]
    congr 1
    refine List.map_congr_left (fun i _ => ?_)
    show (a, b + 1 + (i : Int)) = (a, b + ((i + 1 : Nat) : Int))
    congr 1
    omega
end
def parts (s : Int × Int × Int) (kd sq : Int) (l : List Int) : List (List Int) := chunkL s.2.2.toNat (rec kd sq l)
theorem nb_pos {s : Int × Int × Int} (hs : ShapeOk s) : 16 ≤ s.2.2.toNat ∧ s.2.2.toNat ≤ 256 ∧ ((s.2.2.toNat : Nat) : Int) = s.2.2 := by
  have := hs.c0
  have := hs.c1
  omega
theorem parts_len {s : Int × Int × Int} (hs : ShapeOk s) (kd sq : Int) (l : List Int) : (parts s kd sq l).length = kpg s l.length := by
  unfold parts kpg
  rw [chunk_len (by have := nb_pos hs; omega), rec_len]
theorem parts_le {s : Int × Int × Int} (hs : ShapeOk s) {kd sq : Int} {l r : List Int} (h : r ∈ parts s kd sq l) : (r.length : Int) ≤ s.2.2 := by
  have h1 := chunk_le (by have := nb_pos hs; omega) r h
  have := nb_pos hs
  omega
structure RecOk (kd sq : Int) (l : List Int) : Prop where
  kd : KindOk kd
  sq : SeqOk sq
  byt : Byt l
  len : l.length ≤ 4096
theorem appE_zero {D : PD} (a b : Int) (n : Nat) : (appE D a b n).2 = 0 ↔ (hasB D.s a b = true ∧ n ≤ 4096 ∧ b + (kpg D.s n : Int) ≤ D.s.2.1 ∧ anyUsedD a b (kpg D.s n) D = false) := by
  unfold appE
  by_cases h1 : hasB D.s a b = false
  · rw [if_pos h1, h1]; simp
  · rw [if_neg h1]
    by_cases h2 : 4096 < n
    · rw [if_pos h2]; simp; omega
    · rw [if_neg h2]
      by_cases h3 : D.s.2.1 < b + (kpg D.s n : Int)
      · rw [if_pos h3]; simp; omega
      · rw [if_neg h3]
        by_cases h4 : anyUsedD a b (kpg D.s n) D = true
        · rw [if_pos h4, h4]; simp
        · rw [if_neg h4]
          simp only [Bool.not_eq_false] at h1
          simp only [Bool.not_eq_true] at h4
          simp [h1, h4]; omega
theorem appE_one {D : PD} {a b : Int} {n : Nat} (h : (appE D a b n).2 = 0) : appE D a b n = ((kpg D.s n : Int), 0) := by
  obtain ⟨h1, h2, h3, h4⟩ := (appE_zero a b n).1 h
  unfold appE
  rw [if_neg (by rw [h1]; decide), if_neg (by omega), if_neg (by omega), if_neg (by rw [h4]; decide)]
theorem app_run {D : PD} (hs : ShapeOk D.s) {a b kd sq : Int} {l : List Int} (h : (appE D a b l.length).2 = 0) : FreeRun D a b (parts D.s kd sq l) := by
  obtain ⟨h1, h2, h3, h4⟩ := (appE_zero a b l.length).1 h
  intro i hi
  rw [parts_len hs] at hi
  have h5 := (hasB_iff _ _ _).1 h1
  refine ⟨(hasB_iff _ _ _).2 ⟨h5.1, h5.2.1, by omega, by omega⟩, ?_⟩
  unfold anyUsedD at h4
  rw [List.any_eq_false] at h4
  have := h4 i (by simpa using hi)
  simpa using this
theorem appD_ok {D : PD} {a b : Int} {n : Nat} {bs : List Int} (h : (appE D a b n).2 = 0) : appD D a b n bs = wrD a b (chunkL D.s.2.2.toNat bs) D := by unfold appD; rw [if_pos h]
theorem appD_no {D : PD} {a b : Int} {n : Nat} {bs : List Int} (h : (appE D a b n).2 ≠ 0) : appD D a b n bs = D := by unfold appD; rw [if_neg h]
theorem appD_s (D : PD) (a b : Int) (n : Nat) (bs : List Int) : (appD D a b n bs).s = D.s := by
  unfold appD
  split
  · exact wrD_s _ _ _ _
  · rfl
structure Holds (D : PD) (a q kd sq : Int) (l : List Int) : Prop where
  ok : RecOk kd sq l
  has : hasB D.s a q = true
  room : q + (kpg D.s l.length : Int) ≤ D.s.2.1
  got : ∀ i : Nat, i < kpg D.s l.length → gotD D a (q + (i : Int)) = full D.s.2.2.toNat ((parts D.s kd sq l).getD i [])
theorem app_holds {D : PD} (hs : ShapeOk D.s) {a b kd sq : Int} {l : List Int} (hr : RecOk kd sq l) (h : (appE D a b l.length).2 = 0) : Holds (appD D a b l.length (rec kd sq l)) a b kd sq l := by
  obtain ⟨h1, h2, h3, h4⟩ := (appE_zero a b l.length).1 h
  have hrun := app_run (kd := kd) (sq := sq) hs h
  refine ⟨hr, by rw [appD_s]; exact h1, by rw [appD_s]; exact h3, fun i hi => ?_⟩
  rw [appD_s] at hi ⊢
  rw [appD_ok h]
  have := got_wr (parts D.s kd sq l) b D hrun (fun r hr => parts_le hs hr) a (b + (i : Int))
  unfold parts at this
  rw [this, if_pos ⟨rfl, by omega, by have := parts_len hs kd sq l; unfold parts at this; omega⟩, show (b + (i : Int) - b).toNat = i by omega]
  rfl
theorem app_got {D : PD} (hs : ShapeOk D.s) {a b kd sq : Int} {l : List Int} (h : (appE D a b l.length).2 = 0) {c d : Int} (hcd : ¬ (c = a ∧ b ≤ d ∧ d < b + (kpg D.s l.length : Int))) : gotD (appD D a b l.length (rec kd sq l)) c d = gotD D c d := by
  rw [appD_ok h]
  have := got_wr (parts D.s kd sq l) b D (app_run hs h) (fun r hr => parts_le hs hr) c d
  unfold parts at this
  rw [this, if_neg]
  have hl := parts_len hs kd sq l
  unfold parts at hl
  rw [hl]
  exact hcd
theorem app_used {D : PD} (hs : ShapeOk D.s) {a b kd sq : Int} {l : List Int} (h : (appE D a b l.length).2 = 0) (c d : Int) : usedB (appD D a b l.length (rec kd sq l)) c d = (decide (c = a ∧ b ≤ d ∧ d < b + (kpg D.s l.length : Int)) || usedB D c d) := by
  rw [appD_ok h]
  have := used_wr (parts D.s kd sq l) b D (app_run hs h) (fun r hr => parts_le hs hr) c d
  have hl := parts_len hs kd sq l
  unfold parts at this hl
  rw [this, hl]
theorem app_dirty {D : PD} (hs : ShapeOk D.s) {a b kd sq : Int} {l : List Int} (h : (appE D a b l.length).2 = 0) : (appD D a b l.length (rec kd sq l)).dirty = D.dirty ++ (List.range (kpg D.s l.length)).map (fun i : Nat => (a, b + (i : Int))) := by
  rw [appD_ok h]
  have := dirty_wr (parts D.s kd sq l) b D (app_run hs h) (fun r hr => parts_le hs hr)
  have hl := parts_len hs kd sq l
  unfold parts at this hl
  rw [this, hl]
theorem Holds.keep {D : PD} (hs : ShapeOk D.s) {a b kd sq : Int} {l : List Int} (h : (appE D a b l.length).2 = 0) {c q kd2 sq2 : Int} {l2 : List Int} (hh : Holds D c q kd2 sq2 l2) (hd : c ≠ a ∨ q + (kpg D.s l2.length : Int) ≤ b) : Holds (appD D a b l.length (Fl.rec kd sq l)) c q kd2 sq2 l2 := by
  refine ⟨hh.ok, by rw [appD_s]; exact hh.has, by rw [appD_s]; exact hh.room, fun i hi => ?_⟩
  rw [appD_s] at hi ⊢
  rw [app_got hs h (by omega)]
  exact hh.got i hi
theorem pad_flat {n : Nat} (hn : 1 ≤ n) : ∀ (k : Nat) (bs : List Int), bs.length ≤ k → ∃ m, ((chunkL n bs).map (full n)).flatten = bs ++ List.replicate m 255
  | 0, bs, h => by
    have : bs = [] := List.eq_nil_of_length_eq_zero (by omega)
    subst this
    exact ⟨0, by rw [chunkL_nil]; rfl⟩
  | k + 1, bs, h => by
    by_cases h0 : 0 < bs.length
    · rw [chunkL_cons h0 hn, List.map_cons, List.flatten_cons]
      by_cases h1 : bs.length ≤ n
      · rw [List.take_of_length_le h1, List.drop_of_length_le h1, chunkL_nil]
        exact ⟨n - bs.length, by simp [full]⟩
      · obtain ⟨m, hm⟩ := pad_flat hn k (bs.drop n) (by rw [List.length_drop]; omega)
        refine ⟨m, ?_⟩
        rw [hm, full_self (by rw [List.length_take]; omega), ← List.append_assoc, List.take_append_drop]
    · have : bs = [] := List.eq_nil_of_length_eq_zero (by omega)
      subst this
      exact ⟨0, by rw [chunkL_nil]; rfl⟩
theorem flat_range {α : Type} (f : Nat → List α) (g : List (List α)) : ∀ k, k = g.length → (∀ i, i < k → f i = g.getD i []) → (List.range k).flatMap f = g.flatten := by
  intro k hk h
  have : (List.range k).map f = g := by
    refine List.ext_getElem (by simp [hk]) (fun i h1 h2 => ?_)
    simp only [List.getElem_map, List.getElem_range]
    rw [h i (by omega), List.getD_eq_getElem?_getD, List.getElem?_eq_getElem h2]
    rfl
  rw [List.flatMap_def, this]
theorem raw_split {D : PD} {a q : Int} {k : Nat} (hk : k ≤ nRaw D.s a q) : ∃ r, rawD D a q = rawK D a q k ++ r := by
  unfold rawD
  obtain ⟨m, hm⟩ : ∃ m, nRaw D.s a q = k + m := ⟨nRaw D.s a q - k, by omega⟩
  rw [hm]
  unfold rawK
  rw [List.range_add, List.flatMap_append]
  exact ⟨_, rfl⟩
theorem parsed_rec {kd sq : Int} {l rest : List Int} (hr : RecOk kd sq l) (hb : Byt rest) (hl : rest.length ≤ 700000) : parsed (rec kd sq l ++ rest) = (kd, sq, l, ((l.length : Nat) : Int) + 16, 0) := by
  have h1 := Go.Proofs.Ytmbiebdcnadhkaa.FrMore.get_rec (l.length + rest.length + 100) kd sq l rest ⟨hr.kd.k0, hr.kd.k1⟩ ⟨hr.sq.k0, hr.sq.k1⟩ hr.byt hb hr.len hl (Nat.le_refl _)
  have hlen : (rec kd sq l ++ rest).length = l.length + 16 + rest.length := by rw [List.length_append, rec_len]
  have hbb : Byt (rec kd sq l ++ rest) := Byt.append (rec_byt hr.kd hr.byt) hb
  have h2 := Go.Proofs.Ytmbiebdcnadhkaa.FrameFacts.get_is (l.length + rest.length + 100) (rec kd sq l ++ rest) hbb (by have := hr.len; omega) (by omega)
  have h3 : some (parsed (rec kd sq l ++ rest)) = some (kd, sq, l, ((l.length : Nat) : Int) + 16, 0) := h2.symm.trans h1
  exact Option.some.inj h3
theorem raw_len {D : PD} (hs : Sound D) (a b : Int) : (rawD D a b).length ≤ 16384 := by
  have hl : ∀ x, (gotD D a x).length ≤ 256 := fun x => by
    unfold gotD readD numB
    split
    · rw [full_length (look_len hs.lens _)]
      have := hs.sh.c1
      omega
    · simp
  have h1 := rawK_len (b := b) hl (nRaw D.s a b)
  have h2 := nRaw_le hs.sh a b
  unfold rawD
  omega
theorem Holds.ent {D : PD} (hs : Sound D) (hb : BytD D) {a q kd sq : Int} {l : List Int} (h : Holds D a q kd sq l) : entD D a q = (⟨a, q, sq, (kpg D.s l.length : Int), kd, l⟩, 0) := by
  have hn := nb_pos hs.sh
  have hq := (hasB_iff _ _ _).1 h.has
  have hnr : kpg D.s l.length ≤ nRaw D.s a q := by
    unfold nRaw
    have := h.room
    rw [if_pos hq]
    omega
  obtain ⟨r, hr⟩ := raw_split hnr
  have hk : rawK D a q (kpg D.s l.length) = ((parts D.s kd sq l).map (full D.s.2.2.toNat)).flatten := by
    refine flat_range _ _ _ (by rw [List.length_map, parts_len hs.sh]) (fun i hi => ?_)
    rw [h.got i hi, List.getD_eq_getElem?_getD, List.getD_eq_getElem?_getD, List.getElem?_map]
    rw [List.getElem?_eq_getElem (by rw [parts_len hs.sh]; exact hi)]
    rfl
  obtain ⟨m, hm⟩ := pad_flat (n := D.s.2.2.toNat) (by omega) _ (Fl.rec kd sq l) (Nat.le_refl _)
  unfold parts at hk
  rw [hm] at hk
  have hraw : rawD D a q = Fl.rec kd sq l ++ (List.replicate m 255 ++ r) := by rw [hr, hk, List.append_assoc]
  have hby := hb.raw a q
  have hlen := raw_len hs a q
  rw [hraw] at hby hlen
  rw [List.length_append] at hlen
  have hp := parsed_rec h.ok (rest := List.replicate m 255 ++ r) (fun x hx => hby x (List.mem_append.2 (.inr hx))) (by omega)
  unfold entD entL
  rw [if_neg (by rw [h.has]; decide), hraw, hp]
  simp only [if_true]
  rw [show ((l.length : Nat) : Int) + 16 - 16 = (l.length : Int) by omega, Int.toNat_natCast]
theorem unused_ent {D : PD} (hs : Sound D) {a q : Int} (hu : usedB D a q = false) (hh : hasB D.s a q = true) : (entD D a q).2 = 13 := by
  have hn := nb_pos hs.sh
  have hq := (hasB_iff _ _ _).1 hh
  have hg : gotD D a q = full D.s.2.2.toNat [] := by
    unfold usedB at hu
    rw [hh, Bool.true_and] at hu
    unfold gotD readD numB
    rw [if_pos hh]
    cases hl : look (a, q) D.mp with
    | none => rfl
    | some x => rw [hl] at hu; cases hu
  obtain ⟨r, hr⟩ := raw_split (D := D) (a := a) (q := q) (k := 1) (by unfold nRaw; rw [if_pos hq]; omega)
  have h1 : rawK D a q 1 = full D.s.2.2.toNat [] := by
    unfold rawK
    simp [hg]
  obtain ⟨m, hm⟩ : ∃ m, D.s.2.2.toNat = m + 1 := ⟨D.s.2.2.toNat - 1, by omega⟩
  have hraw : rawD D a q = 255 :: (List.replicate m 255 ++ r) := by
    rw [hr, h1, hm]
    rfl
  unfold entD entL
  rw [if_neg (by rw [hh]; decide), hraw]
  have hp : (parsed (255 :: (List.replicate m 255 ++ r))).2.2.2.2 = 13 := by
    unfold parsed Go.Proofs.Ytmbiebdcnadhkaa.FrameFacts.parsed
    have hh : Go.Proofs.Ytmbiebdcnadhkaa.FrameFacts.head (255 :: (List.replicate m 255 ++ r)) = 13 := by
      unfold Go.Proofs.Ytmbiebdcnadhkaa.FrameFacts.head
      have hrd : Go.Proofs.YtmbiebdcnadhkaaW.PrintWords.rd (255 :: (List.replicate m 255 ++ r)) 0 = 255 := rfl
      rw [if_neg (by simp), if_pos hrd]
    rw [if_neg (by rw [hh]; decide), hh]
  rw [if_neg (by rw [hp]; decide), hp]
def Chain (D : PD) (a sq : Int) : Int → List (Int × List Int) → Int → Prop
  | q, [], e => q = e
  | q, r :: rs, e => Holds D a q r.1 sq r.2 ∧ r.1 ≠ 1 ∧ Chain D a sq (q + (kpg D.s r.2.length : Int)) rs e
def entsL (s : Int × Int × Int) (a sq : Int) : Int → List (Int × List Int) → List En
  | _, [] => []
  | q, r :: rs => ⟨a, q, sq, (kpg s r.2.length : Int), r.1, r.2⟩ :: entsL s a sq (q + (kpg s r.2.length : Int)) rs
theorem entsL_len (s : Int × Int × Int) (a sq : Int) : ∀ (rs : List (Int × List Int)) (q : Int), (entsL s a sq q rs).length = rs.length
  | [], _ => rfl
  | r :: rs, q => by simp [entsL, entsL_len s a sq rs]
theorem Chain.scan {D : PD} (hs : Sound D) (hb : BytD D) {a sq e : Int} (he : (entD D a e).2 ≠ 0) : ∀ {rs : List (Int × List Int)} {q : Int} {f : Nat}, Chain D a sq q rs e → D.s.2.1 - q ≤ f → scanF (entD D a) D.s.2.1 sq f q = entsL D.s a sq q rs
  | [], q, f, h, _ => by
    obtain rfl : q = e := h
    rw [scanF_bad (.inl he)]
    rfl
  | r :: rs, q, f, ⟨h1, h2, h3⟩, hf => by
    have hq := (hasB_iff _ _ _).1 h1.has
    obtain ⟨f, rfl⟩ : ∃ g, f = g + 1 := ⟨f - 1, by omega⟩
    have hent := h1.ent hs hb
    have hk := kpg_bd hs.sh h1.ok.len
    rw [scanF_good ⟨by omega, by omega⟩ (by rw [hent]) (by rw [hent]; exact h2) (by rw [hent]), hent]
    simp only
    rw [Chain.scan hs hb he h3 (by omega)]
    rfl
theorem no_ent {D : PD} {a e : Int} (h : hasB D.s a e = false) : (entD D a e).2 = 6 := by
  unfold entD entL
  rw [if_pos h]
theorem Chain.keep {D : PD} (hs : ShapeOk D.s) {a b kd sq sq2 : Int} {l : List Int} (h : (appE D a b l.length).2 = 0) {c : Int} : ∀ {rs : List (Int × List Int)} {q e : Int}, Chain D c sq2 q rs e → c ≠ a ∨ e ≤ b → Chain (appD D a b l.length (rec kd sq l)) c sq2 q rs e
  | [], _, _, hc, _ => hc
  | r :: rs, q, e, ⟨h1, h2, h3⟩, hd => by
    have he : ∀ {rs : List (Int × List Int)} {q e : Int}, Chain D c sq2 q rs e → q ≤ e := by
      intro rs
      induction rs with
      | nil => intro q e h; exact Int.le_of_eq h
      | cons r rs ih => intro q e h; have := ih h.2.2; omega
    have hle := he h3
    have hd2 : c ≠ a ∨ q + (kpg D.s r.2.length : Int) ≤ b := by
      rcases hd with hd | hd
      · exact .inl hd
      · exact .inr (by omega)
    have h4 := Chain.keep hs h h3 hd (kd := kd) (sq := sq)
    refine ⟨h1.keep hs h hd2, h2, ?_⟩
    rw [appD_s]
    exact h4
theorem Chain.snoc {D : PD} {a sq : Int} {r : Int × List Int} : ∀ {rs : List (Int × List Int)} {q e : Int}, Chain D a sq q rs e → Holds D a e r.1 sq r.2 → r.1 ≠ 1 → Chain D a sq q (rs ++ [r]) (e + (kpg D.s r.2.length : Int))
  | [], q, e, hc, h, hk => by
    obtain rfl : q = e := hc
    exact ⟨h, hk, rfl⟩
  | x :: rs, q, e, ⟨h1, h2, h3⟩, h, hk => ⟨h1, h2, Chain.snoc h3 h hk⟩
end Go.Proofs.Ytmbiebdcnadhkaa.Fl
namespace Go.Proofs.Ytmbiebdcnadhkaa.Fl
open Go.RowKit Go.Proofs.YtmbiebdcnadhkaaW.PrintWords Go.Proofs.YtmbiebdcnadhkaaW.PrintMore Go.Maps
set_option linter.unusedSimpArgs false
set_option linter.unusedVariables false
def Solo (N0 p : Nat) (K : Nat → Prop) (D : PD) (w : World) : Prop :=
  ∃ ok : Nat → Prop, DevIs N0 p D ok w ∧ (∀ k, ok k → N0 ≤ k) ∧ N0 ≤ w.heap.size ∧ (∀ k, K k → k < w.heap.size ∧ (¬ ok k ∨ ∃ cs fr, w.heap[k]? = some (.cells cs TB fr)))
theorem solo_frame (N0 p : Nat) : DevFrame N0 p (Solo N0 p) where
  dev := fun h => by
    obtain ⟨ok, hD, _⟩ := h
    exact ⟨ok, hD⟩
  keep := fun {K D w w'} h hb => by
    obtain ⟨ok, hD, h1, h0, hK⟩ := h
    refine ⟨_, hD.bound.below hb, fun k h => h1 k h.1, Nat.le_trans h0 hb.size, fun k hk => ?_⟩
    rcases hk with hk | hk
    · exact ⟨Nat.lt_of_lt_of_le (hK k hk).1 hb.size, (hK k hk).2.imp (fun h2 h => h2 h.1) (fun ⟨cs, fr, e⟩ => ⟨cs, fr, (hb.block k (hK k hk).1).trans e⟩)⟩
    · exact ⟨hk.2, .inl (fun h => by have := h.2.2; omega)⟩
  less := fun h hk => by
    obtain ⟨ok, hD, h1, h0, hK⟩ := h
    exact ⟨ok, hD, h1, h0, fun k h => hK k (hk k h)⟩
  upd := fun {K D D' w f args res} h hc => by
    obtain ⟨ok, hD, h1, h0, hK⟩ := h
    refine (hc ok hD).mono fun e w1 ⟨he, hD1, hu⟩ => ⟨he, ⟨_, hD1, ?_, ?_, ?_⟩, upd_below hu h0 h1, fun k hk => hu.block k (hK k hk).1 (fun h => (hK k hk).2.elim (fun h2 => h2 h.1) (fun ⟨cs, fr, e⟩ => h.2 cs fr e))⟩
    · exact fun k hk => hk.elim (h1 k) (fun h => Nat.le_trans h0 h)
    · exact Nat.le_trans h0 hu.size
    · exact fun k hk => ⟨Nat.lt_of_lt_of_le (hK k hk).1 hu.size, (hK k hk).2.elim (fun h2 => .inl (fun h => h.elim h2 (fun h => by have := (hK k hk).1; omega))) (fun ⟨cs, fr, e⟩ => .inr ⟨cs, fr, (hu.block k (hK k hk).1 (fun h => h.2 cs fr e)).trans e⟩)⟩
  size := fun h => by
    obtain ⟨ok, hD, h1, h0, hK⟩ := h
    exact h0
  lt := fun h k hk => by
    obtain ⟨ok, hD, h1, h0, hK⟩ := h
    exact (hK k hk).1
theorem Solo.new {N0 p : Nat} {D : PD} {w w1 : World} (hN : N0 ≤ w.heap.size) (hD : DevIs N0 p D (fun k => w.heap.size ≤ k) w1) (hb : Below w.heap.size w w1) : Solo N0 p (fun _ => False) D w1 :=
  ⟨_, hD, fun k hk => Nat.le_trans hN hk, Nat.le_trans hN hb.size, fun _ h => h.elim⟩
theorem DevFrame.sound {N0 p : Nat} {F : (Nat → Prop) → PD → World → Prop} (hF : DevFrame N0 p F) {K : Nat → Prop} {D : PD} {w : World} (h : F K D w) : Sound D := by
  obtain ⟨ok, hD⟩ := hF.dev h
  exact hD.sound
theorem DevFrame.scan {N0 p : Nat} {F : (Nat → Prop) → PD → World → Prop} (hF : DevFrame N0 p F) {K : Nat → Prop} {D : PD} {w : World} (h : F K D w) (hb : BytD D) (a : Int) : Calls Try.prog 15 #[.pointer (some ⟨p, 0, none⟩), .int .i64 a] w (ScanPost w (scanD D a)) := by
  obtain ⟨ok, hD⟩ := hF.dev h
  exact Scan_ent hD hb a
theorem BytD.new (s : Int × Int × Int) : BytD ⟨s, [], []⟩ := fun a b => by
  unfold gotD
  split
  · exact Byt.full Byt.nil
  · exact Byt.nil
theorem writeE_inv {D : PD} {a b : Int} {l : List Int} (h : writeE D a b l = 0) : hasB D.s a b = true ∧ (l.length : Int) ≤ D.s.2.2 ∧ usedB D a b = false := by
  unfold writeE at h
  by_cases h1 : hasB D.s a b = false
  · rw [if_pos h1] at h; cases h
  · rw [if_neg h1] at h
    by_cases h2 : D.s.2.2 < (l.length : Int)
    · rw [if_pos h2] at h; cases h
    · rw [if_neg h2] at h
      by_cases h3 : usedB D a b = true
      · rw [if_pos h3] at h; cases h
      · exact ⟨by simpa using h1, by omega, by simpa using h3⟩
theorem BytD.write {D : PD} (h : BytD D) (a b : Int) {l : List Int} (hl : Byt l) : BytD (writeD D a b l) := by
  by_cases h0 : writeE D a b l = 0
  · obtain ⟨h1, h2, h3⟩ := writeE_inv h0
    intro c d
    rw [got_write h1 h2 h3]
    split
    · exact Byt.full hl
    · exact h c d
  · unfold writeD
    rw [if_neg h0]
    exact h
theorem BytD.wr (a : Int) : ∀ (rs : List (List Int)) (b : Int) (D : PD), BytD D → (∀ r ∈ rs, Byt r) → BytD (wrD a b rs D)
  | [], _, _, h, _ => h
  | r :: rs, b, D, h, k => BytD.wr a rs (b + 1) _ (h.write a b (k r (by simp))) (fun q hq => k q (by simp [hq]))
theorem BytD.app {D : PD} (hs : ShapeOk D.s) (h : BytD D) (a b : Int) (n : Nat) {bs : List Int} (hb : Byt bs) : BytD (appD D a b n bs) := by
  unfold appD
  split
  · exact BytD.wr a _ b D h (chunk_byt (by have := nb_pos hs; omega) hb)
  · exact h
def wD0 : PD := ⟨(1, 4, 16), [], []⟩
def wD1 : PD := appD wD0 0 0 0 (rec 1 3 [])
def wD2 : PD := appD wD1 0 1 1 (rec 2 3 [7])
theorem w_sh : ShapeOk wD0.s := ⟨by decide, by decide, by decide, by decide, by decide, by decide⟩
theorem w_e0 : appE wD0 0 0 0 = (1, 0) := by decide
theorem w_r1 : RecOk 1 3 [] := ⟨⟨by decide, by decide⟩, ⟨by decide, by decide⟩, Byt.nil, by decide⟩
theorem w_r2 : RecOk 2 3 [7] := ⟨⟨by decide, by decide⟩, ⟨by decide, by decide⟩, fun x hx => by simp at hx; omega, by decide⟩
theorem w_s1 : wD1.s = (1, 4, 16) := appD_s _ _ _ _ _
theorem w_s2 : wD2.s = (1, 4, 16) := (appD_s _ _ _ _ _).trans w_s1
theorem w_u1 (d : Int) (h : 1 ≤ d) : usedB wD1 0 d = false := by
  have := app_used (D := wD0) w_sh (a := 0) (b := 0) (kd := 1) (sq := 3) (l := []) (by rw [List.length_nil, w_e0]) 0 d
  unfold wD1
  rw [List.length_nil] at this
  rw [this]
  have hk : kpg wD0.s 0 = 1 := by decide
  rw [hk, decide_eq_false (by omega)]
  unfold usedB
  simp [wD0, look]
theorem w_e1 : (appE wD1 0 1 1).2 = 0 := by
  refine (appE_zero 0 1 1).2 ⟨?_, by decide, ?_, ?_⟩
  · rw [w_s1]; decide
  · rw [w_s1]; decide
  · unfold anyUsedD
    rw [List.any_eq_false]
    intro i _
    rw [w_u1 _ (by omega)]
    decide
theorem w_b2 : BytD wD2 := by
  have h1 : BytD wD1 := BytD.app w_sh (BytD.new _) _ _ _ (rec_byt w_r1.kd w_r1.byt)
  exact BytD.app (by rw [w_s1]; exact w_sh) h1 _ _ _ (rec_byt w_r2.kd w_r2.byt)
theorem w_scan (hs : Sound wD2) : scanD wD2 0 = (3, [⟨0, 1, 3, 2, 2, [7]⟩], true) := by
  have hs1 : ShapeOk wD1.s := by rw [w_s1]; exact w_sh
  have h0 : Holds wD1 0 0 1 3 [] := by
    have := app_holds (D := wD0) w_sh (a := 0) (b := 0) w_r1 (by rw [List.length_nil, w_e0])
    exact this
  have h1 : Holds wD2 0 0 1 3 [] := h0.keep hs1 (a := 0) (b := 1) (kd := 2) (sq := 3) (l := [7]) w_e1 (.inr (by rw [w_s1]; decide))
  have h2 : Holds wD2 0 1 2 3 [7] := app_holds (D := wD1) hs1 (a := 0) (b := 1) w_r2 w_e1
  have hu : usedB wD2 0 3 = false := by
    have := app_used (D := wD1) hs1 (a := 0) (b := 1) (kd := 2) (sq := 3) (l := [7]) w_e1 0 3
    have e : wD2 = appD wD1 0 1 ([7] : List Int).length (rec 2 3 [7]) := rfl
    rw [e, this, w_u1 3 (by decide), w_s1]
    decide
  have he : (entD wD2 0 3).2 ≠ 0 := by
    rw [unused_ent hs hu (by rw [w_s2]; decide)]
    decide
  have hc : Chain wD2 0 3 1 [(2, [7])] 3 := ⟨h2, by decide, by show (1 : Int) + _ = 3; rw [w_s2]; decide⟩
  have hsc := hc.scan hs w_b2 he (f := 64) (by rw [w_s2]; decide)
  have hen := h1.ent hs w_b2
  unfold scanD scanL
  rw [hen, if_neg (by simp)]
  simp only
  have hk : (kpg wD2.s ([] : List Int).length : Int) = 1 := by rw [w_s2]; decide
  rw [hk, hsc]
  have hk2 : (kpg wD2.s 1 : Int) = 2 := by rw [w_s2]; decide
  simp [entsL, hk2]
theorem w_dirty : wD1.dirty.length < 900000 := by
  have := app_dirty (D := wD0) w_sh (a := 0) (b := 0) (kd := 1) (sq := 3) (l := []) (by rw [List.length_nil, w_e0])
  unfold wD1
  rw [List.length_nil] at this
  rw [this]
  have hk : kpg wD0.s 0 = 1 := by decide
  rw [hk]
  decide
theorem C_one7 {w : World} {g : Nat} (h : w.cell? ⟨g, 0, none⟩ = some (.int .u8 7)) : kB.C w (some ⟨g, 0, none⟩) [(7 : Int)].length [7] := by
  refine Kd.C_of_reads (d := 0) ⟨rfl, by simp, fun _ => ⟨_, rfl, fun j hj => ?_⟩⟩
  have : j = 0 := by simp at hj; exact hj
  subst this
  exact h
set_option maxHeartbeats 2000000 in
set_option maxRecDepth 100000 in
theorem Awake14_any (w : World) : Calls Try.prog 8 #[] w fun e w' => e = .returned (.bool true) ∧ Below w.heap.size w w' := by
  have hnew : Calls Try.prog 11 #[.agg #[.int .i64 1, .int .i64 4, .int .i64 16]] w fun e w' => ∃ p, e = .returned (.tuple #[.pointer (some ⟨p, 0, none⟩), .int .i64 0]) ∧ DevIs w.heap.size p wD0 (fun k => w.heap.size ≤ k) w' ∧ Below w.heap.size w w' := New_ok (1, 4, 16) rfl w w.heap.size (Nat.le_refl _)
  have hst : ∀ (p : Nat) (W : World), Solo w.heap.size p (fun _ => False) wD0 W → Calls Try.prog 12 #[.pointer (some ⟨p, 0, none⟩), .int .i64 0, .int .u64 3] W fun e w' => e = .returned (.int .i64 0) ∧ Solo w.heap.size p (fun _ => False) wD1 w' ∧ Below w.heap.size W w' := fun p W h => by
    have := Start_F (seq := 3) (solo_frame _ _) h 0 w_r1.sq (by decide)
    rw [w_e0] at this
    exact this.mono fun e w' ⟨h1, h2, h3, _⟩ => ⟨h1, h2, h3⟩
  have hap : ∀ (p g : Nat) (W : World), Solo w.heap.size p (fun _ => False) wD1 W → W.cell? ⟨g, 0, none⟩ = some (.int .u8 7) → Calls Try.prog 14 #[.pointer (some ⟨p, 0, none⟩), .int .i64 0, .int .i64 1, .int .u64 3, .int .u8 2, .slice (some ⟨g, 0, none⟩) 1 1] W fun e w' => e = .returned (.tuple #[.int .i64 2, .int .i64 0]) ∧ Solo w.heap.size p (fun _ => False) wD2 w' ∧ Below w.heap.size W w' := fun p g W h hg => by
    have := Append_F (kind := 2) (seq := 3) (c := 1) (solo_frame _ _) h 0 1 w_r2.kd w_r2.sq w_r2.byt (C_one7 hg) (by decide) (by decide) w_dirty
    have he : appE wD1 0 1 [(7 : Int)].length = (2, 0) := by
      rw [appE_one (n := [(7 : Int)].length) w_e1, w_s1]
      decide
    rw [he] at this
    exact this.mono fun e w' ⟨h1, h2, h3, _⟩ => ⟨h1, h2, h3⟩
  have hsc : ∀ (p : Nat) (W : World), Solo w.heap.size p (fun _ => False) wD2 W → Calls Try.prog 15 #[.pointer (some ⟨p, 0, none⟩), .int .i64 0] W fun e w' => ∃ ad c, e = .returned (.tuple #[.int .u64 3, .slice (some ad) 1 c, .bool true]) ∧ w'.cell? ⟨ad.block, ad.off + 1, none⟩ = some (.int .i64 1) ∧ Below W.heap.size W w' := fun p W h => by
    have h1 := (solo_frame _ _).scan h w_b2 0
    rw [w_scan ((solo_frame _ _).sound h)] at h1
    refine h1.mono fun e w' ⟨v, e1, hR, hb⟩ => ?_
    obtain ⟨A, c, rfl, _, hC⟩ := Kd.R_reads hR
    obtain ⟨ad, rfl, hc⟩ := hC.2.2 (by simp)
    obtain ⟨cs, _, ⟨A1, c1, rfl, _, _⟩, hcell⟩ := hc 0 _ rfl
    refine ⟨ad, c, e1, ?_, hb⟩
    have := hcell 1 (.int .i64 1) rfl
    simpa [Addr.add] using this
  have hal : ∀ (p : Nat) (W : World) (o : Obj), Solo w.heap.size p (fun _ => False) wD1 W → Solo w.heap.size p (fun _ => False) wD1 (W.alloc o) := fun p W o h => (solo_frame _ _).below h (below_alloc (Below.refl _ _) _)
  have HNEW := Lib.hid hnew
  have HST := Lib.hid hst
  have HAP := Lib.hid hap
  have HSC := Lib.hid hsc
  have HAL := Lib.hid hal
  clear hnew hst hap hsc hal
  go_enter Try.func8, Try.ntmps8
  go_wp2_with (first
    | (go_at_call 11; (with_reducible refine HNEW.out.mono ?_); rintro e w1 ⟨p, rfl, hd, hb⟩; have HD1 := Aside0.mk (Solo.new (Nat.le_refl _) hd hb); have HB1 := Aside0.mk hb; clear hd hb)
    | (go_at_call 12; (with_reducible refine (HST.out _ _ HD1.out).mono ?_); rintro e w2 ⟨rfl, hd, hb⟩; have HD2 := Aside0.mk hd; have HB2 := Aside0.mk (HB1.out.trans hb); clear hd hb)
    | (go_at_call 14; (refine (HAP.out _ _ _ (HAL.out _ _ _ HD2.out) (bcell (blk_new _ _) 0)).mono ?_); rintro e w3 ⟨rfl, hd, hb⟩; have HD3 := Aside0.mk hd; have HB3 := Aside0.mk ((HB2.out.alloc HB2.out.size _).trans hb); clear hd hb)
    | (go_at_call 15; (with_reducible refine (HSC.out _ _ HD3.out).mono ?_); rintro e w4 ⟨ad, c, rfl, hcl, hb⟩; have HB4 := Aside0.mk (HB3.out.trans (hb.mono HB3.out.size)); clear hb))
  go_ret
  exact ⟨rfl, HB4.out⟩
end Go.Proofs.Ytmbiebdcnadhkaa.Fl
namespace Go.Proofs.Ytmbiebdcnadhkaa.Fl
open Go.RowKit Go.Proofs.YtmbiebdcnadhkaaW.PrintWords Go.Proofs.YtmbiebdcnadhkaaW.PrintMore Go.Maps
set_option linter.unusedSimpArgs false
set_option linter.unusedVariables false
theorem ref_cells {N0 x : Nat} {s : Int × Int × Int} {ps : List Pg} {ok : Nat → Prop} {w : World} (h : RefIs N0 x s ps ok w) : w.cell? ⟨x, 0, none⟩ = some (.int .i64 s.1) ∧ w.cell? ⟨x, 1, none⟩ = some (.int .i64 s.2.1) ∧ w.cell? ⟨x, 2, none⟩ = some (.int .i64 s.2.2) := by
  obtain ⟨_, _, v, hx, _⟩ := h
  exact ⟨bcell hx 0, bcell hx 1, bcell hx 2⟩
section
variable {N0 x : Nat} {s : Int × Int × Int} {G : (Nat → Prop) → List Pg → World → Prop} {K : Nat → Prop} {ps : List Pg} {w : World} {A : Option Addr} {c : Nat} {l : List Int} {kind seq : Int}
end
end Go.Proofs.Ytmbiebdcnadhkaa.Fl
namespace Go.Proofs.Ytmbiebdcnadhkaa.Fl
open Go.RowKit Go.Proofs.YtmbiebdcnadhkaaW.PrintWords Go.Proofs.YtmbiebdcnadhkaaW.PrintMore Go.Maps
set_option linter.unusedSimpArgs false
set_option linter.unusedVariables false
structure RecT where
  seg : Int
  page : Int
  seq : Int
  kind : Int
  l : List Int
structure RecTOk (r : RecT) : Prop where
  kd : KindOk r.kind
  sq : SeqOk r.seq
  byt : Byt r.l
structure RCell (w : World) (ad : Addr) (i : Nat) (r : RecT) (A : Option Addr) (c : Nat) : Prop where
  c0 : w.cell? (ad.add (i * 5)) = some (.int .i64 r.seg)
  c1 : w.cell? ⟨(ad.add (i * 5)).block, (ad.add (i * 5)).off + 1, none⟩ = some (.int .i64 r.page)
  c2 : w.cell? ⟨(ad.add (i * 5)).block, (ad.add (i * 5)).off + 2, none⟩ = some (.int .u64 r.seq)
  c3 : w.cell? ⟨(ad.add (i * 5)).block, (ad.add (i * 5)).off + 3, none⟩ = some (.int .u8 r.kind)
  c4 : w.cell? ⟨(ad.add (i * 5)).block, (ad.add (i * 5)).off + 4, none⟩ = some (.slice A r.l.length c)
  row : kB.C w A r.l.length r.l
  cap : r.l.length ≤ c
def RRow (w : World) (A : Option Addr) (rs : List RecT) : Prop := ∀ (i : Nat) (r : RecT), rs[i]? = some r → ∃ ad A1 c1, A = some ad ∧ RCell w ad i r A1 c1
theorem RCell.below {w w' : World} {ad : Addr} {i : Nat} {r : RecT} {A : Option Addr} {c : Nat} (h : RCell w ad i r A c) (hb : Below w.heap.size w w') : RCell w' ad i r A c :=
  have f : ∀ {a : Addr} {v : Value}, w.cell? a = some v → w'.cell? a = some v := fun h => (hb.cell (blt_of_cell h)).trans h
  ⟨f h.c0, f h.c1, f h.c2, f h.c3, f h.c4, Kd.C_below h.row hb, h.cap⟩
theorem RRow.below {w w' : World} {A : Option Addr} {rs : List RecT} (h : RRow w A rs) (hb : Below w.heap.size w w') : RRow w' A rs := fun i d hi => by
  obtain ⟨ad, A1, c1, h1, h2⟩ := h i d hi
  exact ⟨ad, A1, c1, h1, h2.below hb⟩
def fewR (rs : List RecT) : Bool := rs.all (fun r => decide (r.l.length ≤ 600)) && decide (rs.length ≤ 40)
theorem fewR_ok {rs : List RecT} (h : fewR rs = true) : rs.length ≤ 40 ∧ ∀ r ∈ rs, r.l.length ≤ 600 := by
  unfold fewR at h
  simp at h
  exact ⟨h.2, h.1⟩
theorem allR_take_succ {q : RecT → Bool} {rs : List RecT} {k : Nat} {r : RecT} (h : rs[k]? = some r) : (rs.take (k + 1)).all q = ((rs.take k).all q && q r) := by
  rw [List.take_add_one, h, List.all_append]
  simp
set_option maxHeartbeats 2000000 in
set_option maxRecDepth 100000 in
theorem Few14_any {w : World} {A : Option Addr} {c : Nat} {rs : List RecT} (hr : RRow w A rs) (h0 : rs.length ≤ 9223372036854775807) :
    Calls Try.prog 9 #[.slice A rs.length c] w fun e w' => e = .returned (.bool (fewR rs)) ∧ Below w.heap.size w w' := by
  obtain ⟨n, hn⟩ : ∃ n, n = rs.length := ⟨_, rfl⟩
  have HR := Lib.hid hr
  have HN := Lib.hid hn
  rw [← hn] at h0
  rw [← hn]
  clear hr hn
  go_enter Try.func9, Try.ntmps9
  go_wp2
  go_loopw [4, 7] (fun v4 v7 wr => ∃ k : Nat, k ≤ n ∧ v7 = .int .i64 (k : Int) ∧ Below w.heap.size w wr ∧ (rs.take k).all (fun r => decide (r.l.length ≤ 600)) = true) (fun _ v7 _ => n - (intOf v7).toNat)
  case atStart => exact ⟨0, Nat.zero_le _, rfl, Below.refl _ _, rfl⟩
  case round =>
    obtain ⟨k, hk, rfl, hb, ht⟩ := hrel
    have HB := Aside0.mk hb
    have HT := Lib.hid ht
    clear hb ht
    by_cases hlt : k < n
    · obtain ⟨r, hd⟩ : ∃ r, rs[k]? = some r := ⟨_, List.getElem?_eq_getElem (by have := HN.out; omega)⟩
      obtain ⟨ad, A1, c1, hA, hc⟩ := HR.out k r hd
      have hc := hc.below HB.out
      subst hA
      have d0 := hc.c0; have d1 := hc.c1; have d2 := hc.c2; have d3 := hc.c3; have d4 := hc.c4
      have HD := Lib.hid hd
      have k0 : (0 : Int) ≤ (k : Int) := by omega
      have k2 : (k : Int) < (n : Int) := by omega
      clear hd hc
      obtain ⟨ra, rb, rq, rk, dl⟩ := r
      simp only at d0 d1 d2 d3 d4
      by_cases hg : dl.length ≤ 600
      · have e1 : decide (600 < (dl.length : Int)) = false := by simp; omega
        go_wp2
        refine ⟨⟨k + 1, by omega, by go_num, below_alloc HB.out _, ?_⟩, by simp [intOf]; omega⟩
        rw [allR_take_succ HD.out, HT.out]
        simpa using hg
      · have e1 : decide (600 < (dl.length : Int)) = true := by simp; omega
        go_wp2
        go_ret
        refine ⟨?_, below_alloc HB.out _⟩
        have : fewR rs = false := by
          unfold fewR
          rw [List.all_eq_false.2 ⟨_, List.mem_of_getElem? HD.out, by simpa using hg⟩]
          rfl
        rw [this]
        rfl
    · obtain rfl : k = n := by omega
      have ha : fewR rs = decide ((k : Int) ≤ 40) := by
        have h := HT.out
        rw [List.take_of_length_le (by have := HN.out; omega)] at h
        unfold fewR
        rw [h, ← HN.out]
        simp only [Bool.true_and, decide_eq_decide]
        omega
      have HA := Lib.hid ha
      clear ha
      go_wp2
      go_ret
      exact ⟨by rw [HA.out]; rfl, HB.out⟩
theorem appP_len {s : Int × Int × Int} (hs : ShapeOk s) (ps : List Pg) (a b : Int) (n : Nat) {bs : List Int} (hb : bs.length = n + 16) : (appP s ps a b n bs).length ≤ ps.length + 257 := by
  unfold appP
  split
  · rename_i h
    have h1 := wrP_len s a (chunkL s.2.2.toNat bs) b ps
    have h2 := chunk_len (n := s.2.2.toNat) (by have := nb_pos hs; omega) bs
    have h3 : n ≤ 4096 := by
      unfold appR at h
      by_cases h1 : hasB s a b = false
      · rw [if_pos h1] at h; cases h
      · rw [if_neg h1] at h
        by_cases h2 : 4096 < n
        · rw [if_pos h2] at h; cases h
        · omega
    have h4 := kpg_bd hs h3
    unfold kpg at h4
    rw [hb] at h2
    omega
  · omega
end Go.Proofs.Ytmbiebdcnadhkaa.Fl
namespace Go.Proofs.Ytmbiebdcnadhkaa.Fl
open Go.RowKit Go.Proofs.YtmbiebdcnadhkaaW.PrintWords Go.Proofs.YtmbiebdcnadhkaaW.PrintMore Go.Maps
set_option linter.unusedSimpArgs false
set_option linter.unusedVariables false
end Go.Proofs.Ytmbiebdcnadhkaa.Fl
namespace Go.Proofs.Ytmbiebdcnadhkaa.Fl
open Go.RowKit Go.Proofs.YtmbiebdcnadhkaaW.PrintWords Go.Proofs.YtmbiebdcnadhkaaW.PrintMore Go.Maps
set_option linter.unusedSimpArgs false
set_option linter.unusedVariables false
def rawPK (n : Nat) (ps : List Pg) (a b : Int) (k : Nat) : List Int := (List.range k).flatMap fun (i : Nat) => readP n a (b + (i : Int)) ps
def rawP (s : Int × Int × Int) (ps : List Pg) (a b : Int) : List Int := rawPK s.2.2.toNat ps a b (nRaw s a b)
theorem rawPK_succ (n : Nat) (ps : List Pg) (a b : Int) (k : Nat) : rawPK n ps a b (k + 1) = rawPK n ps a b k ++ readP n a (b + (k : Int)) ps := by
  simp [rawPK, List.range_succ]
theorem readP_len {n : Nat} {ps : List Pg} (hp : ∀ p ∈ ps, p.2.1.length = n) (a b : Int) : (readP n a b ps).length = n := by
  unfold readP
  split
  · rename_i p h
    exact hp p (List.mem_of_find?_eq_some h)
  · exact fullT_length _ _
theorem rawPK_len {n : Nat} {ps : List Pg} {a b : Int} (hl : ∀ x, (readP n a x ps).length ≤ 256) : ∀ k, (rawPK n ps a b k).length ≤ 256 * k
  | 0 => by simp [rawPK]
  | k + 1 => by
    rw [rawPK_succ, List.length_append]
    have := rawPK_len (b := b) hl k
    have := hl (b + (k : Int))
    omega
section
variable {N0 x : Nat} {s : Int × Int × Int} {ps : List Pg} {w : World} {ok : Nat → Prop}
set_option maxHeartbeats 2000000 in
set_option maxRecDepth 100000 in
theorem RRaw_any (hX : RefIs N0 x s ps ok w) (hs : ShapeOk s) (hl : ps.length < 1000000) (hp : ∀ p ∈ ps, p.2.1.length = s.2.2.toNat) (a b : Int) : Calls Try.prog 47 #[.pointer (some ⟨x, 0, none⟩), .int .i64 a, .int .i64 b] w fun e w' => ∃ A c, e = .returned (.slice A (rawP s ps a b).length c) ∧ (rawP s ps a b).length ≤ c ∧ kB.C w' A (rawP s ps a b).length (rawP s ps a b) ∧ Below w.heap.size w w' := by
  have hglen : ∀ x, (readP s.2.2.toNat a x ps).length ≤ 256 := fun y => by rw [readP_len hp]; have := hs.c1; omega
  have hlen : ∀ k, (rawPK s.2.2.toNat ps a b k).length ≤ 256 * k := rawPK_len hglen
  have hrd := fun (V : World) (hV : Below w.heap.size w V) (y : Int) => RRead_any (hX.below hV) hs hl a y
  have hhs := fun (V : World) (hV : Below w.heap.size w V) (y : Int) => RHas_any (hX.below hV) a y
  have hn := nRaw_le hs a b
  have hnl := fun i => @nRaw_lt s a b i
  have hne := @nRaw_eq s a b
  unfold rawP
  obtain ⟨n, hnn⟩ : ∃ n, n = nRaw s a b := ⟨_, rfl⟩
  rw [← hnn] at hn hne hnl ⊢
  have hb1 := hs.b1
  have hN := hX.1
  have HLEN := Lib.hid hlen
  have HGL := Lib.hid hglen
  have HRD := Lib.hid hrd
  have HHS := Lib.hid hhs
  have HNL := Lib.hid hnl
  have HNE := Lib.hid hne
  clear hlen hglen hrd hnl hne hnn hs hX hhs hp hN
  go_enter Try.func47, Try.ntmps47
  go_wp2
  go_loopw [2, 7] (fun v2 v7 wr => ∃ i : Nat, i ≤ n ∧ v2 = .int .i64 (b + (i : Int)) ∧ kB.R TB wr w.heap.size (fun k => w.heap.size ≤ k) v7 (rawPK s.2.2.toNat ps a b i) ∧ Below w.heap.size w wr) (fun v2 _ _ => n - (intOf v2 - b).toNat)
  case atStart => exact ⟨0, Nat.zero_le _, by simp, Kd.R_nil _ _ _ _ _, Below.refl _ _⟩
  case round =>
    obtain ⟨i, hi, rfl, hR, hb⟩ := hrel
    obtain ⟨A7, c7, rfl⟩ := Kd.R_slice hR
    have HR := Aside0.mk hR
    have HB := Aside0.mk hb
    clear hR hb
    have hLn := HLEN.out i
    have HLN := Lib.hid hLn
    clear hLn
    by_cases hb0 : 0 ≤ b
    · have g0 : (0 : Int) ≤ b + (i : Int) := by omega
      by_cases hin : i < n
      · obtain ⟨hh, -, hlt⟩ := HNL.out i hin
        have HH := Lib.hid hh
        have HG := Lib.hid (HGL.out (b + (i : Int)))
        clear hh
        go_wp2_with (first
          | (go_at_call 40; (with_reducible refine (HHS.out _ HB.out _).mono ?_); rintro e w1 ⟨rfl, rfl⟩; rw [HH.out])
          | (at_builtin; refine Kd.R_append_row (Value.int .u8) (0 : Int) (w0 := w) w.heap.size rfl (.tmp 16) (.tmp 20) 36 TB (.int .u8 0) 1 rfl Try.underlying36 info_u8 rfl (by decide) (.slice A7 (rawPK s.2.2.toNat ps a b i).length c7) (rawPK s.2.2.toNat ps a b i) (readP s.2.2.toNat a (b + (i : Int)) ps) _ _ _ (fun k => w.heap.size ≤ k) rfl rfl (fun k hk => Nat.le_trans HB2.out.size hk) HR2.out HC2.out HB2.out HB2.out.size (by have := HG.out; have := HLN.out; omega) ?_; intro v3 w3 ho3 hb3 hg3 hat3; clear hg3 hat3; have HO3 := Aside0.mk ho3; have HB3 := Aside0.mk hb3; clear ho3 hb3)
          | (go_at_call 78; (with_reducible refine (HRD.out _ HB.out _).mono ?_); rintro e w2 ⟨v, rfl, hrow, hb2⟩; obtain ⟨A8, c8, rfl, _, hC2⟩ := hrow.reads; have HR2 := Aside0.mk (Kd.R_below HR.out hb2); have HC2 := Aside0.mk hC2; have HB2 := Aside0.mk (HB.out.trans (hb2.mono HB.out.size)); clear hrow hb2 hC2))
        refine ⟨⟨i + 1, hin, by congr 1; push_cast; omega, by rw [rawPK_succ]; exact HO3.out, HB3.out⟩, ?_⟩
        simp only [intOf]
        omega
      · have hii : i = n := by omega
        subst hii
        have HH := Lib.hid (HNE.out hb0)
        obtain ⟨A9, c9, e9, hc9, hC9⟩ := (Row.ofR HR.out).reads
        cases e9
        have HC9 := Aside0.mk hC9
        have HCC := Lib.hid hc9
        clear hC9 hc9
        go_wp2_with (go_at_call 40; (with_reducible refine (HHS.out _ HB.out _).mono ?_); rintro e w1 ⟨rfl, rfl⟩; rw [HH.out])
        go_ret
        first | exact ⟨_, _, rfl, HCC.out, HC9.out, HB.out⟩ | exact ⟨_, HCC.out, HC9.out, HB.out⟩ | exact ⟨HCC.out, HC9.out, HB.out⟩ | exact ⟨A7, ⟨c7, rfl⟩, HCC.out, HC9.out, HB.out⟩ | exact ⟨_, _, ⟨rfl, rfl⟩, HCC.out, HC9.out, HB.out⟩
    · have hn0 : n = 0 := by
        by_cases hn0 : 0 < n
        · exact absurd (HNL.out 0 hn0).2.1 hb0
        · omega
      have hii : i = n := by omega
      subst hii
      have g0 : ¬ (0 : Int) ≤ b + (i : Int) := by omega
      have g1 : decide ((0 : Int) ≤ b + (i : Int)) = false := decide_eq_false g0
      clear hn0
      obtain ⟨A9, c9, e9, hc9, hC9⟩ := (Row.ofR HR.out).reads
      cases e9
      have HC9 := Aside0.mk hC9
      have HCC := Lib.hid hc9
      clear hC9 hc9
      go_wp2
      go_ret
      first | exact ⟨_, _, rfl, HCC.out, HC9.out, HB.out⟩ | exact ⟨_, HCC.out, HC9.out, HB.out⟩ | exact ⟨A7, c7, rfl, HCC.out, HC9.out, HB.out⟩ | exact ⟨A7, ⟨c7, rfl⟩, HCC.out, HC9.out, HB.out⟩
end
end Go.Proofs.Ytmbiebdcnadhkaa.Fl
namespace Go.Proofs.Ytmbiebdcnadhkaa.Fl
open Go.RowKit Go.Proofs.YtmbiebdcnadhkaaW.PrintWords Go.Proofs.YtmbiebdcnadhkaaW.PrintMore Go.Maps
set_option linter.unusedSimpArgs false
set_option linter.unusedVariables false
def entP (s : Int × Int × Int) (ps : List Pg) (a b : Int) : En × Int := entL s a b (rawP s ps a b)
def scanP (s : Int × Int × Int) (ps : List Pg) (a : Int) : Int × List En × Bool := scanL (entP s ps a) s.2.1
theorem rawP_byt {s : Int × Int × Int} {ps : List Pg} (h : BytP ps) (a b : Int) : Byt (rawP s ps a b) := by
  intro x hx
  unfold rawP rawPK at hx
  rw [List.mem_flatMap] at hx
  obtain ⟨i, _, hi⟩ := hx
  unfold readP at hi
  split at hi
  · rename_i p hp
    exact h p (List.mem_of_find?_eq_some hp) x hi
  · exact Byt.fullT Byt.nil x hi
section
variable {N0 x : Nat} {s : Int × Int × Int} {ps : List Pg} {w : World} {ok : Nat → Prop}
set_option maxHeartbeats 2000000 in
set_option maxRecDepth 100000 in
theorem Entry_ent (hX : RefIs N0 x s ps ok w) (hs : ShapeOk s) (hl : ps.length < 1000000) (hp : ∀ p ∈ ps, p.2.1.length = s.2.2.toNat) (hby : BytP ps) (a b : Int) : Calls Try.prog 39 #[.pointer (some ⟨x, 0, none⟩), .agg #[.int .i64 a, .int .i64 b]] w (EntPost w (entP s ps a b)) := by
  obtain ⟨W, hW⟩ : ∃ W, W = (w.alloc (.cells #[.int .i64 a, .int .i64 b] TA)).alloc (.cells #[.int .i64 0, .int .i64 0, .int .u64 0, .int .i64 0, .int .u8 0, .slice none 0 0] TE) := ⟨_, rfl⟩
  have q0 : W.heap[w.heap.size]? = some (.cells #[.int .i64 a, .int .i64 b] TA (0, 0)) := by
    rw [hW]; exact (Below.heap_alloc _ _ _ (by simp)).trans (blk_new w _)
  have q1 : W.heap[w.heap.size + 1]? = some (.cells #[.int .i64 0, .int .i64 0, .int .u64 0, .int .i64 0, .int .u8 0, .slice none 0 0] TE (0, 0)) := by
    rw [hW]; have := blk_new (w.alloc (.cells #[.int .i64 a, .int .i64 b] TA)) (.cells #[.int .i64 0, .int .i64 0, .int .u64 0, .int .i64 0, .int .u8 0, .slice none 0 0] TE); rwa [World.size_alloc] at this
  have qb : Below w.heap.size w W := by rw [hW]; exact below_alloc (below_alloc (Below.refl _ _) _) _
  have hbox : ∀ X : World, Below W.heap.size W X → X.heap[w.heap.size]? = some (.cells #[.int .i64 a, .int .i64 b] TA (0, 0)) ∧ X.heap[w.heap.size + 1]? = some (.cells #[.int .i64 0, .int .i64 0, .int .u64 0, .int .i64 0, .int .u8 0, .slice none 0 0] TE (0, 0)) := fun X hX =>
    ⟨(hX.block _ (blt q0)).trans q0, (hX.block _ (blt q1)).trans q1⟩
  have hth := RHas_any (hX.below qb) a b
  have hxlt : x < w.heap.size := by
    obtain ⟨_, _, v, hx, _⟩ := hX
    exact blt hx
  have hxc := fun (X : World) (hX' : Below W.heap.size W X) => ref_cells ((hX.below qb).below hX')
  have hraw := fun (X : World) (hX' : Below W.heap.size W X) => RRaw_any ((hX.below qb).below hX') hs hl hp a b
  have k0 : W.cell? ⟨w.heap.size, 0, none⟩ = some (.int .i64 a) := bcell q0 0
  have k1 : W.cell? ⟨w.heap.size, 1, none⟩ = some (.int .i64 b) := bcell q0 1
  have hrl : (rawP s ps a b).length ≤ 16384 := by
    have h1 := rawPK_len (b := b) (fun y => show (readP s.2.2.toNat a y ps).length ≤ 256 by rw [readP_len hp]; have := hs.c1; omega) (nRaw s a b)
    have h2 := nRaw_le hs a b
    unfold rawP
    omega
  have hrb := rawP_byt (s := s) hby a b
  have HBOX := Lib.hid hbox
  have HTH := Lib.hid hth
  have HRAW := Lib.hid hraw
  have HXC := Lib.hid hxc
  have HS := Lib.hid hs
  have HRL := Lib.hid hrl
  have HRB := Lib.hid hrb
  have HW := Lib.hid hW
  have QB := Aside0.mk qb
  have QS := Lib.hid (show w.heap.size + 1 < W.heap.size from blt q1)
  clear hbox hth hraw hxc hs hrl hrb hW qb q0 q1 hX hby hl hp
  cases hb : hasB s a b with
  | false =>
    have hE : entP s ps a b = (zEn, 6) := by unfold entP entL; rw [if_pos hb]
    have HTE := Lib.hid hb
    rw [hE]
    clear hE hb
    go_enter Try.func39, Try.ntmps39
    go_wp2_with fail
    rw [← HW.out]
    obtain ⟨z0, z1⟩ := HBOX.out _ (Below.refl _ _)
    have k0 : W.cell? ⟨w.heap.size, 0, none⟩ = some (.int .i64 a) := bcell z0 0
    have k1 : W.cell? ⟨w.heap.size, 1, none⟩ = some (.int .i64 b) := bcell z0 1
    obtain ⟨t0, t1, t2, t3, t4, t5, f0, f1, f2, f3, f4, f5⟩ := ent_cells z1
    have Z1 := Lib.hid z1
    have HB1 := Aside0.mk (Below.refl W.heap.size W)
    clear z0 z1
    go_wp2_with (go_at_call 40; (with_reducible refine HTH.out.mono ?_); rw [HTE.out]; rintro e w1 ⟨rfl, rfl⟩)
    refine post_world (EndE w zEn (.slice none 0 0)) (EndE.zero Z1.out (QB.out.trans (HB1.out.mono QB.out.size))) ?_
    rintro Y ⟨y, hd, hb⟩
    obtain ⟨t0, t1, t2, t3, t4, t5, -⟩ := ent_cells y
    exact bodyPost_ret (v := .tuple #[.agg #[.int .i64 0, .int .i64 0, .int .u64 0, .int .i64 0, .int .u8 0, .slice none 0 0], .int .i64 6]) (by simp [results, Try.results39, go_sem, t0, t1, t2, t3, t4, t5, zEn]) rfl ⟨_, rfl, hd, hb⟩
  | true =>
    have HTE := Lib.hid hb
    obtain ⟨n, hn⟩ : ∃ n, n = (rawP s ps a b).length := ⟨_, rfl⟩
    have hget := fun (X : World) (A : Option Addr) (c : Nat) (hC : kB.C X A n (rawP s ps a b)) (hc : n ≤ c) => Parse_ok (w := X) (A := A) (c := c) HRB.out (by have := HRL.out; omega) (by rw [← hn]; exact hC) (by rw [← hn]; exact hc)
    rw [← hn] at hget
    have hraw := HRAW.out
    rw [← hn] at hraw
    have HRW := Lib.hid hraw
    have hnl : n ≤ 16384 := by have := HRL.out; omega
    have hP : entP s ps a b = if (parsed (rawP s ps a b)).2.2.2.2 = 0 then (⟨a, b, (parsed (rawP s ps a b)).2.1, (kpg s ((parsed (rawP s ps a b)).2.2.2.1 - 16).toNat : Int), (parsed (rawP s ps a b)).1, (parsed (rawP s ps a b)).2.2.1⟩, 0) else (zEn, (parsed (rawP s ps a b)).2.2.2.2) := by unfold entP entL; rw [if_neg (by rw [hb]; decide)]
    have hok : (parsed (rawP s ps a b)).2.2.2.2 = 0 → ParsedN (rawP s ps a b) (parsed (rawP s ps a b)).2.2.2.1 (parsed (rawP s ps a b)).2.2.1 := fun h => parsed_n h
    clear hn hraw hb HRAW
    rw [hP]
    clear hP
    generalize hPE : parsed (rawP s ps a b) = P at hget hok ⊢
    obtain ⟨kd, sq, d, pn, er⟩ := P
    simp only at hget hok ⊢
    have HGET := Lib.hid hget
    clear hget
    by_cases he : er = 0
    · subst he
      obtain ⟨m, hm1, hm2, hm3, hm4⟩ := hok rfl
      rw [if_pos rfl]
      subst hm1
      have HM4 := Lib.hid hm4
      have e16 : (m : Int) + 16 - 16 = (m : Int) := by omega
      have hkp : (kpg s ((m : Int) + 16 - 16).toNat : Int) = (kpg s m : Int) := by rw [e16]; rfl
      rw [hkp]
      have hw1 : IntKind.i64.wrap (m : Int) = (m : Int) := IntWalk.i64_in _ (by omega)
      have HPG := Lib.hid (fun X : World => RPages_ok m s HS.out (by omega) X)
      obtain ⟨kp, hkpe⟩ : ∃ q, q = kpg s m := ⟨_, rfl⟩
      have hpg := HPG.out
      rw [← hkpe] at hpg ⊢
      have HPG := Lib.hid hpg
      clear hPE hok hm3 hm4 hkp hkpe hpg
      go_enter Try.func39, Try.ntmps39
      go_wp2_with fail
      rw [← HW.out]
      go_wp2_with (first
        | (go_at_call 40; (with_reducible refine HTH.out.mono ?_); rw [HTE.out]; rintro e w1 ⟨rfl, rfl⟩)
        | (go_at_call 47; (with_reducible refine (HRW.out _ (Below.refl _ _)).mono ?_); rintro e w2 ⟨A2, c2, rfl, hc2, hC2, hb⟩; have HB2 := Aside0.mk hb; have HC2 := Aside0.mk hC2; have HCC := Lib.hid hc2; clear hb hC2 hc2)
        | (go_at_call 84; (with_reducible refine (HGET.out _ _ _ HC2.out HCC.out).mono ?_); rintro e w3 ⟨v3, rfl, hd3, hb⟩; obtain ⟨A3, c3, rfl, -, -⟩ := hd3.reads; have HB3 := Aside0.mk (HB2.out.trans (hb.mono HB2.out.size)); have HD3 := Aside0.mk (Dat.mono (Dat.lower hd3 (Nat.le_trans QB.out.size HB2.out.size)) (fun k hk => Nat.le_trans (Nat.le_trans QB.out.size HB2.out.size) hk)); clear hb hd3))
      have hfc := fun (X : World) (hX : Below (w3.alloc (.cells #[.int .u8 kd, .int .u64 sq, .slice A3 d.length c3] 107)).heap.size (w3.alloc (.cells #[.int .u8 kd, .int .u64 sq, .slice A3 d.length c3] 107)) X) => (hX.block _ (blt (blk_new w3 (.cells #[.int .u8 kd, .int .u64 sq, .slice A3 d.length c3] 107)))).trans (blk_new w3 (.cells #[.int .u8 kd, .int .u64 sq, .slice A3 d.length c3] 107))
      obtain ⟨Z, hZ⟩ : ∃ Z, Z = w3.alloc (.cells #[.int .u8 kd, .int .u64 sq, .slice A3 d.length c3] 107) := ⟨_, rfl⟩
      have HBZ := Aside0.mk (show Below W.heap.size W Z by rw [hZ]; exact below_alloc HB3.out _)
      have HDZ := Aside0.mk (show Dat Z w.heap.size (fun k => w.heap.size ≤ k) (.slice A3 d.length c3) d by rw [hZ]; exact HD3.out.below (below_alloc (Below.refl _ _) _))
      rw [← hZ] at hfc ⊢
      have hz3 : w.heap.size + 1 < w3.heap.size := Nat.lt_of_lt_of_le QS.out HB3.out.size
      have hall := fun (X : World) (hX : Below Z.heap.size Z X) => show X.cell? ⟨w.heap.size, 0, none⟩ = some (.int .i64 a) ∧ X.cell? ⟨w.heap.size, 1, none⟩ = some (.int .i64 b) ∧ X.cell? ⟨w3.heap.size, 0, none⟩ = some (.int .u8 kd) ∧ X.cell? ⟨w3.heap.size, 1, none⟩ = some (.int .u64 sq) ∧ X.cell? ⟨w3.heap.size, 2, none⟩ = some (.slice A3 d.length c3) ∧ X.cell? ⟨x, 2, none⟩ = some (.int .i64 s.2.2) from
        ⟨bcell (HBOX.out X (HBZ.out.trans (hX.mono HBZ.out.size))).1 0, bcell (HBOX.out X (HBZ.out.trans (hX.mono HBZ.out.size))).1 1, bcell (hfc X hX) 0, bcell (hfc X hX) 1, bcell (hfc X hX) 2, (HXC.out X (HBZ.out.trans (hX.mono HBZ.out.size))).2.2⟩
      have HALL := Lib.hid hall
      have HZ := Lib.hid hZ
      obtain ⟨k0, k1, k2, k3, k4, k5⟩ := HALL.out Z (Below.refl _ _)
      have hne1 : ¬ w3.heap.size = w.heap.size + 1 := by omega
      have hne2 : ¬ w.heap.size + 1 = w3.heap.size := by omega
      have hne3 : ¬ x = w.heap.size + 1 := by omega
      have hne4 : ¬ w.heap.size + 1 = x := by omega
      clear hfc hZ hall
      go_region_held3 (fun w' => w'.cell? ⟨w.heap.size, 0, none⟩ = some (.int .i64 a) ∧ w'.cell? ⟨w.heap.size, 1, none⟩ = some (.int .i64 b) ∧ w'.cell? ⟨w3.heap.size, 0, none⟩ = some (.int .u8 kd) ∧ w'.cell? ⟨w3.heap.size, 1, none⟩ = some (.int .u64 sq) ∧ w'.cell? ⟨w3.heap.size, 2, none⟩ = some (.slice A3 d.length c3) ∧ w'.cell? ⟨x, 2, none⟩ = some (.int .i64 s.2.2)) (first | go_keep | exact HALL.out _ HB5.out)
        (first | (go_at_call 42; (with_reducible refine (HPG.out _).mono ?_); rintro e w5 ⟨rfl, hb⟩; have HB5 := Aside0.mk (undrew hb); obtain ⟨z0, z1⟩ := HBOX.out _ (HBZ.out.trans (HB5.out.mono HBZ.out.size)); obtain ⟨t0, t1, t2, t3, t4, t5, f0, f1, f2, f3, f4, f5⟩ := ent_cells z1; have Z1 := Lib.hid z1; clear hb z0 z1))
      go_wp2
      refine post_world (EndE w ⟨a, b, sq, (kp : Int), kd, d⟩ (.slice A3 d.length c3)) (EndE.put ⟨a, b, sq, (kp : Int), kd, d⟩ Z1.out (QB.out.trans ((HBZ.out.trans (HB5.out.mono HBZ.out.size)).mono QB.out.size)) (HDZ.out.below HB5.out)) ?_
      rintro Y ⟨y, hd, hb⟩
      simp only at y hd
      obtain ⟨t0, t1, t2, t3, t4, t5, -⟩ := ent_cells y
      exact bodyPost_ret (v := .tuple #[.agg #[.int .i64 a, .int .i64 b, .int .u64 sq, .int .i64 (kp : Int), .int .u8 kd, .slice A3 d.length c3], .int .i64 0]) (by simp [results, Try.results39, go_sem, t0, t1, t2, t3, t4, t5]) rfl ⟨_, rfl, hd, hb⟩
    · have e1 : (er != 0) = true := bne_iff_ne.2 he
      have HE := Lib.hid he
      rw [if_neg he]
      clear hPE hok he
      go_enter Try.func39, Try.ntmps39
      go_wp2_with fail
      rw [← HW.out]
      go_wp2_with (first
        | (go_at_call 40; (with_reducible refine HTH.out.mono ?_); rw [HTE.out]; rintro e w1 ⟨rfl, rfl⟩)
        | (go_at_call 47; (with_reducible refine (HRW.out _ (Below.refl _ _)).mono ?_); rintro e w2 ⟨A2, c2, rfl, hc2, hC2, hb⟩; have HB2 := Aside0.mk hb; have HC2 := Aside0.mk hC2; have HCC := Lib.hid hc2; clear hb hC2 hc2)
        | (go_at_call 84; (with_reducible refine (HGET.out _ _ _ HC2.out HCC.out).mono ?_); rintro e w3 ⟨v3, rfl, hd3, hb⟩; obtain ⟨A3, c3, rfl, -, -⟩ := hd3.reads; have HB3 := Aside0.mk (HB2.out.trans (hb.mono HB2.out.size)); have HD3 := Aside0.mk hd3; obtain ⟨z0, z1⟩ := HBOX.out _ HB3.out; obtain ⟨t0, t1, t2, t3, t4, t5, f0, f1, f2, f3, f4, f5⟩ := ent_cells z1; have hz3 : w.heap.size + 1 < w3.heap.size := blt z1; have Z1 := Lib.hid z1; clear hb hd3 z0 z1))
      refine post_world (EndE w zEn (.slice none 0 0)) ((EndE.zero Z1.out (QB.out.trans (HB3.out.mono QB.out.size))).alloc _) ?_
      rintro Y ⟨y, hd, hb⟩
      obtain ⟨t0, t1, t2, t3, t4, t5, -⟩ := ent_cells y
      exact bodyPost_ret (v := .tuple #[.agg #[.int .i64 0, .int .i64 0, .int .u64 0, .int .i64 0, .int .u8 0, .slice none 0 0], .int .i64 er]) (by simp [results, Try.results39, go_sem, t0, t1, t2, t3, t4, t5, zEn]) rfl ⟨_, rfl, hd, hb⟩
end
end Go.Proofs.Ytmbiebdcnadhkaa.Fl
namespace Go.Proofs.Ytmbiebdcnadhkaa.Fl
open Go.RowKit Go.Proofs.YtmbiebdcnadhkaaW.PrintWords Go.Proofs.YtmbiebdcnadhkaaW.PrintMore Go.Maps
set_option linter.unusedSimpArgs false
set_option linter.unusedVariables false
section
variable {N0 x : Nat} {s : Int × Int × Int} {ps : List Pg} {w : World} {ok : Nat → Prop}
end
end Go.Proofs.Ytmbiebdcnadhkaa.Fl
namespace Go.Proofs.Ytmbiebdcnadhkaa.Fl
open Go.RowKit Go.Proofs.YtmbiebdcnadhkaaW.PrintWords Go.Proofs.YtmbiebdcnadhkaaW.PrintMore Go.Maps
set_option linter.unusedSimpArgs false
set_option linter.unusedVariables false
def fitsQ (s : Int × Int × Int) (page n : Int) : Bool := decide ((0 ≤ n ∧ n ≤ 4096) ∧ 0 ≤ page ∧ page ≤ s.2.1 ∧ (kpg s n.toNat : Int) ≤ s.2.1 - page)
end Go.Proofs.Ytmbiebdcnadhkaa.Fl
namespace Go.Proofs.Ytmbiebdcnadhkaa.Fl
open Go.RowKit Go.Proofs.YtmbiebdcnadhkaaW.PrintWords Go.Proofs.YtmbiebdcnadhkaaW.PrintMore Go.Maps
set_option linter.unusedSimpArgs false
set_option linter.unusedVariables false
def sameB (e f : En) : Bool := decide (e.a = f.a ∧ e.b = f.b ∧ e.seq = f.seq ∧ e.pages = f.pages ∧ e.kind = f.kind ∧ e.data = f.data)
theorem sameB_self (e : En) : sameB e e = true := decide_eq_true ⟨rfl, rfl, rfl, rfl, rfl, rfl⟩
set_option maxHeartbeats 2000000 in
set_option maxRecDepth 100000 in
theorem SameEntry_ok {w : World} {A B : Option Addr} {c d : Nat} {e f : En} (hl : kB.C w A e.data.length e.data) (hm : kB.C w B f.data.length f.data) (h0 : e.data.length < 1000000) (h1 : f.data.length < 1000000) :
    Calls Try.prog 44 #[.agg #[.int .i64 e.a, .int .i64 e.b, .int .u64 e.seq, .int .i64 e.pages, .int .u8 e.kind, .slice A e.data.length c], .agg #[.int .i64 f.a, .int .i64 f.b, .int .u64 f.seq, .int .i64 f.pages, .int .u8 f.kind, .slice B f.data.length d]] w fun r w' => r = .returned (.bool (sameB e f)) ∧ Below w.heap.size w w' := by
  obtain ⟨W, hW⟩ : ∃ W, W = (w.alloc (.cells #[.int .i64 e.a, .int .i64 e.b, .int .u64 e.seq, .int .i64 e.pages, .int .u8 e.kind, .slice A e.data.length c] TE)).alloc (.cells #[.int .i64 f.a, .int .i64 f.b, .int .u64 f.seq, .int .i64 f.pages, .int .u8 f.kind, .slice B f.data.length d] TE) := ⟨_, rfl⟩
  have q0 : W.heap[w.heap.size]? = some (.cells #[.int .i64 e.a, .int .i64 e.b, .int .u64 e.seq, .int .i64 e.pages, .int .u8 e.kind, .slice A e.data.length c] TE (0, 0)) := by
    rw [hW]; exact (Below.heap_alloc _ _ _ (by simp)).trans (blk_new w _)
  have q1 : W.heap[w.heap.size + 1]? = some (.cells #[.int .i64 f.a, .int .i64 f.b, .int .u64 f.seq, .int .i64 f.pages, .int .u8 f.kind, .slice B f.data.length d] TE (0, 0)) := by
    rw [hW]; have := blk_new (w.alloc (.cells #[.int .i64 e.a, .int .i64 e.b, .int .u64 e.seq, .int .i64 e.pages, .int .u8 e.kind, .slice A e.data.length c] TE)) (.cells #[.int .i64 f.a, .int .i64 f.b, .int .u64 f.seq, .int .i64 f.pages, .int .u8 f.kind, .slice B f.data.length d] TE); rwa [World.size_alloc] at this
  have qb : Below w.heap.size w W := by rw [hW]; exact below_alloc (below_alloc (Below.refl _ _) _) _
  have hby := Bytes_any (c := c) (d := d) (Kd.C_below hl qb) (Kd.C_below hm qb) h0 h1
  obtain ⟨a0, a1, a2, a3, a4, ad⟩ := e
  obtain ⟨b0, b1, b2, b3, b4, bd⟩ := f
  simp only at q0 q1 qb hby hW ⊢
  obtain ⟨n, hn⟩ : ∃ n, n = ad.length := ⟨_, rfl⟩
  obtain ⟨m, hmm⟩ : ∃ n, n = bd.length := ⟨_, rfl⟩
  rw [← hn] at q0 hby hW ⊢
  rw [← hmm] at q1 hby hW ⊢
  obtain ⟨x0, x1, x2, x3, x4, x5, -⟩ := ent_cells q0
  obtain ⟨y0, y1, y2, y3, y4, y5, -⟩ := ent_cells q1
  have HW := Lib.hid hW
  have QB := Aside0.mk qb
  have HBY := Lib.hid hby
  clear hW qb q0 q1 hby hl hm h0 h1 hn hmm
  by_cases c0 : a0 = b0
  · by_cases c1 : a1 = b1
    · by_cases c2 : a2 = b2
      · by_cases c3 : a3 = b3
        · by_cases c4 : a4 = b4
          · subst c0 c1 c2 c3 c4
            have hr : sameB ⟨a0, a1, a2, a3, a4, ad⟩ ⟨a0, a1, a2, a3, a4, bd⟩ = decide (ad = bd) := by unfold sameB; simp
            rw [hr]
            generalize decide (ad = bd) = r at HBY ⊢
            clear hr
            go_enter Try.func44, Try.ntmps44
            go_wp2_with fail
            rw [← HW.out]
            go_wp2_with (go_at_call 77; (with_reducible refine HBY.out.mono ?_); rintro e w1 ⟨rfl, hb⟩; have HB := Aside0.mk hb; clear hb)
            go_ret
            exact ⟨rfl, QB.out.trans (HB.out.mono QB.out.size)⟩
          · have e4 : (a4 == b4) = false := by simpa using c4
            have hr : sameB ⟨a0, a1, a2, a3, a4, ad⟩ ⟨b0, b1, b2, b3, b4, bd⟩ = false := decide_eq_false (fun h => c4 h.2.2.2.2.1)
            rw [hr]
            subst c0 c1 c2 c3
            clear hr c4
            go_enter Try.func44, Try.ntmps44
            go_wp2_with fail
            rw [← HW.out]
            go_wp2
            go_ret
            exact ⟨rfl, QB.out⟩
        · have e4 : (a3 == b3) = false := by simpa using c3
          have hr : sameB ⟨a0, a1, a2, a3, a4, ad⟩ ⟨b0, b1, b2, b3, b4, bd⟩ = false := decide_eq_false (fun h => c3 h.2.2.2.1)
          rw [hr]
          subst c0 c1 c2
          clear hr c3
          go_enter Try.func44, Try.ntmps44
          go_wp2_with fail
          rw [← HW.out]
          go_wp2
          go_ret
          exact ⟨rfl, QB.out⟩
      · have e4 : (a2 == b2) = false := by simpa using c2
        have hr : sameB ⟨a0, a1, a2, a3, a4, ad⟩ ⟨b0, b1, b2, b3, b4, bd⟩ = false := decide_eq_false (fun h => c2 h.2.2.1)
        rw [hr]
        subst c0 c1
        clear hr c2
        go_enter Try.func44, Try.ntmps44
        go_wp2_with fail
        rw [← HW.out]
        go_wp2
        go_ret
        exact ⟨rfl, QB.out⟩
    · have e4 : (a1 == b1) = false := by simpa using c1
      have hr : sameB ⟨a0, a1, a2, a3, a4, ad⟩ ⟨b0, b1, b2, b3, b4, bd⟩ = false := decide_eq_false (fun h => c1 h.2.1)
      rw [hr]
      subst c0
      clear hr c1
      go_enter Try.func44, Try.ntmps44
      go_wp2_with fail
      rw [← HW.out]
      go_wp2
      go_ret
      exact ⟨rfl, QB.out⟩
  · have e4 : (a0 == b0) = false := by simpa using c0
    have hr : sameB ⟨a0, a1, a2, a3, a4, ad⟩ ⟨b0, b1, b2, b3, b4, bd⟩ = false := decide_eq_false (fun h => c0 h.1)
    rw [hr]
    clear hr c0
    go_enter Try.func44, Try.ntmps44
    go_wp2_with fail
    rw [← HW.out]
    go_wp2
    go_ret
    exact ⟨rfl, QB.out⟩
end Go.Proofs.Ytmbiebdcnadhkaa.Fl
namespace Go.Proofs.Ytmbiebdcnadhkaa.Fl
open Go.RowKit Go.Proofs.YtmbiebdcnadhkaaW.PrintWords Go.Proofs.YtmbiebdcnadhkaaW.PrintMore Go.Maps
set_option linter.unusedSimpArgs false
set_option linter.unusedVariables false
structure ECell (w : World) (g i : Nat) (e : En) (A : Option Addr) (c : Nat) : Prop where
  c0 : w.cell? ⟨g, i * 6, none⟩ = some (.int .i64 e.a)
  c1 : w.cell? ⟨g, i * 6 + 1, none⟩ = some (.int .i64 e.b)
  c2 : w.cell? ⟨g, i * 6 + 2, none⟩ = some (.int .u64 e.seq)
  c3 : w.cell? ⟨g, i * 6 + 3, none⟩ = some (.int .i64 e.pages)
  c4 : w.cell? ⟨g, i * 6 + 4, none⟩ = some (.int .u8 e.kind)
  c5 : w.cell? ⟨g, i * 6 + 5, none⟩ = some (.slice A e.data.length c)
  row : kB.C w A e.data.length e.data
  cap : e.data.length ≤ c
def ERow (w : World) (A : Option Addr) (l : List En) : Prop := ∀ (i : Nat) (e : En), l[i]? = some e → ∃ g A1 c1, A = some ⟨g, 0, none⟩ ∧ ECell w g i e A1 c1
theorem ECell.below {w w' : World} {g i : Nat} {e : En} {A : Option Addr} {c : Nat} (h : ECell w g i e A c) (hb : Below w.heap.size w w') : ECell w' g i e A c :=
  have f : ∀ {a : Addr} {v : Value}, w.cell? a = some v → w'.cell? a = some v := fun h => (hb.cell (blt_of_cell h)).trans h
  ⟨f h.c0, f h.c1, f h.c2, f h.c3, f h.c4, f h.c5, Kd.C_below h.row hb, h.cap⟩
theorem ERow.take {w : World} {A : Option Addr} {l : List En} (h : ERow w A l) (k : Nat) : ERow w A (l.take k) := fun i e hi => by
  rw [List.getElem?_take] at hi
  split at hi
  · exact h i e hi
  · cases hi
theorem ERow.ofR {w : World} {base : Nat} {ok : Nat → Prop} {v : Value} {l : List En} (h : kEnt.R TE w base ok v l) : ∃ A c, v = .slice A l.length c ∧ l.length ≤ c ∧ ERow w A l := by
  have hR := h
  obtain ⟨A, c, rfl, hc, hC⟩ := Kd.R_reads hR
  refine ⟨A, c, rfl, hc, fun i e hi => ?_⟩
  have hpos : 0 < l.length := Nat.lt_of_le_of_lt (Nat.zero_le i) (List.getElem?_eq_some_iff.1 hi).1
  obtain ⟨ad, rfl, hcc⟩ := hC.2.2 hpos
  obtain ⟨g, rfl⟩ : ∃ g, ad = ⟨g, 0, none⟩ := by
    obtain ⟨_, inner, ho, _⟩ := h
    rcases ho.2 with ⟨hv, _⟩ | ⟨g, cap', cur, hv, _⟩
    · cases hv
    · injection hv with ha _ _
      injection ha with ha
      exact ⟨g, ha⟩
  obtain ⟨cs, _, ⟨A1, c1, rfl, hc1, hr1⟩, hcell⟩ := hcc i e hi
  have f : ∀ j u, (enC e (.slice A1 e.data.length c1))[j]? = some u → w.cell? ⟨g, i * 6 + j, none⟩ = some u := fun j u hj => by
    have := hcell j u hj
    rw [add_plain] at this
    exact this
  exact ⟨g, A1, c1, rfl, f 0 _ rfl, f 1 _ rfl, f 2 _ rfl, f 3 _ rfl, f 4 _ rfl, f 5 _ rfl, hr1, hc1⟩
set_option maxHeartbeats 2000000 in
set_option maxRecDepth 100000 in
theorem SameEntries_ok {w : World} {A B : Option Addr} {c d : Nat} {l : List En} (hA : ERow w A l) (hB : ERow w B l) (hl : l.length ≤ 1000000) (hd : ∀ e ∈ l, e.data.length < 1000000) :
    Calls Try.prog 21 #[.slice A l.length c, .slice B l.length d] w fun r w' => r = .returned (.bool true) ∧ Below w.heap.size w w' := by
  obtain ⟨n, hn⟩ : ∃ n, n = l.length := ⟨_, rfl⟩
  have HA := Lib.hid hA
  have HB := Lib.hid hB
  have HD := Lib.hid hd
  have HN := Lib.hid hn
  rw [← hn] at hl
  rw [← hn]
  clear hA hB hd hn
  go_enter Try.func21, Try.ntmps21
  go_wp2
  go_loopw [5, 13] (fun v5 v13 wr => ∃ k : Nat, k ≤ n ∧ v13 = .int .i64 (k : Int) ∧ Below w.heap.size w wr) (fun _ v13 _ => n - (intOf v13).toNat)
  case atStart => exact ⟨0, Nat.zero_le _, rfl, Below.refl _ _⟩
  case round =>
    obtain ⟨k, hk, rfl, hb⟩ := hrel
    have HBW := Aside0.mk hb
    clear hb
    by_cases hlt : k < n
    · obtain ⟨e, he⟩ : ∃ e, l[k]? = some e := ⟨_, List.getElem?_eq_getElem (by have := HN.out; omega)⟩
      obtain ⟨g, A1, c1, hA, hc⟩ := HA.out k e he
      obtain ⟨g2, A2, c2, hB, hc2⟩ := HB.out k e he
      have hde := HD.out e (List.mem_of_getElem? he)
      subst hA hB
      have hall := fun (X : World) (hX : Below w.heap.size w X) => show X.cell? ⟨g, k * 6, none⟩ = some (.int .i64 e.a) ∧ X.cell? ⟨g, k * 6 + 1, none⟩ = some (.int .i64 e.b) ∧ X.cell? ⟨g, k * 6 + 2, none⟩ = some (.int .u64 e.seq) ∧ X.cell? ⟨g, k * 6 + 3, none⟩ = some (.int .i64 e.pages) ∧ X.cell? ⟨g, k * 6 + 4, none⟩ = some (.int .u8 e.kind) ∧ X.cell? ⟨g, k * 6 + 5, none⟩ = some (.slice A1 e.data.length c1) ∧ X.cell? ⟨g2, k * 6, none⟩ = some (.int .i64 e.a) ∧ X.cell? ⟨g2, k * 6 + 1, none⟩ = some (.int .i64 e.b) ∧ X.cell? ⟨g2, k * 6 + 2, none⟩ = some (.int .u64 e.seq) ∧ X.cell? ⟨g2, k * 6 + 3, none⟩ = some (.int .i64 e.pages) ∧ X.cell? ⟨g2, k * 6 + 4, none⟩ = some (.int .u8 e.kind) ∧ X.cell? ⟨g2, k * 6 + 5, none⟩ = some (.slice A2 e.data.length c2) from
        ⟨(hc.below hX).c0, (hc.below hX).c1, (hc.below hX).c2, (hc.below hX).c3, (hc.below hX).c4, (hc.below hX).c5, (hc2.below hX).c0, (hc2.below hX).c1, (hc2.below hX).c2, (hc2.below hX).c3, (hc2.below hX).c4, (hc2.below hX).c5⟩
      have hsame := fun (X : World) (hX : Below w.heap.size w X) => SameEntry_ok (e := e) (f := e) (c := c1) (d := c2) (hc.below hX).row (hc2.below hX).row hde hde
      rw [sameB_self] at hsame
      obtain ⟨j0, j1, j2, j3, j4, j5, i0, i1, i2, i3, i4, i5⟩ := hall wr HBW.out
      have HALL := Lib.hid hall
      have HS := Lib.hid hsame
      have k0 : (0 : Int) ≤ (k : Int) := by omega
      have k2 : (k : Int) < (n : Int) := by omega
      clear hall hsame hc hc2 he hde
      go_wp2_with fail
      go_region_held3 (fun w' => w'.cell? ⟨g, k * 6, none⟩ = some (.int .i64 e.a) ∧ w'.cell? ⟨g, k * 6 + 1, none⟩ = some (.int .i64 e.b) ∧ w'.cell? ⟨g, k * 6 + 2, none⟩ = some (.int .u64 e.seq) ∧ w'.cell? ⟨g, k * 6 + 3, none⟩ = some (.int .i64 e.pages) ∧ w'.cell? ⟨g, k * 6 + 4, none⟩ = some (.int .u8 e.kind) ∧ w'.cell? ⟨g, k * 6 + 5, none⟩ = some (.slice A1 e.data.length c1) ∧ w'.cell? ⟨g2, k * 6, none⟩ = some (.int .i64 e.a) ∧ w'.cell? ⟨g2, k * 6 + 1, none⟩ = some (.int .i64 e.b) ∧ w'.cell? ⟨g2, k * 6 + 2, none⟩ = some (.int .u64 e.seq) ∧ w'.cell? ⟨g2, k * 6 + 3, none⟩ = some (.int .i64 e.pages) ∧ w'.cell? ⟨g2, k * 6 + 4, none⟩ = some (.int .u8 e.kind) ∧ w'.cell? ⟨g2, k * 6 + 5, none⟩ = some (.slice A2 e.data.length c2)) (first | go_keep | exact HALL.out _ HB1.out)
        (first | (go_at_call 44; (with_reducible refine (HS.out _ (below_drew HBW.out)).mono ?_); rintro r w1 ⟨rfl, hb⟩; have HB1 := Aside0.mk (HBW.out.trans ((undrew hb).mono HBW.out.size)); clear hb))
      go_wp2
      exact ⟨⟨k + 1, by omega, by go_num, HB1.out⟩, by simp [intOf]; omega⟩
    · obtain rfl : k = n := by omega
      go_wp2
      go_ret
      exact ⟨rfl, HBW.out⟩
def cleanD (D : PD) (a : Int) : Bool := hasB D.s a 0 && (List.range D.s.2.1.toNat).all fun i => !usedB D a (i : Int)
section
variable {N0 p : Nat} {D : PD} {w : World} {ok : Nat → Prop}
end
end Go.Proofs.Ytmbiebdcnadhkaa.Fl
namespace Go.Proofs.Ytmbiebdcnadhkaa.Fl
open Go.RowKit Go.Proofs.YtmbiebdcnadhkaaW.PrintWords Go.Proofs.YtmbiebdcnadhkaaW.PrintMore Go.Maps
set_option linter.unusedSimpArgs false
set_option linter.unusedVariables false
section
variable {D : PD} {s : Int × Int × Int} {ps : List Pg}
theorem Sim.raw (h : Sim D s ps) (a b : Int) : rawD D a b = rawP s ps a b := by
  unfold rawD rawP
  rw [h.sh]
  have hk : ∀ k, k ≤ nRaw s a b → rawK D a b k = rawPK s.2.2.toNat ps a b k := fun k => by
    induction k with
    | zero => intro _; rfl
    | succ k ih =>
      intro hle
      rw [rawK_succ, rawPK_succ, ih (by omega)]
      have hh := (nRaw_lt (s := s) (a := a) (b := b) (i := k) (by omega)).1
      unfold gotD
      rw [h.sh, if_pos hh, h.read]
  exact hk _ (Nat.le_refl _)
theorem Sim.ent (h : Sim D s ps) (a b : Int) : entD D a b = entP s ps a b := by
  unfold entD entP
  rw [h.raw, h.sh]
def cleanP (s : Int × Int × Int) (ps : List Pg) (a : Int) : Bool := hasB s a 0 && (List.range s.2.1.toNat).all fun i => decide (findI a (i : Int) ps < 0)
end
theorem entL_data (s : Int × Int × Int) (a b : Int) (raw : List Int) : (entL s a b raw).1.data.length ≤ 4096 := by
  unfold entL
  split
  · simp [zEn]
  · split
    · rename_i h
      obtain ⟨m, h1, h2, h3, h4⟩ := parsed_n h
      simp only
      omega
    · simp [zEn]
end Go.Proofs.Ytmbiebdcnadhkaa.Fl
namespace Go.Proofs.Ytmbiebdcnadhkaa.Fl
open Go.RowKit Go.Proofs.YtmbiebdcnadhkaaW.PrintWords Go.Proofs.YtmbiebdcnadhkaaW.PrintMore Go.Maps
set_option linter.unusedSimpArgs false
set_option linter.unusedVariables false
structure Snap (D E : PD) (v : Int → Int → Prop) : Prop where
  sh : E.s = D.s
  used : ∀ c d, usedB E c d = true ↔ (usedB D c d = true ∧ v c d)
  got : ∀ c d, usedB E c d = true → gotD E c d = gotD D c d
theorem used_has {D : PD} {c d : Int} (h : usedB D c d = true) : hasB D.s c d = true := by
  unfold usedB at h
  rw [Bool.and_eq_true] at h
  exact h.1
theorem got_len {D : PD} (hs : Sound D) {c d : Int} (h : hasB D.s c d = true) : (gotD D c d).length = D.s.2.2.toNat := by
  unfold gotD readD numB
  rw [if_pos h, full_length (look_len hs.lens _)]
theorem got_unused {D : PD} {c d : Int} (h : usedB D c d = false) : gotD D c d = if hasB D.s c d then full D.s.2.2.toNat [] else [] := by
  unfold gotD
  cases hh : hasB D.s c d with
  | false => rfl
  | true =>
    unfold usedB at h
    rw [hh, Bool.true_and] at h
    unfold readD numB
    cases hl : look (c, d) D.mp with
    | none => rfl
    | some x => rw [hl] at h; cases h
theorem Snap.new (D : PD) : Snap D ⟨D.s, [], []⟩ (fun _ _ => False) := ⟨rfl, fun c d => by simp [usedB, look], fun c d h => by simp [usedB, look] at h⟩
theorem Snap.step {D E : PD} {v : Int → Int → Prop} (hs : Sound D) (h : Snap D E v) {a b : Int} (hu : usedB D a b = true) (hv : ¬ v a b) : Snap D (writeD E a b (gotD D a b)) (fun c d => v c d ∨ (c = a ∧ d = b)) := by
  have hh := used_has hu
  have hl := got_len hs hh
  have hle : ((gotD D a b).length : Int) ≤ E.s.2.2 := by rw [hl, h.sh]; have := hs.sh.c0; omega
  have hh2 : hasB E.s a b = true := by rw [h.sh]; exact hh
  have hu2 : usedB E a b = false := by
    cases he : usedB E a b with
    | false => rfl
    | true => exact absurd ((h.used a b).1 he).2 hv
  refine ⟨by rw [writeD_s]; exact h.sh, fun c d => ?_, fun c d hcd => ?_⟩
  · rw [used_write hh2 hle hu2, Bool.or_eq_true, decide_eq_true_iff, h.used]
    constructor
    · rintro (⟨rfl, rfl⟩ | ⟨h1, h2⟩)
      · exact ⟨hu, .inr ⟨rfl, rfl⟩⟩
      · exact ⟨h1, .inl h2⟩
    · rintro ⟨h1, h2 | h2⟩
      · exact .inr ⟨h1, h2⟩
      · exact .inl h2
  · rw [got_write hh2 hle hu2]
    split
    · rename_i he
      rw [he.1, he.2, h.sh]
      exact full_self hl
    · rename_i he
      rw [used_write hh2 hle hu2, Bool.or_eq_true, decide_eq_true_iff] at hcd
      exact h.got c d (hcd.resolve_left he)
theorem Snap.skip {D E : PD} {v v' : Int → Int → Prop} (h : Snap D E v) (hv : ∀ c d, usedB D c d = true → (v c d ↔ v' c d)) : Snap D E v' :=
  ⟨h.sh, fun c d => (h.used c d).trans ⟨fun ⟨h1, h2⟩ => ⟨h1, (hv c d h1).1 h2⟩, fun ⟨h1, h2⟩ => ⟨h1, (hv c d h1).2 h2⟩⟩, h.got⟩
theorem Snap.ent {D E : PD} {v : Int → Int → Prop} (h : Snap D E v) (hv : ∀ c d, usedB D c d = true → v c d) : (∀ c d, usedB E c d = usedB D c d) ∧ ∀ c d, entD E c d = entD D c d := by
  have hu : ∀ c d, usedB E c d = usedB D c d := fun c d => by
    rw [Bool.eq_iff_iff, h.used]
    exact ⟨fun h => h.1, fun h2 => ⟨h2, hv c d h2⟩⟩
  have hg : ∀ c d, gotD E c d = gotD D c d := fun c d => by
    cases he : usedB E c d with
    | true => exact h.got c d he
    | false => rw [got_unused he, got_unused ((hu c d).symm.trans he), h.sh]
  refine ⟨hu, fun c d => ?_⟩
  unfold entD rawD rawK
  rw [h.sh]
  congr 2
  funext i
  exact hg c _
def TInv (w : World) (z : Nat) (D : PD) (n : Nat) (v : Int → Int → Prop) (wr : World) : Prop :=
  ∃ E ps okx, RefIs w.heap.size (z + 1) D.s ps okx wr ∧ Sim E D.s ps ∧ BytP ps ∧ Snap D E v ∧ ps.length ≤ n ∧ (∀ k, okx k → z < k) ∧ wr.heap[z]? = some (.cells #[.int .i64 D.s.1, .int .i64 D.s.2.1, .int .i64 D.s.2.2] 23 (0, 0)) ∧ Below w.heap.size w wr
theorem TInv.below {w : World} {z : Nat} {D : PD} {n : Nat} {v : Int → Int → Prop} {wr X : World} (h : TInv w z D n v wr) (hb : Below wr.heap.size wr X) : TInv w z D n v X := by
  obtain ⟨E, ps, okx, h1, h2, h3, h4, h5, h6, h7, h8⟩ := h
  exact ⟨E, ps, okx, h1.below hb, h2, h3, h4, h5, h6, (hb.block _ (blt h7)).trans h7, h8.trans (hb.mono h8.size)⟩
theorem TInv.skip {w : World} {z : Nat} {D : PD} {n m : Nat} {v v' : Int → Int → Prop} {wr : World} (h : TInv w z D n v wr) (hm : n ≤ m) (hv : ∀ c d, usedB D c d = true → (v c d ↔ v' c d)) : TInv w z D m v' wr := by
  obtain ⟨E, ps, okx, h1, h2, h3, h4, h5, h6, h7, h8⟩ := h
  exact ⟨E, ps, okx, h1, h2, h3, h4.skip hv, Nat.le_trans h5 hm, h6, h7, h8⟩
theorem TInv.cells {w : World} {z : Nat} {D : PD} {n : Nat} {v : Int → Int → Prop} {wr : World} (h : TInv w z D n v wr) : wr.cell? ⟨z, 0, none⟩ = some (.int .i64 D.s.1) ∧ wr.cell? ⟨z, 1, none⟩ = some (.int .i64 D.s.2.1) ∧ wr.cell? ⟨z, 2, none⟩ = some (.int .i64 D.s.2.2) := by
  obtain ⟨E, ps, okx, h1, h2, h3, h4, h5, h6, h7, h8⟩ := h
  exact ⟨bcell h7 0, bcell h7 1, bcell h7 2⟩
theorem TInv.bel {w : World} {z : Nat} {D : PD} {n : Nat} {v : Int → Int → Prop} {wr : World} (h : TInv w z D n v wr) : Below w.heap.size w wr := by
  obtain ⟨E, ps, okx, h1, h2, h3, h4, h5, h6, h7, h8⟩ := h
  exact h8
theorem TInv.put {w : World} {z : Nat} {D : PD} {n : Nat} {v : Int → Int → Prop} {wr : World} (hs : Sound D) (hby : BytD D) (hz : w.heap.size ≤ z) (h : TInv w z D n v wr) (hn : n < 1000000) {a b : Int} (hu : usedB D a b = true) (hv : ¬ v a b) {A : Option Addr} {c : Nat} (hC : kB.C wr A (gotD D a b).length (gotD D a b)) :
    Calls Try.prog 61 #[.pointer (some ⟨z + 1, 0, none⟩), .int .i64 a, .int .i64 b, .slice A (gotD D a b).length c] wr fun e w' => ∃ r, e = .returned (.int .i64 r) ∧ TInv w z D (n + 1) (fun c d => v c d ∨ (c = a ∧ d = b)) w' := by
  obtain ⟨E, ps, okx, h1, h2, h3, h4, h5, h6, h7, h8⟩ := h
  refine (RWrite_any h1 hs.sh (by omega) a b A c _ hC).mono fun e w' ⟨he, hX, hup⟩ => ⟨_, he, _, _, _, hX, h2.write a b _, h3.write a b (hby a b), h4.step hs hu hv, ?_, ?_, ?_, ?_⟩
  · have := rwP_len D.s ps a b (gotD D a b); omega
  · rintro k (hk | hk)
    · exact h6 k hk
    · have := blt h7; omega
  · exact (hup.block z (blt h7) (fun hm => by have := h6 z hm.1; omega)).trans h7
  · exact h8.trans (upd_below hup h8.size (fun k hk => by have := h6 k hk; omega))
section
variable {N0 p : Nat} {D : PD} {w : World} {ok : Nat → Prop}
set_option maxHeartbeats 2000000 in
set_option maxRecDepth 100000 in
theorem Taken_any (hD : DevIs N0 p D ok w) (hby : BytD D) : Calls Try.prog 18 #[.pointer (some ⟨p, 0, none⟩)] w fun e w' => ∃ x ps E okx, e = .returned (.pointer (some ⟨x, 0, none⟩)) ∧ RefIs w.heap.size x D.s ps okx w' ∧ Sim E D.s ps ∧ BytP ps ∧ ps.length ≤ 1024 ∧ (∀ c d, usedB E c d = usedB D c d) ∧ (∀ c d, entD E c d = entD D c d) ∧ Below w.heap.size w w' := by
  have hs : ShapeOk D.s := by
    obtain ⟨m, v, es, ck, hD⟩ := hD
    exact hD.shape
  have hso := hD.sound
  have hsh := Shape_any hD
  have hus := fun (X : World) (hX : Below w.heap.size w X) (a b : Int) => Used_any (hD.below hX) a b
  have hrd := fun (X : World) (hX : Below w.heap.size w X) (a b : Int) => Read_any (hD.below hX) a b
  have HSO := Lib.hid hs
  have HSN := Lib.hid hso
  have HSH := Lib.hid hsh
  have HUS := Lib.hid hus
  have HRD := Lib.hid hrd
  have HBY := Lib.hid hby
  have a0 := hs.a0
  have a1 := hs.a1
  have b0 := hs.b0
  have b1 := hs.b1
  have m1 : min D.s.1 16 = D.s.1 := by omega
  have m2 : min D.s.2.1 64 = D.s.2.1 := by omega
  clear hs hso hsh hus hrd hby hD
  go_enter Try.func18, Try.ntmps18
  go_wp2_with (go_at_call 56; (with_reducible refine HSH.out.mono ?_); rintro e w1 ⟨rfl, hb⟩; have HB1 := Aside0.mk hb; clear hb)
  have hz : w.heap.size ≤ w1.heap.size := HB1.out.size
  have hst : TInv w w1.heap.size D 0 (fun c d => c < 0) ((w1.alloc (.cells #[.int .i64 D.s.1, .int .i64 D.s.2.1, .int .i64 D.s.2.2] 23)).alloc (.cells #[.int .i64 D.s.1, .int .i64 D.s.2.1, .int .i64 D.s.2.2, .slice none 0 0] TX)) := by
    have hr := Ref_new (w1 := w1.alloc (.cells #[.int .i64 D.s.1, .int .i64 D.s.2.1, .int .i64 D.s.2.2] 23)) (N0 := w.heap.size) D.s (by simp; omega)
    rw [World.size_alloc] at hr
    refine ⟨_, _, _, hr, Sim.new D.s, BytP.nil, (Snap.new D).skip (fun c d hu => ⟨fun h => h.elim, fun h => ?_⟩), Nat.le_refl _, fun k hk => by omega, ?_, ?_⟩
    · have := (hasB_iff _ _ _).1 (used_has hu); omega
    · exact (Below.heap_alloc _ _ _ (by simp)).trans (blk_new w1 _)
    · exact below_alloc (below_alloc HB1.out _) _
  have HST := Aside0.mk hst
  clear hst
  go_loopw [5] (fun v5 wr => ∃ a : Nat, (a : Int) ≤ D.s.1 ∧ v5 = .int .i64 (a : Int) ∧ TInv w w1.heap.size D (64 * a) (fun c d => c < (a : Int)) wr) (fun v5 _ => (D.s.1 - intOf v5).toNat)
  case atStart => exact ⟨0, by omega, rfl, HST.out⟩
  case round =>
    obtain ⟨a, ha, rfl, hT⟩ := hrel
    have HT := Aside0.mk hT
    obtain ⟨k1, k2, k3⟩ := hT.cells
    clear hT
    by_cases hlt : (a : Int) < D.s.1
    · go_wp2_with fail
      go_loopw [6] (fun v6 wr => ∃ b : Nat, (b : Int) ≤ D.s.2.1 ∧ v6 = .int .i64 (b : Int) ∧ TInv w w1.heap.size D (64 * a + b) (fun c d => c < (a : Int) ∨ (c = (a : Int) ∧ d < (b : Int))) wr) (fun v6 _ => (D.s.2.1 - intOf v6).toNat)
      case atStart =>
        refine ⟨0, by omega, rfl, HT.out.skip (Nat.le_refl _) (fun c d hu => ⟨fun h => .inl h, fun h => ?_⟩)⟩
        have := (hasB_iff _ _ _).1 (used_has hu)
        omega
      case round =>
        obtain ⟨b, hb, rfl, hT⟩ := hrel
        have HT := Aside0.mk hT
        clear k1 k2 k3
        obtain ⟨k1, k2, k3⟩ := hT.cells
        clear hT
        by_cases hlt2 : (b : Int) < D.s.2.1
        · cases hu : usedB D (a : Int) (b : Int) with
          | true =>
            have HU := Lib.hid hu
            have he : hasE D.s (a : Int) (b : Int) = 0 := by unfold hasE; rw [used_has hu]; rfl
            clear hu
            go_wp2_with (first
              | (go_at_call 58; (with_reducible refine (HUS.out _ HT.out.bel _ _).mono ?_); rw [HU.out]; rintro e w2 ⟨rfl, rfl⟩)
              | (go_at_call 60; (with_reducible refine (HRD.out _ HT.out.bel _ _).mono ?_); rintro e w3 ⟨v3, rfl, hrow, hb3⟩; obtain ⟨A3, c3, rfl, _, hC3⟩ := hrow.reads; have HC3 := Aside0.mk hC3; have HT3 := Aside0.mk (HT.out.below hb3); clear hrow hC3 hb3)
              | (go_at_call 61; (with_reducible refine (TInv.put HSN.out HBY.out hz HT3.out (by omega) HU.out (by omega) HC3.out).mono ?_); rintro e w4 ⟨r4, rfl, hT4⟩; have HT4 := Aside0.mk hT4; clear hT4))
            refine ⟨⟨b + 1, by omega, by go_num, HT4.out.skip (by omega) (fun c d hu => ?_)⟩, by simp [intOf]; omega⟩
            have := (hasB_iff _ _ _).1 (used_has hu)
            omega
          | false =>
            have HU := Lib.hid hu
            clear hu
            go_wp2_with (go_at_call 58; (with_reducible refine (HUS.out _ HT.out.bel _ _).mono ?_); rw [HU.out]; rintro e w2 ⟨rfl, rfl⟩)
            refine ⟨⟨b + 1, by omega, by go_num, HT.out.skip (by omega) (fun c d hu => ?_)⟩, by simp [intOf]; omega⟩
            have h1 := (hasB_iff _ _ _).1 (used_has hu)
            have h2 : ¬ (c = (a : Int) ∧ d = (b : Int)) := fun ⟨e1, e2⟩ => by rw [e1, e2, HU.out] at hu; cases hu
            omega
        · go_wp2
          refine ⟨⟨a + 1, by omega, by go_num, HT.out.skip (by omega) (fun c d hu => ?_)⟩, by simp [intOf]; omega⟩
          have := (hasB_iff _ _ _).1 (used_has hu)
          omega
    · obtain ⟨E, ps, okx, h1, h2, h3, h4, h5, h6, h7, h8⟩ := HT.out
      have hx2 := h4.ent (fun c d hu => by have := (hasB_iff _ _ _).1 (used_has hu); omega)
      have hsy := RSync_any h1 (by omega)
      have h2s := h2.sync
      have h3s := h3.sync
      have HB8 := Aside0.mk h8
      have H6 := Lib.hid h6
      have HSY := Lib.hid hsy
      have H2S := Lib.hid h2s
      have H3S := Lib.hid h3s
      have HX2 := Lib.hid hx2
      have H5 := Lib.hid (show ps.length ≤ 1024 by omega)
      clear h1 h2 h3 h4 h5 h6 h7 h8 hsy h2s h3s hx2
      go_wp2_with (go_at_call 62; (with_reducible refine HSY.out.mono ?_); rintro e w2 ⟨rfl, hX, hup⟩; have HX := Aside0.mk hX; have HUP := Aside0.mk (HB8.out.trans (upd_below hup HB8.out.size (fun k hk => by have := H6.out k hk; omega))); clear hX hup)
      go_ret
      have e1 : ∀ c d, usedB { E with dirty := [] } c d = usedB D c d := fun c d => HX2.out.1 c d
      have e2 : ∀ c d, entD { E with dirty := [] } c d = entD D c d := fun c d => HX2.out.2 c d
      exact ⟨_, _, _, _, rfl, HX.out, H2S.out, H3S.out, by simp only [syncP, List.length_map]; exact H5.out, e1, e2, HUP.out⟩
end
end Go.Proofs.Ytmbiebdcnadhkaa.Fl
namespace Go.Proofs.Ytmbiebdcnadhkaa.Fl
open Go.RowKit Go.Proofs.YtmbiebdcnadhkaaW.PrintWords Go.Proofs.YtmbiebdcnadhkaaW.PrintMore Go.Maps
set_option linter.unusedSimpArgs false
set_option linter.unusedVariables false
set_option maxHeartbeats 2000000 in
set_option maxRecDepth 100000 in
theorem Same_any {w : World} {A B : Option Addr} {c d : Nat} {l m : List Int} (hl : kB.C w A l.length l) (hm : kB.C w B m.length m) (h0 : l.length < 1000000) (h1 : m.length < 1000000) :
    Calls Try.prog 16 #[.slice A l.length c, .slice B m.length d] w fun e w' => e = .returned (.bool (decide (l = m))) ∧ Below w.heap.size w w' := by
  obtain ⟨n, hn⟩ : ∃ n, n = l.length := ⟨_, rfl⟩
  obtain ⟨n2, hn2⟩ : ∃ n, n = m.length := ⟨_, rfl⟩
  have HL := Aside0.mk hl
  have HM := Aside0.mk hm
  have HN := Lib.hid hn
  have HN2 := Lib.hid hn2
  rw [← hn] at h0
  rw [← hn2] at h1
  rw [← hn, ← hn2]
  clear hl hm hn hn2
  by_cases hne : n = n2
  · subst hne
    go_enter Try.func16, Try.ntmps16
    go_wp2
    go_loopw [5, 13] (fun v5 v13 wr => ∃ k : Nat, k ≤ n ∧ v13 = .int .i64 (k : Int) ∧ Below w.heap.size w wr ∧ l.take k = m.take k) (fun _ v13 _ => n - (intOf v13).toNat)
    case atStart => exact ⟨0, Nat.zero_le _, rfl, Below.refl _ _, rfl⟩
    case round =>
      obtain ⟨k, hk, rfl, hb, ht⟩ := hrel
      have HB := Aside0.mk hb
      clear hb
      have HT := Lib.hid ht
      clear ht
      by_cases hlt : k < n
      · obtain ⟨a, ha⟩ : ∃ a, l[k]? = some a := ⟨_, List.getElem?_eq_getElem (by have := HN.out; omega)⟩
        obtain ⟨b, hb⟩ : ∃ b, m[k]? = some b := ⟨_, List.getElem?_eq_getElem (by have := HN2.out; omega)⟩
        obtain ⟨ad, hA, hca⟩ := C_cells HL.out (by have := HN.out; omega)
        obtain ⟨bd, hB, hcb⟩ := C_cells HM.out (by have := HN2.out; omega)
        have ka0 := hca k (.int .u8 a) (by simp [ha])
        have ka : wr.cell? (ad.add k) = some (.int .u8 a) := (HB.out.cell (blt_of_cell ka0)).trans ka0
        have kb0 := hcb k (.int .u8 b) (by simp [hb])
        have kb : wr.cell? (bd.add k) = some (.int .u8 b) := (HB.out.cell (blt_of_cell kb0)).trans kb0
        clear ka0 kb0
        have HA := Lib.hid ha
        have HBB := Lib.hid hb
        have k0 : (0 : Int) ≤ (k : Int) := by omega
        have k2 : (k : Int) < (n : Int) := by omega
        subst hA hB
        clear ha hb hca hcb
        go_wp2_with fail
        go_region_held3 (fun w' => w'.cell? (ad.add k) = some (.int .u8 a) ∧ w'.cell? (bd.add k) = some (.int .u8 b)) (go_keep) (fail)
        by_cases hab : a = b
        · have e1 : (a != b) = false := by simp [hab]
          go_wp2
          exact ⟨⟨k + 1, by omega, by go_num, HB.out.drew, take_eq_succ HA.out HBB.out HT.out hab⟩, by simp [intOf]; omega⟩
        · have e1 : (a != b) = true := by simp [hab]
          go_wp2
          go_ret
          refine ⟨?_, HB.out.drew⟩
          rw [decide_eq_false]
          · rfl
          intro e
          have h1 := HA.out
          have h2 := HBB.out
          rw [e, h2] at h1
          exact hab (Option.some.inj h1).symm
      · obtain rfl : k = n := by omega
        go_wp2
        go_ret
        refine ⟨?_, HB.out⟩
        have h := HT.out
        rw [List.take_of_length_le (by have := HN.out; omega), List.take_of_length_le (by have := HN2.out; omega)] at h
        rw [decide_eq_true h]
        rfl
  · have e1 : ((n : Int) != (n2 : Int)) = true := by simp; omega
    have hlm : ¬ l = m := fun e => hne (by rw [HN.out, HN2.out, e])
    have HLM := Lib.hid hlm
    clear hlm hne
    go_enter Try.func16, Try.ntmps16
    go_wp2
    go_ret
    exact ⟨by rw [decide_eq_false HLM.out]; rfl, Below.refl _ _⟩
def NoClash (s : Int × Int × Int) (ps qs : List Pg) (a b : Int) : Prop := 0 ≤ findI a b ps → 0 ≤ findI a b qs → (entP s ps a b).2 = 0 → (entP s qs a b).2 = 0 → sameB (entP s ps a b).1 (entP s qs a b).1 = true
def ClashPost (s : Int × Int × Int) (ps qs : List Pg) (w : World) (e : Ending) (w' : World) : Prop := ∃ r, e = .returned (.bool r) ∧ (r = false → ∀ a b : Nat, (a : Int) < s.1 → (b : Int) < s.2.1 → NoClash s ps qs (a : Int) (b : Int)) ∧ Below w.heap.size w w'
section
variable {N0 N1 x y : Nat} {s : Int × Int × Int} {ps qs : List Pg} {w : World} {okX okY : Nat → Prop}
set_option maxHeartbeats 4000000 in
set_option maxRecDepth 100000 in
theorem Clash_any (hX : RefIs N0 x s ps okX w) (hY : RefIs N1 y s qs okY w) (hs : ShapeOk s) (hl : ps.length < 1000000) (hl2 : qs.length < 1000000) (hp : ∀ p ∈ ps, p.2.1.length = s.2.2.toNat) (hq : ∀ p ∈ qs, p.2.1.length = s.2.2.toNat) (hbp : BytP ps) (hbq : BytP qs) :
    Calls Try.prog 20 #[.pointer (some ⟨x, 0, none⟩), .pointer (some ⟨y, 0, none⟩)] w (ClashPost s ps qs w) := by
  have hxc := fun (X : World) (h : Below w.heap.size w X) => ref_cells (hX.below h)
  have hf1 := fun (X : World) (h : Below w.heap.size w X) (a b : Int) => RFind_any (hX.below h) hl a b
  have hf2 := fun (X : World) (h : Below w.heap.size w X) (a b : Int) => RFind_any (hY.below h) hl2 a b
  have he1 := fun (X : World) (h : Below w.heap.size w X) (a b : Int) => Entry_ent (hX.below h) hs hl hp hbp a b
  have he2 := fun (X : World) (h : Below w.heap.size w X) (a b : Int) => Entry_ent (hY.below h) hs hl2 hq hbq a b
  have hed := fun (a b : Int) => entL_data s a b (rawP s ps a b)
  have hed2 := fun (a b : Int) => entL_data s a b (rawP s qs a b)
  have HXC := Lib.hid hxc
  have HF1 := Lib.hid hf1
  have HF2 := Lib.hid hf2
  have HE1 := Lib.hid he1
  have HE2 := Lib.hid he2
  have HD1 := Lib.hid hed
  have HD2 := Lib.hid hed2
  have a0 := hs.a0
  have b0 := hs.b0
  have a1 := hs.a1
  have b1 := hs.b1
  clear hxc hf1 hf2 he1 he2 hed hed2 hX hY hs hl hl2 hp hq hbp hbq
  go_enter Try.func20, Try.ntmps20
  go_wp2
  go_loopw [5] (fun v5 wr => ∃ a : Nat, (a : Int) ≤ s.1 ∧ v5 = .int .i64 (a : Int) ∧ (∀ a' b' : Nat, a' < a → (b' : Int) < s.2.1 → NoClash s ps qs (a' : Int) (b' : Int)) ∧ Below w.heap.size w wr) (fun v5 _ => (s.1 - intOf v5).toNat)
  case atStart => exact ⟨0, by omega, rfl, fun a' b' h => by omega, Below.refl _ _⟩
  case round =>
    obtain ⟨a, ha, rfl, hN, hb⟩ := hrel
    obtain ⟨k1, k2, k3⟩ := HXC.out _ hb
    have HB := Aside0.mk hb
    have HN := Lib.hid hN
    clear hb hN
    by_cases hlt : (a : Int) < s.1
    · go_wp2_with fail
      go_loopw [6] (fun v6 wr => ∃ b : Nat, (b : Int) ≤ s.2.1 ∧ v6 = .int .i64 (b : Int) ∧ (∀ b' : Nat, b' < b → NoClash s ps qs (a : Int) (b' : Int)) ∧ Below w.heap.size w wr) (fun v6 _ => (s.2.1 - intOf v6).toNat)
      case atStart => exact ⟨0, by omega, rfl, fun b' h => by omega, HB.out⟩
      case round =>
        obtain ⟨b, hbb, rfl, hM, hb⟩ := hrel
        clear k1 k2 k3
        obtain ⟨k1, k2, k3⟩ := HXC.out _ hb
        have HB := Aside0.mk hb
        have HM := Lib.hid hM
        clear hb hM
        by_cases hlt2 : (b : Int) < s.2.1
        · have hstep : NoClash s ps qs (a : Int) (b : Int) → ∀ b' : Nat, b' < b + 1 → NoClash s ps qs (a : Int) (b' : Int) := fun h b' h2 => by
            by_cases h3 : b' = b
            · rw [h3]; exact h
            · exact HM.out b' (by omega)
          have HSTEP := Lib.hid hstep
          clear hstep
          obtain ⟨Y, hY⟩ : ∃ Y, Y = wr.alloc (.cells #[.int .i64 (a : Int), .int .i64 (b : Int)] TA) := ⟨_, rfl⟩
          have y0 : Y.heap[wr.heap.size]? = some (.cells #[.int .i64 (a : Int), .int .i64 (b : Int)] TA (0, 0)) := by rw [hY]; exact blk_new wr _
          have hby : Below w.heap.size w Y := by rw [hY]; exact below_alloc HB.out _
          have hyc := fun (X : World) (h : Below Y.heap.size Y X) => (show X.cell? ⟨wr.heap.size, 0, none⟩ = some (.int .i64 (a : Int)) ∧ X.cell? ⟨wr.heap.size, 1, none⟩ = some (.int .i64 (b : Int)) from ⟨bcell ((h.block _ (blt y0)).trans y0) 0, bcell ((h.block _ (blt y0)).trans y0) 1⟩)
          have HYC := Lib.hid hyc
          have HYB := Aside0.mk hby
          have HYY := Lib.hid hY
          obtain ⟨j1, j2⟩ := HYC.out _ (Below.refl _ _)
          clear hY y0 hby hyc
          have hc1 := fun (X : World) (h : Below Y.heap.size Y X) => HF1.out X (HYB.out.trans (h.mono HYB.out.size)) (a : Int) (b : Int)
          have hc2 := fun (X : World) (h : Below Y.heap.size Y X) => HF2.out X (HYB.out.trans (h.mono HYB.out.size)) (a : Int) (b : Int)
          obtain ⟨f1, hf1⟩ : ∃ f, f = findI (a : Int) (b : Int) ps := ⟨_, rfl⟩
          obtain ⟨f2, hf2⟩ : ∃ f, f = findI (a : Int) (b : Int) qs := ⟨_, rfl⟩
          rw [← hf1] at hc1
          rw [← hf2] at hc2
          have HC1 := Lib.hid hc1
          have HC2 := Lib.hid hc2
          have HQ1 := Lib.hid hf1
          have HQ2 := Lib.hid hf2
          clear hc1 hc2 hf1 hf2
          go_wp2_with fail
          rw [← HYY.out]
          by_cases g1 : f1 < 0
          · go_wp2_with (go_at_call 41; (with_reducible refine (HC1.out _ (Below.refl _ _)).mono ?_); rintro e z1 ⟨rfl, hb⟩; have HZ1 := Aside0.mk hb; clear hb)
            exact ⟨⟨b + 1, by omega, by go_num, HSTEP.out (fun h => by have := HQ1.out; omega), HYB.out.trans (HZ1.out.mono HYB.out.size)⟩, by simp [intOf]; omega⟩
          · by_cases g2 : f2 < 0
            · go_wp2_with (first
                | (go_at_call 41; (with_reducible refine (HC1.out _ (Below.refl _ _)).mono ?_); rintro e z1 ⟨rfl, hb⟩; have HZ1 := Aside0.mk hb; clear hb)
                | (go_at_call 41; (with_reducible refine (HC2.out _ HZ1.out).mono ?_); rintro e z2 ⟨rfl, hb⟩; have HZ2 := Aside0.mk (HZ1.out.trans (hb.mono HZ1.out.size)); clear hb))
              exact ⟨⟨b + 1, by omega, by go_num, HSTEP.out (fun _ h => by have := HQ2.out; omega), HYB.out.trans (HZ2.out.mono HYB.out.size)⟩, by simp [intOf]; omega⟩
            · have ha1 := fun (X : World) (h : Below Y.heap.size Y X) => HE1.out X (HYB.out.trans (h.mono HYB.out.size)) (a : Int) (b : Int)
              have ha2 := fun (X : World) (h : Below Y.heap.size Y X) => HE2.out X (HYB.out.trans (h.mono HYB.out.size)) (a : Int) (b : Int)
              have hd1 : (entP s ps (a : Int) (b : Int)).1.data.length < 1000000 := by have := HD1.out (a : Int) (b : Int); unfold entP; omega
              have hd2 : (entP s qs (a : Int) (b : Int)).1.data.length < 1000000 := by have := HD2.out (a : Int) (b : Int); unfold entP; omega
              have hnc : (((entP s ps (a : Int) (b : Int)).2 = 0 → (entP s qs (a : Int) (b : Int)).2 = 0 → sameB (entP s ps (a : Int) (b : Int)).1 (entP s qs (a : Int) (b : Int)).1 = true)) → NoClash s ps qs (a : Int) (b : Int) := fun h _ _ => h
              obtain ⟨⟨⟨ea, eb, esq, epg, ekd, edl⟩, r1⟩, hr1⟩ : ∃ r, r = entP s ps (a : Int) (b : Int) := ⟨_, rfl⟩
              obtain ⟨⟨⟨fa, fb, fsq, fpg, fkd, fdl⟩, r2⟩, hr2⟩ : ∃ r, r = entP s qs (a : Int) (b : Int) := ⟨_, rfl⟩
              rw [← hr1] at ha1 hd1 hnc
              rw [← hr2] at ha2 hd2 hnc
              simp only at hd1 hd2 hnc
              have HA1 := Lib.hid ha1
              have HA2 := Lib.hid ha2
              have HL1 := Lib.hid hd1
              have HL2 := Lib.hid hd2
              have HNC := Lib.hid hnc
              clear ha1 ha2 hd1 hd2 hnc hr1 hr2
              by_cases q1 : r1 = 0
              · have q1b : (r1 == 0) = true := by simpa using q1
                by_cases q2 : r2 = 0
                · have q2b : (r2 == 0) = true := by simpa using q2
                  cases hsb : sameB ⟨ea, eb, esq, epg, ekd, edl⟩ ⟨fa, fb, fsq, fpg, fkd, fdl⟩ with
                  | true =>
                    have HSB := Lib.hid hsb
                    clear hsb
                    go_wp2_with (first
                | (go_at_call 41; (with_reducible refine (HC1.out _ (Below.refl _ _)).mono ?_); rintro e z1 ⟨rfl, hb⟩; have HZ1 := Aside0.mk hb; clear hb)
                | (go_at_call 41; (with_reducible refine (HC2.out _ HZ1.out).mono ?_); rintro e z2 ⟨rfl, hb⟩; have HZ2 := Aside0.mk (HZ1.out.trans (hb.mono HZ1.out.size)); clear hb j1 j2; obtain ⟨j1, j2⟩ := HYC.out _ HZ2.out)
                | (go_at_call 39; (with_reducible refine (HA1.out _ HZ2.out).mono ?_); rintro e z3 ⟨v3, rfl, hD, hb⟩; obtain ⟨D1, g1, rfl, -, hC⟩ := hD.reads; have HK1 := Aside0.mk hC; have HZ3 := Aside0.mk (HZ2.out.trans (hb.mono HZ2.out.size)); clear hD hC hb j1 j2; have HZ3a := Aside0.mk (HZ3.out.alloc HZ3.out.size (.cells #[.int .i64 ea, .int .i64 eb, .int .u64 esq, .int .i64 epg, .int .u8 ekd, .slice D1 edl.length g1] TE)); obtain ⟨j1, j2⟩ := HYC.out _ HZ3a.out)
                | (go_at_call 39; (with_reducible refine (HA2.out _ HZ3a.out).mono ?_); rintro e z4 ⟨v4, rfl, hD, hb⟩; obtain ⟨D2, g2, rfl, -, hC⟩ := hD.reads; have HK2 := Aside0.mk hC; have HZ4 := Aside0.mk (HZ3a.out.trans (hb.mono HZ3a.out.size)); have HZ4a := Aside0.mk (HZ4.out.alloc HZ4.out.size (.cells #[.int .i64 fa, .int .i64 fb, .int .u64 fsq, .int .i64 fpg, .int .u8 fkd, .slice D2 fdl.length g2] TE)); have hb2 := (below_alloc (Below.refl z3.heap.size z3) (.cells #[.int .i64 ea, .int .i64 eb, .int .u64 esq, .int .i64 epg, .int .u8 ekd, .slice D1 edl.length g1] TE)).trans (hb.mono (by simp)); have hb3 := below_alloc (Below.refl z4.heap.size z4) (.cells #[.int .i64 fa, .int .i64 fb, .int .u64 fsq, .int .i64 fpg, .int .u8 fkd, .slice D2 fdl.length g2] TE); have HK1 := Aside0.mk (Kd.C_below (Kd.C_below HK1.out hb2) hb3); have HK2 := Aside0.mk (Kd.C_below HK2.out hb3); have hx1 := (hb3.block _ (by have := hb.size; simp at this; omega)).trans ((hb.block _ (by simp)).trans (blk_new z3 (.cells #[.int .i64 ea, .int .i64 eb, .int .u64 esq, .int .i64 epg, .int .u8 ekd, .slice D1 edl.length g1] TE))); have hx2 := blk_new z4 (.cells #[.int .i64 fa, .int .i64 fb, .int .u64 fsq, .int .i64 fpg, .int .u8 fkd, .slice D2 fdl.length g2] TE); obtain ⟨t0, t1, t2, t3, t4, t5, -⟩ := ent_cells hx1; obtain ⟨o0, o1, o2, o3, o4, o5, -⟩ := ent_cells hx2; clear hD hC hb hb2 hb3 hx1 hx2 j1 j2)
                | (go_at_call 44; (with_reducible refine (SameEntry_ok (e := ⟨ea, eb, esq, epg, ekd, edl⟩) (f := ⟨fa, fb, fsq, fpg, fkd, fdl⟩) HK1.out HK2.out HL1.out HL2.out).mono ?_); rw [HSB.out]; rintro e z5 ⟨rfl, hb⟩; have HZ5 := Aside0.mk (HZ4a.out.trans (hb.mono HZ4a.out.size)); clear hb))
                    exact ⟨⟨b + 1, by omega, by go_num, HSTEP.out (HNC.out (fun _ _ => HSB.out)), HYB.out.trans (HZ5.out.mono HYB.out.size)⟩, by simp [intOf]; omega⟩
                  | false =>
                    have HSB := Lib.hid hsb
                    clear hsb
                    go_wp2_with (first
                | (go_at_call 41; (with_reducible refine (HC1.out _ (Below.refl _ _)).mono ?_); rintro e z1 ⟨rfl, hb⟩; have HZ1 := Aside0.mk hb; clear hb)
                | (go_at_call 41; (with_reducible refine (HC2.out _ HZ1.out).mono ?_); rintro e z2 ⟨rfl, hb⟩; have HZ2 := Aside0.mk (HZ1.out.trans (hb.mono HZ1.out.size)); clear hb j1 j2; obtain ⟨j1, j2⟩ := HYC.out _ HZ2.out)
                | (go_at_call 39; (with_reducible refine (HA1.out _ HZ2.out).mono ?_); rintro e z3 ⟨v3, rfl, hD, hb⟩; obtain ⟨D1, g1, rfl, -, hC⟩ := hD.reads; have HK1 := Aside0.mk hC; have HZ3 := Aside0.mk (HZ2.out.trans (hb.mono HZ2.out.size)); clear hD hC hb j1 j2; have HZ3a := Aside0.mk (HZ3.out.alloc HZ3.out.size (.cells #[.int .i64 ea, .int .i64 eb, .int .u64 esq, .int .i64 epg, .int .u8 ekd, .slice D1 edl.length g1] TE)); obtain ⟨j1, j2⟩ := HYC.out _ HZ3a.out)
                | (go_at_call 39; (with_reducible refine (HA2.out _ HZ3a.out).mono ?_); rintro e z4 ⟨v4, rfl, hD, hb⟩; obtain ⟨D2, g2, rfl, -, hC⟩ := hD.reads; have HK2 := Aside0.mk hC; have HZ4 := Aside0.mk (HZ3a.out.trans (hb.mono HZ3a.out.size)); have HZ4a := Aside0.mk (HZ4.out.alloc HZ4.out.size (.cells #[.int .i64 fa, .int .i64 fb, .int .u64 fsq, .int .i64 fpg, .int .u8 fkd, .slice D2 fdl.length g2] TE)); have hb2 := (below_alloc (Below.refl z3.heap.size z3) (.cells #[.int .i64 ea, .int .i64 eb, .int .u64 esq, .int .i64 epg, .int .u8 ekd, .slice D1 edl.length g1] TE)).trans (hb.mono (by simp)); have hb3 := below_alloc (Below.refl z4.heap.size z4) (.cells #[.int .i64 fa, .int .i64 fb, .int .u64 fsq, .int .i64 fpg, .int .u8 fkd, .slice D2 fdl.length g2] TE); have HK1 := Aside0.mk (Kd.C_below (Kd.C_below HK1.out hb2) hb3); have HK2 := Aside0.mk (Kd.C_below HK2.out hb3); have hx1 := (hb3.block _ (by have := hb.size; simp at this; omega)).trans ((hb.block _ (by simp)).trans (blk_new z3 (.cells #[.int .i64 ea, .int .i64 eb, .int .u64 esq, .int .i64 epg, .int .u8 ekd, .slice D1 edl.length g1] TE))); have hx2 := blk_new z4 (.cells #[.int .i64 fa, .int .i64 fb, .int .u64 fsq, .int .i64 fpg, .int .u8 fkd, .slice D2 fdl.length g2] TE); obtain ⟨t0, t1, t2, t3, t4, t5, -⟩ := ent_cells hx1; obtain ⟨o0, o1, o2, o3, o4, o5, -⟩ := ent_cells hx2; clear hD hC hb hb2 hb3 hx1 hx2 j1 j2)
                | (go_at_call 44; (with_reducible refine (SameEntry_ok (e := ⟨ea, eb, esq, epg, ekd, edl⟩) (f := ⟨fa, fb, fsq, fpg, fkd, fdl⟩) HK1.out HK2.out HL1.out HL2.out).mono ?_); rw [HSB.out]; rintro e z5 ⟨rfl, hb⟩; have HZ5 := Aside0.mk (HZ4a.out.trans (hb.mono HZ4a.out.size)); clear hb))
                    go_ret
                    first | exact ⟨true, rfl, (fun h => Bool.noConfusion h), HYB.out.trans (HZ5.out.mono HYB.out.size)⟩ | exact ⟨rfl, (fun h => Bool.noConfusion h), HYB.out.trans (HZ5.out.mono HYB.out.size)⟩
                · have q2b : (r2 == 0) = false := by simpa using q2
                  go_wp2_with (first
                | (go_at_call 41; (with_reducible refine (HC1.out _ (Below.refl _ _)).mono ?_); rintro e z1 ⟨rfl, hb⟩; have HZ1 := Aside0.mk hb; clear hb)
                | (go_at_call 41; (with_reducible refine (HC2.out _ HZ1.out).mono ?_); rintro e z2 ⟨rfl, hb⟩; have HZ2 := Aside0.mk (HZ1.out.trans (hb.mono HZ1.out.size)); clear hb j1 j2; obtain ⟨j1, j2⟩ := HYC.out _ HZ2.out)
                | (go_at_call 39; (with_reducible refine (HA1.out _ HZ2.out).mono ?_); rintro e z3 ⟨v3, rfl, hD, hb⟩; obtain ⟨D1, g1, rfl, -, hC⟩ := hD.reads; have HK1 := Aside0.mk hC; have HZ3 := Aside0.mk (HZ2.out.trans (hb.mono HZ2.out.size)); clear hD hC hb j1 j2; have HZ3a := Aside0.mk (HZ3.out.alloc HZ3.out.size (.cells #[.int .i64 ea, .int .i64 eb, .int .u64 esq, .int .i64 epg, .int .u8 ekd, .slice D1 edl.length g1] TE)); obtain ⟨j1, j2⟩ := HYC.out _ HZ3a.out)
                | (go_at_call 39; (with_reducible refine (HA2.out _ HZ3a.out).mono ?_); rintro e z4 ⟨v4, rfl, hD, hb⟩; obtain ⟨D2, g2, rfl, -, hC⟩ := hD.reads; have HK2 := Aside0.mk hC; have HZ4 := Aside0.mk (HZ3a.out.trans (hb.mono HZ3a.out.size)); have HZ4a := Aside0.mk (HZ4.out.alloc HZ4.out.size (.cells #[.int .i64 fa, .int .i64 fb, .int .u64 fsq, .int .i64 fpg, .int .u8 fkd, .slice D2 fdl.length g2] TE)); have hb2 := (below_alloc (Below.refl z3.heap.size z3) (.cells #[.int .i64 ea, .int .i64 eb, .int .u64 esq, .int .i64 epg, .int .u8 ekd, .slice D1 edl.length g1] TE)).trans (hb.mono (by simp)); have hb3 := below_alloc (Below.refl z4.heap.size z4) (.cells #[.int .i64 fa, .int .i64 fb, .int .u64 fsq, .int .i64 fpg, .int .u8 fkd, .slice D2 fdl.length g2] TE); have HK1 := Aside0.mk (Kd.C_below (Kd.C_below HK1.out hb2) hb3); have HK2 := Aside0.mk (Kd.C_below HK2.out hb3); have hx1 := (hb3.block _ (by have := hb.size; simp at this; omega)).trans ((hb.block _ (by simp)).trans (blk_new z3 (.cells #[.int .i64 ea, .int .i64 eb, .int .u64 esq, .int .i64 epg, .int .u8 ekd, .slice D1 edl.length g1] TE))); have hx2 := blk_new z4 (.cells #[.int .i64 fa, .int .i64 fb, .int .u64 fsq, .int .i64 fpg, .int .u8 fkd, .slice D2 fdl.length g2] TE); obtain ⟨t0, t1, t2, t3, t4, t5, -⟩ := ent_cells hx1; obtain ⟨o0, o1, o2, o3, o4, o5, -⟩ := ent_cells hx2; clear hD hC hb hb2 hb3 hx1 hx2 j1 j2))
                  exact ⟨⟨b + 1, by omega, by go_num, HSTEP.out (HNC.out (fun _ h => absurd h q2)), HYB.out.trans (HZ4a.out.mono HYB.out.size)⟩, by simp [intOf]; omega⟩
              · have q1b : (r1 == 0) = false := by simpa using q1
                go_wp2_with (first
                | (go_at_call 41; (with_reducible refine (HC1.out _ (Below.refl _ _)).mono ?_); rintro e z1 ⟨rfl, hb⟩; have HZ1 := Aside0.mk hb; clear hb)
                | (go_at_call 41; (with_reducible refine (HC2.out _ HZ1.out).mono ?_); rintro e z2 ⟨rfl, hb⟩; have HZ2 := Aside0.mk (HZ1.out.trans (hb.mono HZ1.out.size)); clear hb j1 j2; obtain ⟨j1, j2⟩ := HYC.out _ HZ2.out)
                | (go_at_call 39; (with_reducible refine (HA1.out _ HZ2.out).mono ?_); rintro e z3 ⟨v3, rfl, hD, hb⟩; obtain ⟨D1, g1, rfl, -, hC⟩ := hD.reads; have HK1 := Aside0.mk hC; have HZ3 := Aside0.mk (HZ2.out.trans (hb.mono HZ2.out.size)); clear hD hC hb j1 j2; have HZ3a := Aside0.mk (HZ3.out.alloc HZ3.out.size (.cells #[.int .i64 ea, .int .i64 eb, .int .u64 esq, .int .i64 epg, .int .u8 ekd, .slice D1 edl.length g1] TE)); obtain ⟨j1, j2⟩ := HYC.out _ HZ3a.out)
                | (go_at_call 39; (with_reducible refine (HA2.out _ HZ3a.out).mono ?_); rintro e z4 ⟨v4, rfl, hD, hb⟩; obtain ⟨D2, g2, rfl, -, hC⟩ := hD.reads; have HK2 := Aside0.mk hC; have HZ4 := Aside0.mk (HZ3a.out.trans (hb.mono HZ3a.out.size)); have HZ4a := Aside0.mk (HZ4.out.alloc HZ4.out.size (.cells #[.int .i64 fa, .int .i64 fb, .int .u64 fsq, .int .i64 fpg, .int .u8 fkd, .slice D2 fdl.length g2] TE)); have hb2 := (below_alloc (Below.refl z3.heap.size z3) (.cells #[.int .i64 ea, .int .i64 eb, .int .u64 esq, .int .i64 epg, .int .u8 ekd, .slice D1 edl.length g1] TE)).trans (hb.mono (by simp)); have hb3 := below_alloc (Below.refl z4.heap.size z4) (.cells #[.int .i64 fa, .int .i64 fb, .int .u64 fsq, .int .i64 fpg, .int .u8 fkd, .slice D2 fdl.length g2] TE); have HK1 := Aside0.mk (Kd.C_below (Kd.C_below HK1.out hb2) hb3); have HK2 := Aside0.mk (Kd.C_below HK2.out hb3); have hx1 := (hb3.block _ (by have := hb.size; simp at this; omega)).trans ((hb.block _ (by simp)).trans (blk_new z3 (.cells #[.int .i64 ea, .int .i64 eb, .int .u64 esq, .int .i64 epg, .int .u8 ekd, .slice D1 edl.length g1] TE))); have hx2 := blk_new z4 (.cells #[.int .i64 fa, .int .i64 fb, .int .u64 fsq, .int .i64 fpg, .int .u8 fkd, .slice D2 fdl.length g2] TE); obtain ⟨t0, t1, t2, t3, t4, t5, -⟩ := ent_cells hx1; obtain ⟨o0, o1, o2, o3, o4, o5, -⟩ := ent_cells hx2; clear hD hC hb hb2 hb3 hx1 hx2 j1 j2))
                exact ⟨⟨b + 1, by omega, by go_num, HSTEP.out (HNC.out (fun h _ => absurd h q1)), HYB.out.trans (HZ4a.out.mono HYB.out.size)⟩, by simp [intOf]; omega⟩
        · go_wp2
          refine ⟨⟨a + 1, by omega, by go_num, fun a' b' h1 h2 => ?_, HB.out⟩, by simp [intOf]; omega⟩
          by_cases h3 : a' = a
          · rw [h3]; exact HM.out b' (by omega)
          · exact HN.out a' b' (by omega) h2
    · go_wp2
      go_ret
      exact ⟨false, rfl, fun _ a' b' h1 h2 => HN.out a' b' (by omega) h2, HB.out⟩
end
end Go.Proofs.Ytmbiebdcnadhkaa.Fl
namespace Go.Proofs.Ytmbiebdcnadhkaa.Fl
set_option linter.unusedSimpArgs false
set_option linter.unusedVariables false
theorem Holds.move {D E : PD} (hs : E.s = D.s) {a q kd sq : Int} {l : List Int} (h : Holds D a q kd sq l) (hg : ∀ d, q ≤ d → d < q + (kpg D.s l.length : Int) → gotD E a d = gotD D a d) : Holds E a q kd sq l := by
  refine ⟨h.ok, by rw [hs]; exact h.has, by rw [hs]; exact h.room, fun i hi => ?_⟩
  rw [hs] at hi ⊢
  rw [hg _ (by omega) (by omega)]
  exact h.got i hi
theorem Chain.le {D : PD} {c sq : Int} : ∀ {rs : List (Int × List Int)} {q e : Int}, Chain D c sq q rs e → q ≤ e
  | [], _, _, h => Int.le_of_eq h
  | r :: rs, q, e, h => by have := Chain.le h.2.2; omega
theorem Chain.move {D E : PD} (hs : E.s = D.s) {a sq : Int} : ∀ {rs : List (Int × List Int)} {q e : Int}, Chain D a sq q rs e → (∀ d, q ≤ d → d < e → gotD E a d = gotD D a d) → Chain E a sq q rs e
  | [], _, _, h, _ => h
  | r :: rs, q, e, ⟨h1, h2, h3⟩, hg => by
    have hle := Chain.le h3
    refine ⟨h1.move hs (fun d h4 h5 => hg d h4 (by omega)), h2, ?_⟩
    rw [hs]
    exact Chain.move hs h3 (fun d h4 h5 => hg d (by omega) h5)
structure Laid (D : PD) (rs : List (Int × List Int)) (e : Int) : Prop where
  head : Holds D 0 0 1 5 []
  chain : Chain D 0 5 1 rs e
  free : ∀ d, e ≤ d → usedB D 0 d = false
  one : kpg D.s 0 = 1
theorem Laid.end_bad {D : PD} (hs : Sound D) {rs : List (Int × List Int)} {e : Int} (h : Laid D rs e) : (entD D 0 e).2 ≠ 0 := by
  cases hh : hasB D.s 0 e with
  | false => rw [no_ent hh]; decide
  | true => rw [unused_ent hs (h.free e (Int.le_refl _)) hh]; decide
theorem Laid.scan {D : PD} (hs : Sound D) (hb : BytD D) {rs : List (Int × List Int)} {e : Int} (h : Laid D rs e) : scanD D 0 = (5, entsL D.s 0 5 1 rs, true) := by
  have hen := h.head.ent hs hb
  have hk : (kpg D.s ([] : List Int).length : Int) = 1 := by rw [List.length_nil, h.one]; rfl
  rw [hk] at hen
  have hb1 := hs.sh.b1
  unfold scanD scanL
  rw [hen, if_neg (by simp)]
  simp only
  rw [Chain.scan hs hb (h.end_bad hs) h.chain (by omega)]
theorem Laid.sync {D : PD} {rs : List (Int × List Int)} {e : Int} (h : Laid D rs e) : Laid { D with dirty := [] } rs e :=
  ⟨h.head.move (D := D) (E := { D with dirty := [] }) rfl (fun _ _ _ => rfl), h.chain.move (D := D) (E := { D with dirty := [] }) rfl (fun _ _ _ => rfl), h.free, h.one⟩
theorem Laid.app {D : PD} (hs : ShapeOk D.s) {rs : List (Int × List Int)} {e kd : Int} {l : List Int} (h : Laid D rs e) (hr : RecOk kd 5 l) (hk : kd ≠ 1) (h0 : (appE D 0 e l.length).2 = 0) : Laid (appD D 0 e l.length (Fl.rec kd 5 l)) (rs ++ [(kd, l)]) (e + (kpg D.s l.length : Int)) := by
  have hle := h.chain.le
  refine ⟨h.head.keep hs h0 (.inr (by rw [List.length_nil, h.one]; omega)), ?_, fun d hd => ?_, by rw [appD_s]; exact h.one⟩
  · have h1 := Chain.keep (kd := kd) (sq := 5) hs h0 h.chain (.inr (Int.le_refl _))
    have h2 := Chain.snoc (r := (kd, l)) h1 (app_holds hs hr h0) hk
    rw [appD_s] at h2
    exact h2
  · rw [app_used hs h0, h.free d (by omega), Bool.or_false]
    exact decide_eq_false (fun hh => by omega)
def Last (D : PD) (rs : List (Int × List Int)) (L : Nat) : Prop := L ≤ rs.length ∧ ∃ e1, Chain D 0 5 1 (rs.take L) e1 ∧ ∀ c ∈ D.dirty, e1 ≤ c.2
theorem Last.sync {D : PD} {rs : List (Int × List Int)} {e : Int} (h : Laid D rs e) : Last { D with dirty := [] } rs rs.length :=
  ⟨Nat.le_refl _, e, by rw [List.take_length]; exact h.chain.move (D := D) (E := { D with dirty := [] }) rfl (fun _ _ _ => rfl), fun c hc => by cases hc⟩
theorem Last.app {D : PD} (hs : ShapeOk D.s) {rs : List (Int × List Int)} {e kd : Int} {l : List Int} {L : Nat} (h : Laid D rs e) (hL : Last D rs L) (h0 : (appE D 0 e l.length).2 = 0) : Last (appD D 0 e l.length (Fl.rec kd 5 l)) (rs ++ [(kd, l)]) L := by
  obtain ⟨h1, e1, h2, h3⟩ := hL
  have hle : e1 ≤ e := by
    have hsp : ∀ (rs : List (Int × List Int)) (L : Nat) (q : Int), Chain D 0 5 q rs e → Chain D 0 5 q (rs.take L) e1 → e1 ≤ e := by
      intro rs
      induction rs with
      | nil =>
        intro L q hc hc1
        rw [List.take_nil] at hc1
        have a1 : q = e := hc
        have a2 : q = e1 := hc1
        omega
      | cons r rs ih =>
        intro L q hc hc1
        cases L with
        | zero => have := hc.le; have a2 : q = e1 := hc1; omega
        | succ L => exact ih L _ hc.2.2 hc1.2.2
    exact hsp rs L 1 h.chain h2
  refine ⟨by simp; omega, e1, ?_, fun c hc => ?_⟩
  · rw [List.take_append_of_le_length h1]
    exact Chain.keep hs h0 h2 (.inr hle)
  · rw [app_dirty hs h0] at hc
    rcases List.mem_append.1 hc with hc | hc
    · exact h3 c hc
    · obtain ⟨i, _, rfl⟩ := List.mem_map.1 hc
      simp only
      omega
theorem look_crash_some {n : Int} {P : PlanT} {d : List Adr} {mp : List (Adr × List Int)} (hn : Nodup mp) (hd : ∀ a ∈ d, (look a mp).isSome = true) (c : Adr) : ∀ k, (look c (crashTo n P d mp k)).isSome = true → (look c mp).isSome = true
  | 0, h => h
  | k + 1, h => by
    unfold crashTo at h
    split at h
    · rename_i a ha
      have hm := List.mem_of_getElem? ha
      unfold stepC at h
      split at h
      · rw [look_put] at h
        split at h
        · rename_i he; rw [he]; exact hd a hm
        · exact look_crash_some hn hd c k h
      · split at h
        · rw [look_del _ _ (nodup_crashTo hn _)] at h
          split at h
          · cases h
          · exact look_crash_some hn hd c k h
        · exact look_crash_some hn hd c k h
    · exact look_crash_some hn hd c k h
theorem look_crash_keep {n : Int} {P : PlanT} {d : List Adr} {mp : List (Adr × List Int)} (hn : Nodup mp) {c : Adr} (hc : c ∉ d) : ∀ k, look c (crashTo n P d mp k) = look c mp
  | 0 => rfl
  | k + 1 => by
    unfold crashTo
    split
    · rename_i a ha
      have hne : ¬ c = a := fun e => hc (e ▸ List.mem_of_getElem? ha)
      unfold stepC
      split
      · rw [look_put, if_neg hne]; exact look_crash_keep hn hc k
      · split
        · rw [look_del _ _ (nodup_crashTo hn _), if_neg hne]; exact look_crash_keep hn hc k
        · exact look_crash_keep hn hc k
    · exact look_crash_keep hn hc k
theorem byt_of_full {n : Nat} {l : List Int} (h : Byt (full n l)) : Byt l := fun x hx => h x (List.mem_append.2 (.inl hx))
theorem look_crash_byt {n : Int} {P : PlanT} {d : List Adr} {mp : List (Adr × List Int)} (hn : Nodup mp) {c : Adr} (h0 : Byt ((look c mp).getD [])) : ∀ k, Byt ((look c (crashTo n P d mp k)).getD [])
  | 0 => h0
  | k + 1 => by
    unfold crashTo
    split
    · rename_i a ha
      unfold stepC
      split
      · rw [look_put]
        split
        · rename_i he
          have := look_crash_byt (n := n) (P := P) (d := d) hn h0 k
          rw [he] at this
          exact Byt.full (this.take _)
        · exact look_crash_byt hn h0 k
      · split
        · rw [look_del _ _ (nodup_crashTo hn _)]
          split
          · exact Byt.nil
          · exact look_crash_byt hn h0 k
        · exact look_crash_byt hn h0 k
    · exact look_crash_byt hn h0 k
section
variable {D : PD} {P : PlanT}
theorem crash_used (hn : Nodup D.mp) (hd : ∀ a ∈ D.dirty, (look a D.mp).isSome = true) {c d : Int} (h : usedB (crashD D P) c d = true) : usedB D c d = true := by
  unfold usedB crashD at h
  rw [Bool.and_eq_true] at h
  unfold usedB
  rw [Bool.and_eq_true]
  exact ⟨h.1, look_crash_some hn hd _ _ h.2⟩
theorem crash_got (hn : Nodup D.mp) {c d : Int} (h : (c, d) ∉ D.dirty) : gotD (crashD D P) c d = gotD D c d := by
  unfold gotD readD numB crashD
  simp only
  rw [look_crash_keep hn h]
theorem BytD.crash (hn : Nodup D.mp) (h : BytD D) (P : PlanT) : BytD (crashD D P) := fun a b => by
  have h1 := h a b
  unfold gotD readD numB at h1
  unfold gotD readD numB crashD
  simp only
  split
  · rename_i hh
    rw [if_pos hh] at h1
    exact Byt.full (look_crash_byt hn (byt_of_full h1) _)
  · exact Byt.nil
def Calm (D E : PD) : Prop := ∀ b : Nat, (b : Int) < D.s.2.1 → usedB D 0 (b : Int) = true → usedB E 0 (b : Int) = true → (entD D 0 (b : Int)).2 = 0 → (entD E 0 (b : Int)).2 = 0 → sameB (entD D 0 (b : Int)).1 (entD E 0 (b : Int)).1 = true
theorem sameB_eq {e f : En} (h : sameB e f = true) : f = e := by
  have := of_decide_eq_true h
  obtain ⟨a, b, c, d, x, l⟩ := e
  obtain ⟨a2, b2, c2, d2, x2, l2⟩ := f
  simp only at this
  obtain ⟨rfl, rfl, rfl, rfl, rfl, rfl⟩ := this
  rfl
theorem calm_ent {E : PD} (hs : Sound D) (hb : BytD D) (hsE : Sound E) (hE : E.s = D.s) (hu : ∀ c d, usedB E c d = true → usedB D c d = true) (hc : Calm D E) {q kd sq : Int} {l : List Int} (h : Holds D 0 q kd sq l) (h0 : (entD E 0 q).2 = 0) : entD E 0 q = entD D 0 q := by
  have hent := h.ent hs hb
  have hq := (hasB_iff _ _ _).1 h.has
  have hu1 : usedB E 0 q = true := by
    cases he : usedB E 0 q with
    | true => rfl
    | false =>
      have := unused_ent hsE he (by rw [hE]; exact h.has)
      omega
  obtain ⟨b, rfl⟩ := Int.eq_ofNat_of_zero_le hq.2.2.1
  have := sameB_eq (hc b hq.2.2.2 (hu _ _ hu1) hu1 (by rw [hent]) h0)
  refine Prod.ext this ?_
  rw [h0, hent]
theorem crash_chain {E : PD} {e : Int} (hs : Sound D) (hb : BytD D) (hsE : Sound E) (hE : E.s = D.s) (hu : ∀ c d, usedB E c d = true → usedB D c d = true) (hc : Calm D E) (he : (entD E 0 e).2 ≠ 0) :
    ∀ {rs : List (Int × List Int)} {q : Int} {f L : Nat}, Chain D 0 5 q rs e → D.s.2.1 - q ≤ f → (∀ x ∈ (entsL D.s 0 5 q rs).take L, (entD E 0 x.b).2 = 0) →
      ∃ m, m ≤ rs.length ∧ min L rs.length ≤ m ∧ scanF (entD E 0) D.s.2.1 5 f q = (entsL D.s 0 5 q rs).take m
  | [], q, f, L, h, _, _ => by
    obtain rfl : q = e := h
    exact ⟨0, Nat.le_refl _, by simp, by rw [scanF_bad (.inl he)]; rfl⟩
  | r :: rs, q, f, L, ⟨h1, h2, h3⟩, hf, hL => by
    by_cases hz : (entD E 0 q).2 = 0
    · have hq := (hasB_iff _ _ _).1 h1.has
      obtain ⟨f, rfl⟩ : ∃ g, f = g + 1 := ⟨f - 1, by omega⟩
      have hent := h1.ent hs hb
      have hk := kpg_bd hs.sh h1.ok.len
      have hee := (calm_ent hs hb hsE hE hu hc h1 hz).trans hent
      obtain ⟨m, hm1, hm2, hm3⟩ := crash_chain hs hb hsE hE hu hc he (rs := rs) (f := f) (L := L - 1) h3 (by omega) (fun x hx => by
        cases L with
        | zero => simp at hx
        | succ L => exact hL x (by simp only [entsL, List.take_succ_cons]; exact List.mem_cons_of_mem _ hx))
      refine ⟨m + 1, by simp; omega, by simp; omega, ?_⟩
      rw [scanF_good ⟨by omega, by omega⟩ (by rw [hee]) (by rw [hee]; exact h2) (by rw [hee]), hee]
      simp only
      rw [hm3]
      rfl
    · refine ⟨0, Nat.zero_le _, ?_, by rw [scanF_bad (.inl hz)]; rfl⟩
      cases L with
      | zero => simp
      | succ L =>
        exact absurd (hL ⟨0, q, 5, (kpg D.s r.2.length : Int), r.1, r.2⟩ (by simp [entsL])) hz
theorem chain_ents {E : PD} (hsE : Sound E) (hbE : BytD E) : ∀ {rs : List (Int × List Int)} {q e : Int}, Chain E 0 5 q rs e → ∀ x ∈ entsL E.s 0 5 q rs, (entD E 0 x.b).2 = 0
  | [], _, _, _, x, hx => by cases hx
  | r :: rs, q, e, ⟨h1, h2, h3⟩, x, hx => by
    rcases List.mem_cons.1 hx with rfl | hx
    · simp only
      rw [h1.ent hsE hbE]
    · exact chain_ents hsE hbE h3 x hx
theorem entsL_take (s : Int × Int × Int) (a sq : Int) : ∀ (rs : List (Int × List Int)) (q : Int) (L : Nat), (entsL s a sq q rs).take L = entsL s a sq q (rs.take L)
  | [], q, L => by simp [entsL]
  | r :: rs, q, 0 => rfl
  | r :: rs, q, L + 1 => by simp [entsL, entsL_take s a sq rs]
theorem crash_scan {rs : List (Int × List Int)} {e : Int} (hs : Sound D) (hb : BytD D) (hn : Nodup D.mp) (hd : ∀ a ∈ D.dirty, (look a D.mp).isSome = true) (hsE : Sound (crashD D P)) (h : Laid D rs e) (hc : Calm D (crashD D P)) :
    ∃ m, m ≤ rs.length ∧ (scanD (crashD D P) 0).2.1 = (entsL D.s 0 5 1 rs).take m ∧ ∀ L, Last D rs L → L ≤ m ∧ (scanD (crashD D P) 0).2.2 = true := by
  have hE : (crashD D P).s = D.s := rfl
  have hbE := BytD.crash hn hb P
  have hu := fun c d (h : usedB (crashD D P) c d = true) => crash_used hn hd h
  generalize hEE : crashD D P = E at hsE hc hE hbE hu
  have hgk : ∀ c d, (c, d) ∉ D.dirty → gotD E c d = gotD D c d := fun c d h => by rw [← hEE]; exact crash_got hn h
  have he : (entD E 0 e).2 ≠ 0 := by
    cases hh : hasB E.s 0 e with
    | false => rw [no_ent hh]; decide
    | true =>
      have : usedB E 0 e = false := by
        cases h2 : usedB E 0 e with
        | false => rfl
        | true => have := h.free e (Int.le_refl _); rw [hu _ _ h2] at this; cases this
      rw [unused_ent hsE this hh]
      decide
  have hhead := h.head.ent hs hb
  have hk1 : (kpg D.s ([] : List Int).length : Int) = 1 := by rw [List.length_nil, h.one]; rfl
  rw [hk1] at hhead
  have hb1 := hs.sh.b1
  have hlast : ∀ L, Last D rs L → (entD E 0 0).2 = 0 ∧ ∀ x ∈ (entsL D.s 0 5 1 rs).take L, (entD E 0 x.b).2 = 0 := fun L ⟨h1, e1, h2, h3⟩ => by
    have hle := h2.le
    have hh := h.head.move hE (fun d h4 h5 => hgk 0 d (fun hm => by have h7 := h3 _ hm; simp only at h7; rw [hk1] at h5; omega))
    have hch := h2.move hE (fun d h4 h5 => hgk 0 d (fun hm => by have h7 := h3 _ hm; simp only at h7; omega))
    refine ⟨by rw [hh.ent hsE hbE], fun x hx => ?_⟩
    rw [entsL_take, ← hE] at hx
    exact chain_ents hsE hbE hch x hx
  by_cases hz : (entD E 0 0).2 = 0
  · have hee := (calm_ent hs hb hsE hE hu hc h.head hz).trans hhead
    have hsc : ∀ L, (∀ x ∈ (entsL D.s 0 5 1 rs).take L, (entD E 0 x.b).2 = 0) → ∃ m, m ≤ rs.length ∧ min L rs.length ≤ m ∧ scanF (entD E 0) D.s.2.1 5 64 1 = (entsL D.s 0 5 1 rs).take m := fun L hL => crash_chain hs hb hsE hE hu hc he h.chain (by omega) hL
    have hval : scanD E 0 = (5, scanF (entD E 0) D.s.2.1 5 64 1, true) := by
      unfold scanD scanL
      rw [hee, if_neg (by simp), hE]
    obtain ⟨m, hm1, -, hm3⟩ := hsc 0 (fun x hx => by simp at hx)
    refine ⟨m, hm1, by rw [hval]; exact hm3, fun L hL => ⟨?_, by rw [hval]⟩⟩
    obtain ⟨m2, hm4, hm5, hm6⟩ := hsc L (hlast L hL).2
    have hlen := congrArg List.length (hm3.symm.trans hm6)
    rw [List.length_take, List.length_take, entsL_len] at hlen
    have := hL.1
    omega
  · have hval : scanD E 0 = (0, [], false) := by
      unfold scanD scanL
      rw [if_pos (.inl hz)]
    exact ⟨0, Nat.zero_le _, by rw [hval]; rfl, fun L hL => absurd (hlast L hL).1 hz⟩
end
end Go.Proofs.Ytmbiebdcnadhkaa.Fl
namespace Go.Proofs.Ytmbiebdcnadhkaa.Fl
open Go.RowKit Go.Proofs.YtmbiebdcnadhkaaW.PrintWords Go.Proofs.YtmbiebdcnadhkaaW.PrintMore Go.Maps
set_option linter.unusedSimpArgs false
set_option linter.unusedVariables false
abbrev TR : TypeId := 38
abbrev RecV := RecT × Option Addr × Nat
def recC (x : RecV) : List Value := [.int .i64 x.1.seg, .int .i64 x.1.page, .int .u64 x.1.seq, .int .u8 x.1.kind, .slice x.2.1 x.1.l.length x.2.2]
def kRec : Kd RecV where
  sz := 5
  E := []
  K := fun _ x cs => cs = recC x
  M := fun _ _ _ x cs => cs = recC x
  K_len := by
    rintro w x cs rfl
    rfl
  K_one := by
    rintro w x cs rfl u hu
    simp only [recC, List.mem_cons, List.not_mem_nil, or_false] at hu
    rcases hu with rfl | rfl | rfl | rfl | rfl <;> rfl
  K_below := by
    rintro w w1 x cs hb rfl
    rfl
  K_of_M := by
    rintro w base ok x cs rfl
    rfl
  M_mono := by
    rintro w base ok ok' x cs hok rfl
    rfl
  M_bound := by
    rintro w base ok x cs rfl
    rfl
  M_move := by
    rintro w w1 base ok x cs hm rfl
    rfl
  M_lower := by
    rintro w base base' ok x cs hb rfl
    rfl
theorem info_rec : (Try.prog.info? TR).map (fun i => (i.zero, i.size, i.bytes)) = some (some (.agg #[.int .i64 0, .int .i64 0, .int .u64 0, .int .u8 0, .slice none 0 0]), 5, 56) := by kernel_rfl
structure VCell (w : World) (g i : Nat) (x : RecV) : Prop where
  c0 : w.cell? ⟨g, i * 5, none⟩ = some (.int .i64 x.1.seg)
  c1 : w.cell? ⟨g, i * 5 + 1, none⟩ = some (.int .i64 x.1.page)
  c2 : w.cell? ⟨g, i * 5 + 2, none⟩ = some (.int .u64 x.1.seq)
  c3 : w.cell? ⟨g, i * 5 + 3, none⟩ = some (.int .u8 x.1.kind)
  c4 : w.cell? ⟨g, i * 5 + 4, none⟩ = some (.slice x.2.1 x.1.l.length x.2.2)
theorem VCell.below {w w' : World} {g i : Nat} {x : RecV} (h : VCell w g i x) (hb : Below w.heap.size w w') : VCell w' g i x :=
  have f : ∀ {a : Addr} {v : Value}, w.cell? a = some v → w'.cell? a = some v := fun h => (hb.cell (blt_of_cell h)).trans h
  ⟨f h.c0, f h.c1, f h.c2, f h.c3, f h.c4⟩
def VRow (w : World) (A : Option Addr) (l : List RecV) : Prop := ∀ (i : Nat) (x : RecV), l[i]? = some x → ∃ g, A = some ⟨g, 0, none⟩ ∧ VCell w g i x
theorem VRow.ofR {w : World} {base : Nat} {ok : Nat → Prop} {v : Value} {l : List RecV} (h : kRec.R TR w base ok v l) : ∃ A c, v = .slice A l.length c ∧ l.length ≤ c ∧ VRow w A l := by
  have hR := h
  obtain ⟨A, c, rfl, hc, hC⟩ := Kd.R_reads hR
  refine ⟨A, c, rfl, hc, fun i e hi => ?_⟩
  have hpos : 0 < l.length := Nat.lt_of_le_of_lt (Nat.zero_le i) (List.getElem?_eq_some_iff.1 hi).1
  obtain ⟨ad, rfl, hcc⟩ := hC.2.2 hpos
  obtain ⟨g, rfl⟩ : ∃ g, ad = ⟨g, 0, none⟩ := by
    obtain ⟨_, inner, ho, _⟩ := h
    rcases ho.2 with ⟨hv, _⟩ | ⟨g, cap', cur, hv, _⟩
    · cases hv
    · injection hv with ha _ _
      injection ha with ha
      exact ⟨g, ha⟩
  obtain ⟨cs, _, hk, hcell⟩ := hcc i e hi
  have hk2 : cs = recC e := hk
  subst hk2
  have f : ∀ j u, (recC e)[j]? = some u → w.cell? ⟨g, i * 5 + j, none⟩ = some u := fun j u hj => by
    have := hcell j u hj
    rw [add_plain] at this
    exact this
  exact ⟨g, rfl, f 0 _ rfl, f 1 _ rfl, f 2 _ rfl, f 3 _ rfl, f 4 _ rfl⟩
section
variable {N0 p : Nat} {K : Nat → Prop} {D : PD} {w w1 : World} {v v1 : Value} {want : List RecV}
theorem Solo.sync (h : Solo N0 p K D w) : Calls Try.prog 13 #[.pointer (some ⟨p, 0, none⟩)] w fun e w' => e = .returned (.tuple #[]) ∧ Solo N0 p K { D with dirty := [] } w' ∧ Below N0 w w' ∧ Kept K w w' :=
  (solo_frame N0 p).upd h (fun ok hD => (Sync_any hD).mono fun e w' ⟨h1, h2, h3⟩ => ⟨h1, h2.mono (fun k hk => .inl hk), h3⟩)
theorem Solo.crash (h : Solo N0 p K D w) (P : PlanT) (hP : PlanOk P) (hm : D.dirty.length < 1000000) (hdn : D.dirty.Pairwise (· ≠ ·)) (hdk : ∀ a ∈ D.dirty, (look a D.mp).isSome = true) :
    Calls Try.prog 19 #[.pointer (some ⟨p, 0, none⟩), .agg #[.int .u64 P.keep, .int .i64 P.torn, .int .i64 P.cut]] w fun e w' => e = .returned (.tuple #[]) ∧ Solo N0 p K (crashD D P) w' ∧ Below N0 w w' ∧ Kept K w w' :=
  (solo_frame N0 p).upd h (fun ok hD => Crash_any hD P hP.k0 hP.k1 hm hdn hdk)
theorem Solo.grow (h : Solo N0 p (fun k => some k = v.ownBlock) D w) (hR : kRec.R TR w N0 (fun k => some k = v.ownBlock) v want) (hg : w.grownBy w1 v.ownBlock) (hat : v1.ownBlock = v.ownBlock ∨ ∃ b, v1.ownBlock = some b ∧ w.heap.size ≤ b) (hR1 : ∃ want1, kRec.R TR w1 N0 (fun _ => True) v1 want1) : Solo N0 p (fun k => some k = v1.ownBlock) D w1 := by
  obtain ⟨ok, hD, h1, h0, hK⟩ := h
  obtain ⟨inner, hown⟩ := Kd.R_own hR
  obtain ⟨want1, hR1⟩ := hR1
  obtain ⟨inner1, hown1⟩ := Kd.R_own hR1
  have hno : ∀ k, some k = v.ownBlock → ¬ ok k := fun k hk hok => by
    obtain ⟨cs, hc⟩ := own_typed hown k hk.symm
    rcases (hK k hk).2 with h2 | ⟨cs', fr, h2⟩
    · exact h2 hok
    · rw [hc] at h2
      injection h2 with h2
      injection h2 with _ h3 _
      exact absurd h3 (by decide)
  refine ⟨_, hD.bound.step (fun k hk hlt => hg.block k hlt (fun e => hno k e hk.1)), fun k hk => hk.2.1, Nat.le_trans h0 hg.size, fun k hk => ⟨own_lt hown1 k hk.symm, .inl (fun hh => ?_)⟩⟩
  rcases hat with hat | ⟨b, hb, hle⟩
  · rw [hat] at hk
    exact hno k hk hh.1
  · rw [hb] at hk
    injection hk with hk
    have := hh.2.2
    omega
theorem rec_tight (h : kRec.R TR w N0 (fun _ => True) v want) : kRec.R TR w N0 (fun k => some k = v.ownBlock) v want := Kd.R_tight rfl h
theorem rec_wide (h : kRec.R TR w N0 (fun k => some k = v.ownBlock) v want) : kRec.R TR w N0 (fun _ => True) v want := Kd.R_mono h (fun _ _ => trivial)
theorem rec_kept (h : kRec.R TR w N0 (fun k => some k = v.ownBlock) v want) (hk : ∀ k, some k = v.ownBlock → w1.heap[k]? = w.heap[k]?) : kRec.R TR w1 N0 (fun k => some k = v.ownBlock) v want := Kd.R_step h (fun k hk2 _ => hk k hk2)
end
end Go.Proofs.Ytmbiebdcnadhkaa.Fl
namespace Go.Proofs.Ytmbiebdcnadhkaa.Fl
open Go.RowKit Go.Proofs.YtmbiebdcnadhkaaW.PrintWords Go.Proofs.YtmbiebdcnadhkaaW.PrintMore Go.Maps
set_option linter.unusedSimpArgs false
set_option linter.unusedVariables false
def recsOf (want : List RecV) : List (Int × List Int) := want.map (fun x => (x.1.kind, x.1.l))
structure WOk (w : World) (x : RecV) : Prop where
  row : kB.C w x.2.1 x.1.l.length x.1.l
  cap : x.1.l.length ≤ x.2.2
  len : x.1.l.length ≤ 600
  ok : RecOk x.1.kind 5 x.1.l
def CLast (v : Value) (D : PD) (rs : List (Int × List Int)) : Prop := v = .int .i64 (-1) ∨ ∃ L : Nat, v = .int .i64 (L : Int) ∧ Last D rs L
structure CI (w w4 : World) (p : Nat) (s : Int × Int × Int) (k : Nat) (pg : Int) (v12 v13 : Value) (wr : World) (D : PD) (ps : List Pg) (want : List RecV) : Prop where
  solo : Solo w4.heap.size p (fun j => some j = v13.ownBlock) D wr
  row : kRec.R TR wr w4.heap.size (fun j => some j = v13.ownBlock) v13 want
  laid : Laid D (recsOf want) pg
  sh : D.s = s
  sim : Sim D s ps
  len : ps.length ≤ 1000 + 514 * k
  byt : BytD D
  wok : ∀ x ∈ want, WOk w x
  wl : want.length ≤ k
  bel : Below w4.heap.size w4 wr
  last : CLast v12 D (recsOf want)
section
variable {w w4 : World} {p : Nat} {s : Int × Int × Int} {k : Nat} {pg : Int} {v12 v13 : Value} {wr w7 : World} {D : PD} {ps : List Pg} {want : List RecV}
theorem CI.move (h : CI w w4 p s k pg v12 v13 wr D ps want) (hS : Solo w4.heap.size p (fun j => some j = v13.ownBlock) D w7) (hk : ∀ j, some j = v13.ownBlock → w7.heap[j]? = wr.heap[j]?) (hb : Below w4.heap.size w4 w7) : CI w w4 p s k pg v12 v13 w7 D ps want :=
  ⟨hS, rec_kept h.row hk, h.laid, h.sh, h.sim, h.len, h.byt, h.wok, h.wl, hb, h.last⟩
theorem CI.mono (h : CI w w4 p s k pg v12 v13 wr D ps want) : CI w w4 p s (k + 1) pg v12 v13 wr D ps want :=
  ⟨h.solo, h.row, h.laid, h.sh, h.sim, by have := h.len; omega, h.byt, h.wok, by have := h.wl; omega, h.bel, h.last⟩
theorem CI.sync (h : CI w w4 p s k pg v12 v13 wr D ps want) (hS : Solo w4.heap.size p (fun j => some j = v13.ownBlock) { D with dirty := [] } w7) (hk : ∀ j, some j = v13.ownBlock → w7.heap[j]? = wr.heap[j]?) (hb : Below w4.heap.size w4 w7) : CI w w4 p s k pg (.int .i64 (want.length : Int)) v13 w7 { D with dirty := [] } (syncP ps) want :=
  ⟨hS, rec_kept h.row hk, h.laid.sync, h.sh, h.sim.sync, by simp only [syncP, List.length_map]; exact h.len, h.byt, h.wok, h.wl, hb, .inr ⟨want.length, rfl, by have := Last.sync h.laid; unfold recsOf at this ⊢; rwa [List.length_map] at this⟩⟩
set_option maxRecDepth 100000 in
theorem CI.app (hs : ShapeOk s) (h : CI w w4 p s k pg v12 v13 wr D ps want) {x : RecV} (hx : WOk w x) (hx1 : x.1.kind ≠ 1) (h0 : (appE D 0 pg x.1.l.length).2 = 0) {w8 : World} {v1 : Value}
    (hS : Solo w4.heap.size p (fun j => some j = v13.ownBlock) (appD D 0 pg x.1.l.length (Fl.rec x.1.kind 5 x.1.l)) w7) (hk : ∀ j, some j = v13.ownBlock → w7.heap[j]? = wr.heap[j]?)
    (hR : kRec.R TR w8 w4.heap.size (fun _ => True) v1 (want ++ [x])) (hb : Below w4.heap.size w4 w8) (hg : w7.grownBy w8 v13.ownBlock) (hat : v1.ownBlock = v13.ownBlock ∨ ∃ b, v1.ownBlock = some b ∧ w7.heap.size ≤ b) :
    CI w w4 p s (k + 1) (pg + (kpg s x.1.l.length : Int)) v12 v1 w8 (appD D 0 pg x.1.l.length (Fl.rec x.1.kind 5 x.1.l)) (appP s ps 0 pg x.1.l.length (Fl.rec x.1.kind 5 x.1.l)) (want ++ [x]) := by
  have hsD : ShapeOk D.s := by rw [h.sh]; exact hs
  have hre : recsOf (want ++ [x]) = recsOf want ++ [(x.1.kind, x.1.l)] := by simp [recsOf]
  refine ⟨hS.grow (rec_kept h.row hk) hg hat ⟨_, hR⟩, rec_tight hR, ?_, (appD_s _ _ _ _ _).trans h.sh, h.sim.app 0 pg _ _, ?_, ?_, ?_, by have := h.wl; simp; omega, hb, ?_⟩
  · rw [hre]
    have := h.laid.app hsD hx.ok hx1 h0
    rwa [h.sh] at this
  · have := appP_len hs ps 0 pg x.1.l.length (Fl.rec_len x.1.kind 5 x.1.l)
    have := h.len
    omega
  · exact BytD.app hsD h.byt 0 pg _ (Fl.rec_byt (seq := 5) hx.ok.kd hx.ok.byt)
  · intro y hy
    rcases List.mem_append.1 hy with hy | hy
    · exact h.wok y hy
    · rw [List.mem_singleton.1 hy]; exact hx
  · rw [hre]
    rcases h.last with h1 | ⟨L, h1, h2⟩
    · exact .inl h1
    · exact .inr ⟨L, h1, h2.app hsD h.laid h0⟩
end
theorem kpg_zero {s : Int × Int × Int} (hs : ShapeOk s) : kpg s 0 = 1 := by
  obtain ⟨c, hc⟩ := Int.eq_ofNat_of_zero_le (show 0 ≤ s.2.2 by have := hs.c0; omega)
  have h0 := hs.c0
  unfold kpg
  rw [hc] at h0 ⊢
  simp only [Int.toNat_natCast]
  rw [show 0 + 16 + c - 1 = c + 15 by omega, Nat.add_div_left _ (by omega), Nat.div_eq_of_lt (by omega)]
set_option maxRecDepth 100000 in
theorem new_appE {s : Int × Int × Int} (hs : ShapeOk s) : appE ⟨s, [], []⟩ 0 0 0 = (1, 0) := by
  have h : (appE ⟨s, [], []⟩ 0 0 0).2 = 0 := by
    rw [appE_zero]
    refine ⟨(hasB_iff _ _ _).2 ⟨Int.le_refl _, by have := hs.a0; simp only; omega, Int.le_refl _, by have := hs.b0; simp only; omega⟩, by omega, ?_, ?_⟩
    · show (0 : Int) + (kpg s 0 : Int) ≤ s.2.1
      rw [kpg_zero hs]
      have := hs.b0
      omega
    · unfold anyUsedD
      rw [List.any_eq_false]
      intro i _
      simp [usedB, look]
  rw [appE_one h]
  show ((kpg s 0 : Int), (0 : Int)) = (1, 0)
  rw [kpg_zero hs]
  rfl
def startD (s : Int × Int × Int) : PD := appD ⟨s, [], []⟩ 0 0 0 (rec 1 5 [])
theorem five_seq : SeqOk 5 := ⟨by decide, by decide⟩
theorem start_laid {s : Int × Int × Int} (hs : ShapeOk s) : Laid (startD s) [] 1 := by
  have h0 : (appE (⟨s, [], []⟩ : PD) 0 0 ([] : List Int).length).2 = 0 := by rw [List.length_nil, new_appE hs]
  have hr : RecOk 1 5 [] := ⟨one_kind, five_seq, Byt.nil, by simp⟩
  refine ⟨app_holds (D := ⟨s, [], []⟩) hs hr h0, rfl, fun d hd => ?_, by unfold startD; rw [appD_s]; exact kpg_zero hs⟩
  have := app_used (D := ⟨s, [], []⟩) (kd := 1) (sq := 5) hs h0 0 d
  unfold startD
  rw [List.length_nil] at this
  rw [this]
  have hk : kpg (⟨s, [], []⟩ : PD).s 0 = 1 := kpg_zero hs
  rw [hk]
  rw [decide_eq_false (by omega)]
  simp [usedB, look]
theorem entsL_get (s : Int × Int × Int) : ∀ (want : List RecV) (q : Int) (i : Nat) (e : En), (entsL s 0 5 q (recsOf want))[i]? = some e → ∃ x, want[i]? = some x ∧ e.kind = x.1.kind ∧ e.data = x.1.l
  | [], q, i, e, h => by simp [recsOf, entsL] at h
  | x :: want, q, 0, e, h => by
    simp [recsOf, entsL] at h
    rw [← h]
    exact ⟨x, rfl, rfl, rfl⟩
  | x :: want, q, i + 1, e, h => by
    have h2 : (entsL s 0 5 (q + (kpg s x.1.l.length : Int)) (recsOf want))[i]? = some e := by
      simp only [recsOf, List.map_cons, entsL, List.getElem?_cons_succ] at h
      exact h
    obtain ⟨y, h3, h4⟩ := entsL_get s want _ i e h2
    exact ⟨y, by simpa using h3, h4⟩
theorem recsOf_len (want : List RecV) : (recsOf want).length = want.length := by simp [recsOf]
end Go.Proofs.Ytmbiebdcnadhkaa.Fl
