/- slices.DeleteFunc over a row of addresses, walked. No condition. -/
import Derived.Test.YtkmanjfmffdcbaaFlRows
import Derived.Lib.SliceRun
namespace Go.Proofs.Ytkmanjfmffdcbaa.Fl
open Go.RowKit Go.Proofs.YtkmanjfmffdcbaaW.PrintWords Go.Proofs.YtkmanjfmffdcbaaW.PrintMore Go.Maps
set_option linter.unusedSimpArgs false
set_option linter.unusedVariables false
theorem zero_addr (w : World) : (zeroValue TA).run Try.prog w = .ok (.agg #[.int .i64 0, .int .i64 0]) w := by kernel_rfl
theorem zeros_one (n : Nat) : ∀ u ∈ (Builtin.zeroCells (Value.agg #[.int .i64 0, .int .i64 0]).cells n).toList, u.oneCell' = true := by
  intro u hu
  simp only [Builtin.zeroCells, Value.cells, Array.toList_map, List.mem_map] at hu
  obtain ⟨i, _, rfl⟩ := hu
  have : i % 2 = 0 ∨ i % 2 = 1 := by omega
  rcases this with h | h <;> simp [h, Value.oneCell']
set_option maxRecDepth 20000 in
theorem run_clear_row {w : World} {g cap : Nat} {xs : List Adr} (hr : ARow w g cap xs) (i m c : Nat) (ty : TypeId) (hm : 0 < m) (him : i + m ≤ cap) :
    ∃ w', (Builtin.clear_ #[83] ty #[.slice (some ⟨g, i * 2, none⟩) m c]).run Try.prog w = .ok (.tuple #[]) w' ∧ (∀ k, k ≤ i → k ≤ xs.length → ARow w' g cap (xs.take k)) ∧ Upd (fun k => k = g) w w' := by
  obtain ⟨cur, hh, hs, ht⟩ := hr.ex
  obtain ⟨vs, hvs⟩ : ∃ vs, vs = (Builtin.zeroCells (Value.agg #[.int .i64 0, .int .i64 0]).cells m).toList := ⟨_, rfl⟩
  have hl : vs.length = m * 2 := by rw [hvs]; simp [Builtin.zeroCells, Value.cells]
  have h1 : ∀ u ∈ vs, u.oneCell' = true := by rw [hvs]; exact zeros_one m
  have hst := run_storeCells_at Try.prog g (i * 2) TA vs 0 cur w hh (by rw [hl, hs]; omega) h1
  obtain ⟨m', rfl⟩ : ∃ m', m = m' + 1 := ⟨m - 1, by omega⟩
  have hz := zero_addr w
  have hst2 := hst
  rw [hvs] at hst2
  simp only [Nat.add_zero] at hst2
  refine ⟨w.setRow g (cur.toList.take (i * 2) ++ vs ++ cur.toList.drop (i * 2 + vs.length)).toArray, ?_, ?_, ?_⟩
  · rw [hvs]
    simp [Builtin.clear_, run_underlying Try.underlying83, hz, hst2]
  · intro k hk hk2
    have hlen : (cur.toList.take (i * 2) ++ vs ++ cur.toList.drop (i * 2 + vs.length)).length = cap * 2 := by
      rw [List.length_append, List.length_append, List.length_take, List.length_drop, hl, Array.length_toList, hs]
      omega
    have htk : (cur.toList.take (i * 2) ++ vs ++ cur.toList.drop (i * 2 + vs.length)).take (k * 2) = cur.toList.take (k * 2) := by
      rw [List.append_assoc, List.take_append_of_le_length (by rw [List.length_take, Array.length_toList, hs]; omega), List.take_take]
      congr 1
      omega
    refine ⟨⟨_, setRow_heap w g cur _ TA _ hh, by rw [List.size_toArray]; exact hlen, ?_⟩, by have := hr.le; rw [List.length_take]; omega, hr.mx⟩
    rw [flat_take, ← ht, List.take_take, List.length_take, Nat.min_eq_left hk2, Nat.min_eq_left (by omega)]
    exact htk
  · exact ⟨rfl, rfl, rfl, by simp [World.setRow], fun k _ hk => setRow_other w g k _ hk⟩
def keepF (q : Adr → Bool) (xs : List Adr) : List Adr := xs.filter (fun a => !q a)
theorem keepF_pre {q : Adr → Bool} {xs : List Adr} {i : Nat} (h : ∀ j b, j < i → xs[j]? = some b → q b = false) : keepF q (xs.take i) = xs.take i := by
  unfold keepF
  rw [List.filter_eq_self]
  intro a ha
  obtain ⟨j, hj, e⟩ := List.getElem_of_mem ha
  rw [List.length_take] at hj
  rw [List.getElem_take] at e
  rw [h j a (by omega) (by rw [← e]; exact List.getElem?_eq_getElem (by omega))]
  rfl
theorem idxI_spec {α : Type} (q : α → Bool) : ∀ (xs : List α), (idxI q xs = -1 ∧ ∀ a ∈ xs, q a = false) ∨ ∃ (i : Nat) (a : α), idxI q xs = (i : Int) ∧ xs[i]? = some a ∧ q a = true ∧ ∀ j b, j < i → xs[j]? = some b → q b = false := by
  have key : ∀ xs : List α, (idxOf q xs = none ∧ ∀ a ∈ xs, q a = false) ∨ ∃ (i : Nat) (a : α), idxOf q xs = some i ∧ xs[i]? = some a ∧ q a = true ∧ ∀ j b, j < i → xs[j]? = some b → q b = false := by
    intro xs
    induction xs with
    | nil => exact .inl ⟨rfl, fun a ha => by cases ha⟩
    | cons x l ih =>
      cases hx : q x with
      | true => exact .inr ⟨0, x, by simp [idxOf, hx], rfl, hx, fun j b hj => by omega⟩
      | false =>
        rcases ih with ⟨h1, h2⟩ | ⟨i, a, h1, h2, h3, h4⟩
        · refine .inl ⟨by simp [idxOf, hx, h1], fun a ha => ?_⟩
          rcases List.mem_cons.1 ha with rfl | ha
          · exact hx
          · exact h2 a ha
        · refine .inr ⟨i + 1, a, by simp [idxOf, hx, h1], by rw [List.getElem?_cons_succ]; exact h2, h3, fun j b hj hb => ?_⟩
          cases j with
          | zero => simp at hb; rw [← hb]; exact hx
          | succ j => rw [List.getElem?_cons_succ] at hb; exact h4 j b (by omega) hb
  intro xs
  rcases key xs with ⟨h1, h2⟩ | ⟨i, a, h1, h2⟩
  · exact .inl ⟨by simp [idxI, h1], h2⟩
  · exact .inr ⟨i, a, by simp [idxI, h1], h2⟩
/-- The state of the loop: i have been kept, those ahead of j have been looked at. -/
structure DelAt (q : Adr → Bool) (xs ys : List Adr) (i j : Nat) : Prop where
  len : ys.length = xs.length
  lt : i < j
  le : j ≤ xs.length
  kept : ys.take i = keepF q (xs.take j)
  rest : ys.drop j = xs.drop j
theorem DelAt.skip {q : Adr → Bool} {xs ys : List Adr} {i j : Nat} (h : DelAt q xs ys i j) {a : Adr} (ha : xs[j]? = some a) (hq : q a = true) : DelAt q xs ys i (j + 1) := by
  have hj := (List.getElem?_eq_some_iff.1 ha).1
  refine ⟨h.len, by have := h.lt; omega, by omega, ?_, ?_⟩
  · rw [h.kept, List.take_add_one, ha]
    simp [keepF, hq]
  · have := congrArg (List.drop 1) h.rest
    rwa [List.drop_drop, List.drop_drop] at this
theorem DelAt.put {q : Adr → Bool} {xs ys : List Adr} {i j : Nat} (h : DelAt q xs ys i j) {a : Adr} (ha : xs[j]? = some a) (hq : q a = false) : DelAt q xs (ys.set i a) (i + 1) (j + 1) := by
  have hj := (List.getElem?_eq_some_iff.1 ha).1
  have hi := h.lt
  have hl := h.len
  refine ⟨by rw [List.length_set]; exact h.len, by omega, by omega, ?_, ?_⟩
  · rw [List.take_add_one, List.getElem?_set_self (by omega), List.take_set, List.set_eq_of_length_le (by simp; omega), h.kept, List.take_add_one, ha]
    simp [keepF, hq]
  · rw [List.drop_set_of_lt (by omega)]
    have := congrArg (List.drop 1) h.rest
    rwa [List.drop_drop, List.drop_drop] at this
theorem DelAt.start {q : Adr → Bool} {xs : List Adr} {i : Nat} {a : Adr} (ha : xs[i]? = some a) (hq : q a = true) (hp : ∀ j b, j < i → xs[j]? = some b → q b = false) : DelAt q xs xs i (i + 1) := by
  have hi := (List.getElem?_eq_some_iff.1 ha).1
  refine ⟨rfl, by omega, by omega, ?_, rfl⟩
  rw [List.take_add_one, ha]
  have := keepF_pre hp
  unfold keepF at this ⊢
  rw [List.filter_append, this]
  simp [hq]
theorem DelAt.at {q : Adr → Bool} {xs ys : List Adr} {i j : Nat} (h : DelAt q xs ys i j) {a : Adr} (ha : xs[j]? = some a) : ys[j]? = some a := by
  have := congrArg (fun l => l[0]?) h.rest
  simp only [List.getElem?_drop, Nat.add_zero] at this
  rw [this, ha]
theorem ARow.set_other {w : World} {g cap k : Nat} {ys : List Adr} {b : Adr} {x : Value} (h : ARow w g cap ys) (hb : ys[k]? = some b) : (w.setCell ⟨g, k * 2, none⟩ x).cell? ⟨g, k * 2 + 1, none⟩ = some (.int .i64 b.2) := by
  have hc := (h.cell hb).2.1
  obtain ⟨cur, hh, hs, ht⟩ := h.ex
  rw [bcell hh] at hc
  rw [bcell (bset hh _ _), Array.getElem?_setIfInBounds_ne (by omega)]
  exact hc
theorem ARow.set_frozen {w : World} {g cap k : Nat} {ys : List Adr} {x : Value} (h : ARow w g cap ys) : (w.setCell ⟨g, k * 2, none⟩ x).frozen? ⟨g, k * 2 + 1, none⟩ = false := by
  obtain ⟨cur, hh, hs, ht⟩ := h.ex
  exact bfrozen (bset hh _ _) _
section
variable {N0 : Nat} {ok : Nat → Prop} {w : World} {v : Value} {xs : List Adr}
set_option maxHeartbeats 2000000 in
set_option maxRecDepth 100000 in
theorem DeleteFunc_any (h : kAddr.R TA w N0 ok v xs) (hl : xs.length < 1000000) {f : FuncId} {caps : Array Value} (hf : CloFn f) (I : World → Prop) (hI : ∀ W W', I W → Upd (fun k => some k = v.ownBlock) W W' → I W') (q : Adr → Bool)
    (hq : ∀ W a, I W → a ∈ xs → Calls Try.prog f (#[.agg #[.int .i64 a.1, .int .i64 a.2]] ++ caps) W fun e W' => e = .returned (.bool (q a)) ∧ Below W.heap.size W W') (h0 : I w) :
    Calls Try.prog 72 #[v, .func (.func f) #[] caps] w fun e w' => ∃ v', e = .returned v' ∧ kAddr.R TA w' N0 ok v' (keepF q xs) ∧ Upd (fun k => some k = v.ownBlock) w w' := by
  have hIB : ∀ W W', I W → Below W.heap.size W W' → I W' := fun W W' h1 h2 => hI W W' h1 (Upd.ofBelow h2 _)
  have hcall := IndexFunc_any h hl hf I hIB q hq h0
  rcases idxI_spec q xs with ⟨e1, e2⟩ | ⟨i, a0, e1, e2, e3, e4⟩
  · rw [e1] at hcall
    obtain ⟨A, c, rfl⟩ := Kd.R_slice h
    have HR := Aside0.mk h
    have HC := Aside0.mk hcall
    have hk : keepF q xs = xs := by
      have := keepF_pre (q := q) (xs := xs) (i := xs.length) (fun j b _ hb => e2 b (List.mem_of_getElem? hb))
      rwa [List.take_length] at this
    have HK := Lib.hid hk
    clear h hcall e1 e2 hk hq hI hIB h0
    go_enter Try.func72, Try.ntmps72
    go_wp2_with (go_at_call 89; (with_reducible refine HC.out.mono ?_); rintro e w1 ⟨rfl, hb⟩; have HB := Aside0.mk hb; clear hb)
    go_ret
    exact ⟨_, rfl, by rw [HK.out]; exact Kd.R_below HR.out HB.out, Upd.ofBelow HB.out _⟩
  · rw [e1] at hcall
    have hv : v ≠ .slice none 0 0 := by
      rintro rfl
      obtain ⟨A, c, he⟩ := Kd.R_slice h
      injection he with _ h2 _
      have := (List.getElem?_eq_some_iff.1 e2).1
      omega
    obtain ⟨g, cap, rfl, hg, ho, hr⟩ := ARow.of_R h hv
    have hs0 := DelAt.start e2 e3 e4
    obtain ⟨n, hn⟩ : ∃ n, n = xs.length := ⟨_, rfl⟩
    have HR := Aside0.mk hr
    have HN := Lib.hid hn
    have HS := Aside0.mk hs0
    have HC := Aside0.mk hcall
    have HQ := Lib.hid hq
    have HI := Lib.hid hI
    have HI0 := Lib.hid h0
    have hM : n < 1000000 := by omega
    have hi2 : i < n := by have := hs0.lt; have := hs0.le; omega
    have hcap : n ≤ cap := by have := hr.le; omega
    rw [← hn]
    rw [← hn] at HC HI
    clear h hcall e1 e2 e3 e4 hq hI hIB h0 hs0 hr hn hv hl
    go_enter Try.func72, Try.ntmps72
    have j0 : (0 : Int) ≤ (i : Int) := by omega
    have j1 : (i : Int) < (n : Int) := by omega
    have j2 : (n : Int) < 1000000 := by omega
    have j3 : ((i : Int) == -1) = false := by simp
    go_wp2_with (go_at_call 89; (with_reducible refine HC.out.mono ?_); rintro e w1 ⟨rfl, hb⟩; have HB := Aside0.mk hb; clear hb)
    clear j0 j1 j3
    have hB1 := HB.out
    go_loopw [5, 6] (fun v5 v6 wr => ∃ (k1 k2 : Nat) (ys : List Adr), v5 = .int .i64 (k1 : Int) ∧ v6 = .int .i64 (k2 : Int) ∧ DelAt q xs ys k1 k2 ∧ ARow wr g cap ys ∧ Upd (fun k => some k = (Value.slice (some ⟨g, 0, none⟩) n cap).ownBlock) w wr) (fun _ v6 _ => n - (intOf v6).toNat)
    case atStart => exact ⟨i, i + 1, xs, rfl, by go_num, HS.out, HR.out.step (hB1.block g HR.out.lt), Upd.ofBelow hB1 _⟩
    case round =>
      obtain ⟨k1, k2, ys, rfl, rfl, hd, hrow, hup⟩ := hrel
      have HD := Aside0.mk hd
      have HW := Aside0.mk hrow
      have HU := Aside0.mk hup
      have m1 := hd.lt
      have m2 : k2 ≤ n := by have := hd.le; have := HN.out; omega
      have m3 : (0 : Int) ≤ (k1 : Int) := by omega
      have m4 : (k1 : Int) < (k2 : Int) := by omega
      have m5 : (k2 : Int) ≤ (n : Int) := by omega
      clear hd hrow hup hB1
      by_cases hlt : k2 < n
      · obtain ⟨a, ha⟩ : ∃ a, xs[k2]? = some a := ⟨_, List.getElem?_eq_getElem (by have := HN.out; omega)⟩
        have hcl := HW.out.cell (HD.out.at ha)
        have c1 := hcl.1
        have c2 := hcl.2.1
        have HA := Lib.hid ha
        have m6 : (k2 : Int) < (n : Int) := by omega
        clear hcl ha
        obtain ⟨b, hb⟩ : ∃ b, ys[k1]? = some b := ⟨_, List.getElem?_eq_getElem (by have := HN.out; have := HD.out.len; omega)⟩
        have HBB := Lib.hid hb
        have hIr : I (wr.alloc (.cells #[.int .i64 a.1, .int .i64 a.2] TA)) := HI.out _ _ HI0.out (HU.out.trans (Upd.alloc _ wr _) (fun _ h _ => h))
        have HIR := Lib.hid hIr
        have glt : g < wr.heap.size := HW.out.lt
        clear hb hIr
        cases hqa : q a with
        | true =>
          have HQA := Lib.hid hqa
          clear hqa
          go_wp2_with ((with_reducible refine gate_dst (N := 28) rfl ?_); (refine closL (some 28) rfl rfl 26 hf #[.agg #[.int .i64 a.1, .int .i64 a.2]] rfl rfl (by simp only [List.map_toArray, List.map_cons, List.map_nil]; rfl) ?_; refine (HQ.out _ a HIR.out (List.mem_of_getElem? HA.out)).mono ?_; rw [HQA.out]; rintro e w1 ⟨rfl, hb1⟩; refine ⟨_, rfl, ?_⟩; have hb2 := below_then (below_alloc (Below.refl _ _) _) (by simp) hb1; have HB2 : Aside0 (Below wr.heap.size wr w1) := Aside0.mk hb2; have hbx : w1.heap[wr.heap.size]? = some (.cells #[.int .i64 a.1, .int .i64 a.2] TA (0, 0)) := (hb1.block _ (by simp)).trans (blk_new wr _); have d1 : w1.cell? ⟨wr.heap.size, 0, none⟩ = some (.int .i64 a.1) := bcell hbx 0; have d2 : w1.cell? ⟨wr.heap.size, 1, none⟩ = some (.int .i64 a.2) := bcell hbx 1; have hrw := HW.out.step (hb2.block g glt); have hce := hrw.cell HBB.out; have e1 := hce.1; have e2 := hce.2.1; have e3 := hce.2.2.1; have e4 := hce.2.2.2; have HRW := Aside0.mk hrw; clear hb1 hb2 hbx hrw hce))
          refine ⟨⟨k1, k2 + 1, ys, rfl, by go_num, HD.out.skip HA.out HQA.out, HRW.out, HU.out.trans (Upd.ofBelow HB2.out _) (fun _ h _ => h)⟩, by simp [intOf]; omega⟩
        | false =>
          have HQA := Lib.hid hqa
          clear hqa
          go_wp2_with ((with_reducible refine gate_dst (N := 28) rfl ?_); (refine closL (some 28) rfl rfl 26 hf #[.agg #[.int .i64 a.1, .int .i64 a.2]] rfl rfl (by simp only [List.map_toArray, List.map_cons, List.map_nil]; rfl) ?_; refine (HQ.out _ a HIR.out (List.mem_of_getElem? HA.out)).mono ?_; rw [HQA.out]; rintro e w1 ⟨rfl, hb1⟩; refine ⟨_, rfl, ?_⟩; have hb2 := below_then (below_alloc (Below.refl _ _) _) (by simp) hb1; have HB2 : Aside0 (Below wr.heap.size wr w1) := Aside0.mk hb2; have hbx : w1.heap[wr.heap.size]? = some (.cells #[.int .i64 a.1, .int .i64 a.2] TA (0, 0)) := (hb1.block _ (by simp)).trans (blk_new wr _); have d1 : w1.cell? ⟨wr.heap.size, 0, none⟩ = some (.int .i64 a.1) := bcell hbx 0; have d2 : w1.cell? ⟨wr.heap.size, 1, none⟩ = some (.int .i64 a.2) := bcell hbx 1; have hrw := HW.out.step (hb2.block g glt); have hce := hrw.cell HBB.out; have e1 := hce.1; have e2 := hce.2.1; have e3 := hce.2.2.1; have e4 := hce.2.2.2; have s2 : (w1.setCell ⟨g, k1 * 2, none⟩ (.int .i64 a.1)).cell? ⟨g, k1 * 2 + 1, none⟩ = some (.int .i64 b.2) := ARow.set_other hrw HBB.out; have s3 : (w1.setCell ⟨g, k1 * 2, none⟩ (.int .i64 a.1)).frozen? ⟨g, k1 * 2 + 1, none⟩ = false := ARow.set_frozen hrw; have HRW := Aside0.mk hrw; clear hb1 hb2 hbx hrw hce))
          refine ⟨⟨k1 + 1, k2 + 1, ys.set k1 a, by go_num, by go_num, HD.out.put HA.out HQA.out, HRW.out.set k1 a (by have := HN.out; have := HD.out.len; omega), ?_⟩, by simp [intOf]; omega⟩
          exact ((HU.out.trans (Upd.ofBelow HB2.out _) (fun _ h _ => h)).trans (Upd.setCell w1 (p := ⟨g, k1 * 2, none⟩) (S := fun k => some k = (Value.slice (some ⟨g, 0, none⟩) n cap).ownBlock) rfl _) (fun _ h _ => h)).trans (Upd.setCell _ (p := ⟨g, k1 * 2 + 1, none⟩) (S := fun k => some k = (Value.slice (some ⟨g, 0, none⟩) n cap).ownBlock) rfl _) (fun _ h _ => h)
      · obtain rfl : k2 = n := by omega
        obtain ⟨w2, hrc, hr2, hu2⟩ := run_clear_row HW.out k1 (k2 - k1) (cap - k1) 0 (by omega) (by omega)
        have hne : ¬ (cap = k1) := by omega
        have m7 : (k2 : Int) ≤ (cap : Int) := by omega
        have HR2 := Lib.hid hr2
        have HU2 := Aside0.mk hu2
        clear hr2 hu2
        go_wp2
        go_ret
        have hkeep : ys.take k1 = keepF q xs := by
          rw [HD.out.kept, HN.out, List.take_length]
        have hle : k1 ≤ ys.length := by have := HD.out.len; have := HN.out; omega
        have h1 := (HR2.out k1 (Nat.le_refl _) hle).to_R (N0 := N0) (ok := ok) hg ho
        rw [hkeep] at h1
        have hlen : (keepF q xs).length = k1 := by rw [← hkeep, List.length_take]; omega
        rw [hlen] at h1
        exact ⟨_, rfl, h1, HU.out.trans HU2.out (fun k hk _ => by rw [hk]; rfl)⟩
end
end Go.Proofs.Ytkmanjfmffdcbaa.Fl
