/- Rows of addresses: cloned, searched, deleted from: walked. No condition. -/
import Derived.Test.YtkmanjfmffdcbaaFlFn2
namespace Go.Proofs.Ytkmanjfmffdcbaa.Fl
open Go.RowKit Go.Proofs.YtkmanjfmffdcbaaW.PrintWords Go.Proofs.YtkmanjfmffdcbaaW.PrintMore Go.Maps
set_option linter.unusedSimpArgs false
set_option linter.unusedVariables false
def flat : List Adr → List Value
  | [] => []
  | a :: l => .int .i64 a.1 :: .int .i64 a.2 :: flat l
theorem flat_length : ∀ l, (flat l).length = l.length * 2
  | [] => rfl
  | a :: l => by simp only [flat, List.length_cons, flat_length l]; omega
theorem flat_append : ∀ a b, flat (a ++ b) = flat a ++ flat b
  | [], b => rfl
  | x :: a, b => by simp only [flat, List.cons_append, flat_append a b]
theorem flat_one : ∀ l, ∀ u ∈ flat l, u.oneCell' = true
  | [], u, h => by cases h
  | a :: l, u, h => by
    simp only [flat, List.mem_cons] at h
    rcases h with rfl | rfl | h
    · rfl
    · rfl
    · exact flat_one l u h
theorem flat_at : ∀ (l : List Adr) (i : Nat) (a : Adr), l[i]? = some a → (flat l)[i * 2]? = some (.int .i64 a.1) ∧ (flat l)[i * 2 + 1]? = some (.int .i64 a.2)
  | [], i, a, h => by simp at h
  | b :: l, 0, a, h => by
    simp at h
    subst h
    exact ⟨rfl, rfl⟩
  | b :: l, i + 1, a, h => by
    rw [List.getElem?_cons_succ] at h
    have := flat_at l i a h
    rw [show (i + 1) * 2 = i * 2 + 1 + 1 by omega, show i * 2 + 1 + 1 + 1 = (i * 2 + 1) + 1 + 1 by omega]
    simp only [flat, List.getElem?_cons_succ]
    exact this
theorem flat_set : ∀ (l : List Adr) (i : Nat) (a : Adr), ((flat l).set (i * 2) (.int .i64 a.1)).set (i * 2 + 1) (.int .i64 a.2) = flat (l.set i a)
  | [], i, a => rfl
  | b :: l, 0, a => rfl
  | b :: l, i + 1, a => by
    rw [show (i + 1) * 2 = i * 2 + 1 + 1 by omega, show i * 2 + 1 + 1 + 1 = (i * 2 + 1) + 1 + 1 by omega]
    simp only [flat, List.set_cons_succ, flat_set l i a]
theorem flat_take : ∀ (l : List Adr) (n : Nat), flat (l.take n) = (flat l).take (n * 2)
  | [], n => by simp [flat]
  | a :: l, 0 => rfl
  | a :: l, n + 1 => by
    rw [show (n + 1) * 2 = n * 2 + 1 + 1 by omega]
    simp only [List.take_succ_cons, flat, flat_take l n]
section
variable {N0 : Nat} {ok : Nat → Prop} {w : World} {v : Value} {xs : List Adr}
theorem reps_flat : ∀ {xs : List Adr} {inner : List Value} {w : World} {base : Nat} {ok : Nat → Prop}, Reps (kAddr.M w base ok) 2 xs inner → inner = flat xs := by
  intro xs inner w base ok h
  have hl : inner.length = xs.length * 2 := h.1
  apply List.ext_getElem?
  intro j
  rcases Nat.lt_or_ge j inner.length with hj | hj
  · have hi : j / 2 < xs.length := by omega
    obtain ⟨c0, c1, hc, h0, h1⟩ := h.2 (j / 2) _ (List.getElem?_eq_getElem hi)
    have h0' : c0 = [.int .i64 xs[j / 2].1] := h0
    have h1' : c1 = [.int .i64 xs[j / 2].2] := h1
    subst h0' h1'
    have hf := flat_at xs (j / 2) _ (List.getElem?_eq_getElem hi)
    have e : ∀ i, i < 2 → inner[j / 2 * 2 + i]? = ([Value.int .i64 xs[j / 2].1] ++ [Value.int .i64 xs[j / 2].2])[i]? := fun i hi2 => by
      rw [← hc, List.getElem?_take, if_pos hi2, List.getElem?_drop]
    rcases Nat.mod_two_eq_zero_or_one j with hm | hm
    · have hj2 : j = j / 2 * 2 := by omega
      have := e 0 (by omega)
      rw [Nat.add_zero, ← hj2] at this
      rw [this]
      have h3 := hf.1
      rw [← hj2] at h3
      rw [h3]
      rfl
    · have hj2 : j = j / 2 * 2 + 1 := by omega
      have := e 1 (by omega)
      rw [← hj2] at this
      rw [this]
      have h3 := hf.2
      rw [← hj2] at h3
      rw [h3]
      rfl
  · rw [List.getElem?_eq_none hj, List.getElem?_eq_none (by rw [flat_length]; omega)]
theorem flat_reps (w : World) (base : Nat) (ok : Nat → Prop) (xs : List Adr) : Reps (kAddr.M w base ok) 2 xs (flat xs) := by
  refine ⟨flat_length xs, fun j p hj => ?_⟩
  have := flat_at xs j p hj
  have e : ((flat xs).drop (j * 2)).take 2 = [.int .i64 p.1, .int .i64 p.2] := by
    apply List.ext_getElem?
    intro i
    rw [List.getElem?_take]
    split
    · rename_i h2
      rw [List.getElem?_drop]
      have : i = 0 ∨ i = 1 := by omega
      rcases this with rfl | rfl
      · simpa using this.1
      · simpa using this.2
    · rw [List.getElem?_eq_none (by simp; omega)]
  rw [e]
  exact kAddr_mk w base ok p.1 p.2
theorem R_flat (h : kAddr.R TA w N0 ok v xs) : (∀ k, v.ownBlock = some k → ok k) ∧ w.ownsRow N0 TA 2 v xs.length (flat xs) := by
  obtain ⟨h0, inner, ho, hr⟩ := h
  obtain rfl := reps_flat hr
  exact ⟨h0, ho⟩
theorem flat_R (h0 : ∀ k, v.ownBlock = some k → ok k) (ho : w.ownsRow N0 TA 2 v xs.length (flat xs)) : kAddr.R TA w N0 ok v xs := ⟨h0, flat xs, ho, flat_reps _ _ _ _⟩
/-- A row of addresses, its block told. -/
structure ARow (w : World) (g cap : Nat) (xs : List Adr) : Prop where mk' ::
  ex : ∃ cur : Array Value, w.heap[g]? = some (.cells cur TA (0, 0)) ∧ cur.size = cap * 2 ∧ cur.toList.take (xs.length * 2) = flat xs
  le : xs.length ≤ cap
  mx : cap ≤ 9223372036854775807
theorem ARow.of_R (h : kAddr.R TA w N0 ok v xs) (hv : v ≠ .slice none 0 0) : ∃ g cap, v = .slice (some ⟨g, 0, none⟩) xs.length cap ∧ N0 ≤ g ∧ ok g ∧ ARow w g cap xs := by
  obtain ⟨h0, ho⟩ := R_flat h
  rcases ho.2 with ⟨e, _⟩ | ⟨g, cap, cur, rfl, hg, hh, hle, hm, hs, ht⟩
  · exact absurd e hv
  · exact ⟨g, cap, rfl, hg, h0 g (by simp [Value.ownBlock]), ⟨cur, hh, hs, ht⟩, hle, hm⟩
theorem ARow.to_R {g cap : Nat} (h : ARow w g cap xs) (hg : N0 ≤ g) (ho : ok g) : kAddr.R TA w N0 ok (.slice (some ⟨g, 0, none⟩) xs.length cap) xs := by
  obtain ⟨cur, hh, hs, ht⟩ := h.ex
  refine flat_R (fun k hk => ?_) ⟨flat_length xs, .inr ⟨g, cap, cur, rfl, hg, hh, h.le, h.mx, hs, ht⟩⟩
  have : g = k := by simpa [Value.ownBlock] using hk
  exact this ▸ ho
theorem ARow.step {g cap : Nat} {w' : World} (h : ARow w g cap xs) (hg : w'.heap[g]? = w.heap[g]?) : ARow w' g cap xs := by
  obtain ⟨cur, hh, hs, ht⟩ := h.ex
  exact ⟨⟨cur, hg.trans hh, hs, ht⟩, h.le, h.mx⟩
theorem ARow.lt {g cap : Nat} (h : ARow w g cap xs) : g < w.heap.size := by
  obtain ⟨cur, hh, _⟩ := h.ex
  exact blt hh
theorem ARow.cell {g cap : Nat} (h : ARow w g cap xs) {i : Nat} {a : Adr} (hi : xs[i]? = some a) : w.cell? ⟨g, i * 2, none⟩ = some (.int .i64 a.1) ∧ w.cell? ⟨g, i * 2 + 1, none⟩ = some (.int .i64 a.2) ∧ w.frozen? ⟨g, i * 2, none⟩ = false ∧ w.frozen? ⟨g, i * 2 + 1, none⟩ = false := by
  obtain ⟨cur, hh, hs, ht⟩ := h.ex
  have hl := (List.getElem?_eq_some_iff.1 hi).1
  have hf := flat_at xs i a hi
  rw [← ht, List.getElem?_take, List.getElem?_take, if_pos (by omega), if_pos (by omega)] at hf
  refine ⟨?_, ?_, bfrozen hh _, bfrozen hh _⟩
  · rw [bcell hh]; simpa using hf.1
  · rw [bcell hh]; simpa using hf.2
theorem ARow.set {g cap : Nat} (h : ARow w g cap xs) (i : Nat) (a : Adr) (hi : i < xs.length) : ARow ((w.setCell ⟨g, i * 2, none⟩ (.int .i64 a.1)).setCell ⟨g, i * 2 + 1, none⟩ (.int .i64 a.2)) g cap (xs.set i a) := by
  obtain ⟨cur, hh, hs, ht⟩ := h.ex
  refine ⟨⟨_, bset (bset hh _ _) _ _, by simp [hs], ?_⟩, by simpa using h.le, h.mx⟩
  rw [List.length_set, ← flat_set, ← ht]
  simp only [Array.toList_setIfInBounds]
  rw [List.take_set, List.take_set]
theorem ARow.take {g cap : Nat} (h : ARow w g cap xs) (n : Nat) (hn : n ≤ xs.length) : ARow w g cap (xs.take n) := by
  obtain ⟨cur, hh, hs, ht⟩ := h.ex
  refine ⟨⟨cur, hh, hs, ?_⟩, by have := h.le; simp; omega, h.mx⟩
  rw [flat_take, ← ht, List.take_take, List.length_take]
  congr 1
  omega
set_option maxHeartbeats 1000000 in
set_option maxRecDepth 100000 in
theorem Clone_any (h : kAddr.R TA w N0 ok v xs) (hl : xs.length < 1000000) : Calls Try.prog 73 #[v] w fun e w' => ∃ v', e = .returned v' ∧ kAddr.R TA w' w.heap.size (fun k => w.heap.size ≤ k) v' xs ∧ (v' = .slice none 0 0 → xs = []) ∧ Below w.heap.size w w' := by
  have en := fun (w : World) (a : Option Addr) (n c : Nat) => Lib.run_eql_slice_nil (P := Try.prog) w 83 TA a n c 0 0 Try.underlying83
  by_cases hv : v = .slice none 0 0
  · subst hv
    have hx : xs = [] := by
      obtain ⟨A, c, he⟩ := Kd.R_slice h
      injection he with _ h2 _
      exact List.eq_nil_of_length_eq_zero h2.symm
    clear h
    go_enter Try.func73, Try.ntmps73
    go_wp2
    go_ret
    exact ⟨_, rfl, by rw [hx]; exact Kd.R_nil _ _ _ _ _, fun _ => hx, Below.refl _ _⟩
  · obtain ⟨g, cap, rfl, hg, ho, hr⟩ := ARow.of_R h hv
    obtain ⟨n, hn⟩ : ∃ n, n = xs.length := ⟨_, rfl⟩
    have HR := Aside0.mk hr
    have HN := Lib.hid hn
    have HB := Aside0.mk (below_alloc (Below.refl w.heap.size w) (.cells #[] TA (0, 0)))
    have HC : Hid (∀ W : World, Below w.heap.size w W → ∀ j u, (flat xs)[j]? = some u → W.cell? ((⟨g, 0, none⟩ : Addr).add j) = some u) := Lib.hid (fun W hW j u hj => by
      rw [Addr.add_lit, Nat.zero_add]
      obtain ⟨cur, hh, hs, ht⟩ := hr.ex
      have hl2 := (List.getElem?_eq_some_iff.1 hj).1
      rw [flat_length] at hl2
      rw [← ht, List.getElem?_take, if_pos hl2] at hj
      rw [bcell ((hW.block g (blt hh)).trans hh)]
      simpa using hj)
    obtain ⟨i0, hi, hz0, hz1, hz2⟩ := info_parts info_addr
    rw [← hn]
    clear h hr hn
    go_enter Try.func73, Try.ntmps73
    have HO : Hid ((w.alloc (.cells #[] TA)).ownsRow w.heap.size TA 2 (.slice (some ⟨w.heap.size, 0, none⟩) 0 0) 0 []) := Lib.hid ⟨rfl, .inr ⟨w.heap.size, 0, #[], rfl, Nat.le_refl _, blk_new w _, Nat.le_refl _, Nat.zero_le _, rfl, rfl⟩⟩
    have HFL : Hid ((flat xs).length = n * 2) := Lib.hid (by rw [flat_length, HN.out])
    have HM : Hid (n < 1000000) := Lib.hid (by rw [HN.out]; exact hl)
    clear hl
    go_wp2_with (at_builtin; refine wpList_append_own _ rfl (.tmp 5) (.tmp 6) 83 rfl w.heap.size TA i0 _ 2 16 Try.underlying83 hi hz0 hz1 hz2 rfl (by decide) _ 0 [] rfl HO.out ⟨g, 0, none⟩ n cap (flat xs) rfl HFL.out (HC.out _ HB.out) (flat_one xs) (by have := HM.out; simp only [maxLen]; omega) (by have := HM.out; omega) (by simp) ?_; intro v' w' ho' hg' hn'; have HO' := Aside0.mk ho'; have HG' := Aside0.mk hg'; have HN' := Lib.hid hn'; clear ho' hg' hn')
    go_ret
    refine ⟨v', rfl, ?_, fun e => absurd (HN'.out.1 e).1 (fun h => by injection h with h; cases h), ?_⟩
    · have h1 := HO'.out
      rw [Nat.zero_add, List.nil_append, HN.out] at h1
      exact flat_R (fun k hk => own_base h1 k hk) h1
    · have h2 : Below w.heap.size w w' := HB.out.grown HG'.out (by simp) (fun k hk => Nat.le_of_eq (Option.some.inj hk))
      exact h2
end
/-! ### A function's value, called -/
structure CloFn (f : FuncId) : Prop where
  ex : ∃ fn, Try.prog.funcs[f]? = some fn ∧ (fn.name == "runtime.NumGoroutine") = false ∧ fn.body.isSome = true
theorem closL {ops : Array Oper} {Q : Exit → Act → World → Prop} {rest : List Oper} {oi : Oper} {a : Act} {w : World} (N : Option Tmp) (hd : oi.dst = N) (hg : oi.guard = none) (t : Tmp) {f : FuncId} {caps : Array Value} {as_ : Array Operand} {ts : Array TypeId} (hf : CloFn f) (args : Array Value)
    (hop : oi.op = .call { callee := .value (.tmp t), args := as_, argTypes := ts }) (ht : a.eval (.tmp t) = .func (.func f) #[] caps) (hargs : as_.map a.eval = args)
    (h : Calls Try.prog f (args ++ caps) w fun e w' => ∃ v, e = .returned v ∧ wpList Try.prog ops Q rest (a.put N v) w') : wpList Try.prog ops Q (oi :: rest) a w := by
  obtain ⟨fn, hf, hname, hb⟩ := hf
  refine wpList_plain hg fun K hK => ?_
  have he := Go.Proofs.YtkmanjfmffdcbaaW.PrintLast.enters_ hf hname hb (args ++ caps) w
  have hrun : (execOp a.eval oi).run Try.prog w = .ok (.enter f (args ++ caps)) w := by
    unfold execOp
    simp [hop, resolve, Deferred.ofValue, invoke, ht, hargs, he]
  unfold Oper.wp
  rw [hrun, Oper.upon_enter]
  refine h.mono fun e w'' hh => ?_
  obtain ⟨v, rfl, hk⟩ := hh
  rw [hd]
  exact hK _ _ hk
/-- The first one of whom it holds. -/
def idxOf {α : Type} (q : α → Bool) : List α → Option Nat
  | [] => none
  | a :: l => if q a then some 0 else (idxOf q l).map (· + 1)
def idxI {α : Type} (q : α → Bool) (l : List α) : Int := match idxOf q l with | some i => (i : Int) | none => -1
theorem idxOf_none {α : Type} {q : α → Bool} : ∀ {l : List α}, (∀ a ∈ l, q a = false) → idxOf q l = none
  | [], _ => rfl
  | a :: l, h => by
    unfold idxOf
    rw [if_neg (by rw [h a (by simp)]; decide), idxOf_none (fun x hx => h x (by simp [hx]))]
    rfl
theorem idxOf_some {α : Type} {q : α → Bool} : ∀ {l : List α} {i : Nat} {a : α}, l[i]? = some a → q a = true → (∀ j b, j < i → l[j]? = some b → q b = false) → idxOf q l = some i
  | [], i, a, h, _, _ => by simp at h
  | b :: l, 0, a, h, hq, _ => by
    simp at h
    subst h
    unfold idxOf
    rw [if_pos hq]
  | b :: l, i + 1, a, h, hq, hn => by
    rw [List.getElem?_cons_succ] at h
    unfold idxOf
    rw [if_neg (by rw [hn 0 b (by omega) rfl]; decide), idxOf_some h hq (fun j c hj hc => hn (j + 1) c (by omega) (by rw [List.getElem?_cons_succ]; exact hc))]
    rfl
section
variable {N0 : Nat} {ok : Nat → Prop} {w : World} {v : Value} {xs : List Adr}
set_option maxHeartbeats 1000000 in
set_option maxRecDepth 100000 in
theorem IndexFunc_any (h : kAddr.R TA w N0 ok v xs) (hl : xs.length < 1000000) {f : FuncId} {caps : Array Value} (hf : CloFn f) (I : World → Prop) (hI : ∀ W W', I W → Below W.heap.size W W' → I W') (q : Adr → Bool)
    (hq : ∀ W a, I W → a ∈ xs → Calls Try.prog f (#[.agg #[.int .i64 a.1, .int .i64 a.2]] ++ caps) W fun e W' => e = .returned (.bool (q a)) ∧ Below W.heap.size W W') (h0 : I w) :
    Calls Try.prog 89 #[v, .func (.func f) #[] caps] w fun e w' => e = .returned (.int .i64 (idxI q xs)) ∧ Below w.heap.size w w' := by
  by_cases hv : v = .slice none 0 0
  · subst hv
    have hx : xs = [] := by
      obtain ⟨A, c, he⟩ := Kd.R_slice h
      injection he with _ h2 _
      exact List.eq_nil_of_length_eq_zero h2.symm
    clear h hq
    have HX := Lib.hid hx
    clear hx
    go_enter Try.func89, Try.ntmps89
    go_wp2
    go_loop [8] (fun v8 => v8 = .int .i64 0) (fun _ => 0)
    case atStart => rfl
    case round =>
      subst hrel
      go_wp2
      go_ret
      exact ⟨by rw [HX.out]; rfl, Below.refl _ _⟩
  · obtain ⟨g, cap, rfl, hg, ho, hr⟩ := ARow.of_R h hv
    obtain ⟨n, hn⟩ : ∃ n, n = xs.length := ⟨_, rfl⟩
    have HR := Aside0.mk hr
    have HN := Lib.hid hn
    have HQ := Lib.hid hq
    have HI := Lib.hid hI
    have HI0 := Lib.hid h0
    have hM : n < 1000000 := by omega
    rw [← hn]
    clear h hr hn hl hq hI h0
    go_enter Try.func89, Try.ntmps89
    go_wp2
    go_loopw [8] (fun v8 wr => ∃ k : Nat, k ≤ n ∧ v8 = .int .i64 (k : Int) ∧ Below w.heap.size w wr ∧ ∀ j b, j < k → xs[j]? = some b → q b = false) (fun v8 _ => n - (intOf v8).toNat)
    case atStart => exact ⟨0, Nat.zero_le _, rfl, Below.refl _ _, fun j b hj => by omega⟩
    case round =>
      obtain ⟨k, hk, rfl, hb, hpre⟩ := hrel
      have HB := Aside0.mk hb
      have HPRE := Lib.hid hpre
      clear hb hpre
      by_cases hlt : k < n
      · obtain ⟨a, ha⟩ : ∃ a, xs[k]? = some a := ⟨_, List.getElem?_eq_getElem (by have := HN.out; omega)⟩
        have hc := (HR.out.step (HB.out.block g HR.out.lt)).cell ha
        have c1 := hc.1
        have c2 := hc.2.1
        have HA := Lib.hid ha
        have k0 : (0 : Int) ≤ (k : Int) := by omega
        have k1 : (k : Int) < (n : Int) := by omega
        clear hc ha
        go_wp2_with ((with_reducible refine gate_dst (N := 16) rfl ?_); (refine closL (some 16) rfl rfl 11 hf #[.agg #[.int .i64 a.1, .int .i64 a.2]] rfl rfl (by simp only [List.map_toArray, List.map_cons, List.map_nil]; rfl) ?_; refine (HQ.out _ a (HI.out _ _ HI0.out HB.out) (List.mem_of_getElem? HA.out)).mono ?_; rintro e w1 ⟨rfl, hb1⟩; refine ⟨_, rfl, ?_⟩; have HB1 := Aside0.mk (HB.out.trans (hb1.mono HB.out.size)); clear hb1))
        · have hqa : q a = true := by assumption
          go_ret
          have hi : idxI q xs = (k : Int) := by rw [idxI, idxOf_some HA.out hqa HPRE.out]
          exact ⟨by rw [hi]; rfl, HB1.out⟩
        · have hqa : q a = false := by assumption
          refine ⟨⟨k + 1, by omega, by go_num, HB1.out, fun j b hj hb => ?_⟩, by simp [intOf]; omega⟩
          rcases Nat.lt_or_ge j k with h2 | h2
          · exact HPRE.out j b h2 hb
          · obtain rfl : j = k := by omega
            rw [HA.out] at hb
            rw [← Option.some.inj hb]
            exact hqa
      · obtain rfl : k = n := by omega
        go_wp2
        go_ret
        have hi : idxI q xs = -1 := by
          rw [idxI, idxOf_none (fun a ha => ?_)]
          obtain ⟨j, hj, e⟩ := List.getElem_of_mem ha
          exact HPRE.out j a (by have := HN.out; omega) (by rw [← e, List.getElem?_eq_getElem hj])
        exact ⟨by rw [hi]; rfl, HB.out⟩
end
end Go.Proofs.Ytkmanjfmffdcbaa.Fl
