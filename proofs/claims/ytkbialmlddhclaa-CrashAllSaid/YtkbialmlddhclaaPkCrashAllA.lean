/- The parts of this proof, one after the other (wip/tools/packfl.py). -/
import Derived.RangeFuncNested
import Derived.RangeFuncBound
import Derived.RangeFuncCalls
import Derived.RangeFuncLeaves
import Derived.Shelf.Abstract
import Derived.Shelf.RegionOpen
import Derived.WalkKit
import Derived.OwnWalkIn
import Derived.TacticsInMore
import Derived.LoopNIn
import Derived.LoopIn
import Derived.IntWalk
import Derived.Lib.Hide
import Derived.Test.YtkbialmlddhclaaProg
import Derived.Laws.BitsLemmas
import Derived.Laws.Bits64b
import Derived.Deep.RegionHeld3
import Derived.Deep.DeepCutAuto
import Derived.Sort.QuietIn
import Derived.Sort.QuietTacIn
/- crash.All: all plans of some pages, in order, to whatever loop takes them: walked. No condition. -/
namespace Go.Proofs.Ytkbialmlddhclaa.Ca
open Go.RowKit Go.Shelf
attribute [local go_sem] Oper.semAt_some
set_option linter.unusedSimpArgs false
set_option linter.unusedVariables false
/-- How many pages are gone through. -/
def clamp (n : Int) : Nat := if n < 0 then 0 else if 10 < n then 10 else n.toNat
theorem clamp_le (n : Int) : clamp n ≤ 10 := by
  unfold clamp
  split
  · omega
  · split <;> omega
theorem pow_le {k : Nat} (h : k ≤ 10) : 2 ^ k ≤ 1024 := Nat.pow_le_pow_right (by decide) h
theorem range_prefix {k N : Nat} (h : k ≤ N) : List.range k <+: List.range N := by
  obtain ⟨m, rfl⟩ : ∃ m, N = k + m := ⟨N - k, by omega⟩
  rw [List.range_add]
  exact ⟨_, rfl⟩
theorem room_of_none {F : Fence} (hd : F.depth = none) (k : Nat) : F.room k := fun d h => by rw [hd] at h; cases h
theorem round_anyDepth {F : Fence} (hd : F.depth = none) {m m' : Nat} {P : Program} {l : Nat} {f : FuncId} {tmps : Array Value} {assign body : Code} {w : World} {R : Ending → World → Prop}
    (h : RoundIn F m P l f tmps assign body w R) : RoundIn F m' P l f tmps assign body w R := ⟨h.1, fun c cs _ => h.2 c cs (room_of_none hd _)⟩
theorem yield_anyDepth {F : Fence} (hd : F.depth = none) {m : Nat} (m' : Nat) {P : Program} {l : Nat} {args : Array Value} {W : World} {R : Ending → World → Prop} (h : YieldAt F m P l args W R) : YieldAt F m' P l args W R := by
  obtain ⟨fn, tmps, assign, body, hy, hR⟩ := h
  exact ⟨fn, tmps, assign, body, hy, round_anyDepth hd hR⟩
abbrev TI : TypeId := 3
/-- The plan by a number, none torn. -/
def encA (k : Nat) : Array Value := #[.agg #[.int .u64 (k : Int), .int .i64 (-1), .int .i64 0]]
set_option maxRecDepth 100000 in
set_option maxHeartbeats 1000000 in
theorem all1_in (F : Fence) (n : Nat) (h71 : F.fn 71) (hro : F.round = none) (hn : 1 ≤ n) (l Bn c : Nat) (hc : c ≤ 10) (J Jx : List Nat → World → Prop) (Kp : World → World → Prop)
    (hY : ∀ pre x W, J pre W → pre.length < 2 ^ c → YieldAt F (n - 1) Try.prog l (encA x) W fun e W' =>
      ((e = .returned (.bool true) ∧ J (pre ++ [x]) W') ∨ (e = .returned (.bool false) ∧ Jx (pre ++ [x]) W')) ∧ Kp W W')
    (W : World) (hBn : W.cell? ⟨Bn, 0, none⟩ = some (.int .i64 (c : Int))) (h0 : J [] W) :
    CallsIn F n Try.prog 71 #[.func (.yield l) #[] #[], .pointer (some ⟨Bn, 0, none⟩)] W fun e W' => (∃ v, e = .returned v) ∧
      ((∃ ys, ys = List.range (2 ^ c) ∧ J ys W') ∨ (∃ pre, pre <+: List.range (2 ^ c) ∧ Jx pre W')) := by
  have hp := pow_le hc
  refine callsIn_of_wp Try.func71 rfl h71 ?_ hro
  simp only [Try.ntmps71, List.size_toArray, List.length_cons, List.length_nil, Nat.reduceAdd, Nat.reduceSub, Array.replicate_succ, Array.replicate_zero, List.push_toArray, List.append_toArray, List.nil_append, List.cons_append]
  obtain ⟨N, hN⟩ : ∃ N, N = 2 ^ c := ⟨_, rfl⟩
  have hw : IntKind.u64.wrap (2 ^ c) = (N : Int) := by
    have e : ((2 : Int) ^ c) = ((2 ^ c : Nat) : Int) := by push_cast; rfl
    rw [e, ← hN]
    exact IntWalk.u64_in _ (by omega)
  rw [← hN] at hp hY ⊢
  have HN := Lib.hid hN
  have HY := Lib.hid hY
  clear hN hY
  gi_wp2
  clear hw
  gi_loopw [6] (fun v6 wr => ∃ k : Nat, k ≤ N ∧ v6 = .int .u64 (k : Int) ∧ J (List.range k) wr) (fun v6 _ => N - (intOf v6).toNat)
  case atStart => exact ⟨0, Nat.zero_le _, rfl, h0⟩
  case round =>
    obtain ⟨k, hk, rfl, hJ⟩ := hrel
    have k0 : (0 : Int) ≤ (k : Int) := by omega
    by_cases hlt : k < N
    · obtain ⟨fn, tmps, assign, body, hy, hR⟩ := HY.out (List.range k) k wr hJ (by simpa using hlt)
      unfold encA at hy
      have k1 : (k : Int) < (N : Int) := by omega
      gi_wp2
      refine hR.mono ?_
      rintro e W3 ⟨(⟨rfl, hJ3⟩ | ⟨rfl, hJx3⟩), -⟩
      · gi_wp2
        go_roundw
        case rel => exact ⟨k + 1, by omega, by go_num, by rw [List.range_succ]; exact hJ3⟩
        case measure => simp [intOf]; omega
      · gi_wp2
        refine bodyPost_ret (results_none rfl _ _ _) rfl ?_
        exact ⟨⟨_, rfl⟩, .inr ⟨List.range k ++ [k], by rw [← List.range_succ]; exact range_prefix (by omega), hJx3⟩⟩
    · obtain rfl : k = N := by omega
      gi_wp2
      go_end0
      exact ⟨⟨_, rfl⟩, .inl ⟨_, rfl, hJ⟩⟩
theorem all_in (F : Fence) (n : Nat) (h22 : F.fn 22) (hro : F.round = none) (m : Int) (w : World) :
    CallsIn F n Try.prog 22 #[.int .i64 m] w fun e w' => e = .returned (.func (.func 71) #[] #[.pointer (some ⟨w.heap.size, 0, none⟩)]) ∧ w' = w.alloc (.cells #[.int .i64 (clamp m : Int)] TI) := by
  refine callsIn_of_wp Try.func22 rfl h22 ?_ hro
  simp only [Try.ntmps22, List.size_toArray, List.length_cons, List.length_nil, Nat.reduceAdd, Nat.reduceSub, Array.replicate_succ, Array.replicate_zero, List.push_toArray, List.append_toArray, List.nil_append, List.cons_append]
  have hc1 : m < 0 → (clamp m : Int) = 0 := fun h => by unfold clamp; rw [if_pos h]; rfl
  have hc2 : 0 ≤ m → 10 < m → (clamp m : Int) = 10 := fun h h2 => by unfold clamp; rw [if_neg (by omega), if_pos h2]; rfl
  have hc3 : 0 ≤ m → m ≤ 10 → (clamp m : Int) = m := fun h h2 => by unfold clamp; rw [if_neg (by omega), if_neg (by omega)]; omega
  have HC1 := Lib.hid hc1
  have HC2 := Lib.hid hc2
  have HC3 := Lib.hid hc3
  clear hc1 hc2 hc3
  gi_wp2
  all_goals
    go_ret
    refine ⟨rfl, ?_⟩
    first | rw [HC1.out (by assumption)] | rw [HC2.out (by assumption) (by assumption)] | rw [HC3.out (by assumption) (by assumption)]
end Go.Proofs.Ytkbialmlddhclaa.Ca

/- A range over a function whose iterator may itself range over a function: the contract and the caller's law. No condition. -/
namespace Go.Proofs.Ytkbialmlddhclaa.Ca
open Go.RowKit Go.Shelf
set_option linter.unusedSimpArgs false
set_option linter.unusedVariables false
/-- What an iterator gives where the taker's word abides all that is laid, and all turns of what is no cells, from the call on; and what a round keeps, whichever way it goes. -/
def Gives {α : Type} (F : Fence) (n : Nat) (P : Program) (g : Nat) (lb : Array Value) (encs : α → Array Value) (Kp : Nat → World → World → Prop) (S Sp : List α → Prop) (N : Nat) (w : World) : Prop :=
  ∀ (l : Nat) (J Jx : List α → World → Prop) (W : World), Below w.heap.size w W → w.heap.size ≤ l → l < W.heap.size → OwnFrom W.heap.size J → OwnFrom W.heap.size Jx →
    (∀ pre x W1, J pre W1 → pre.length < N → YieldAt F (n - 1) P l (encs x) W1 fun e W' =>
      ((e = .returned (.bool true) ∧ J (pre ++ [x]) W') ∨ (e = .returned (.bool false) ∧ Jx (pre ++ [x]) W')) ∧ Kp l W1 W') →
    J [] W →
    CallsIn F n P g (#[.func (.yield l) #[] #[]] ++ lb) W fun e W' => (∃ v, e = .returned v) ∧ ((∃ xs, S xs ∧ J xs W') ∨ (∃ pre, Sp pre ∧ Jx pre W'))
/-- How a round's body may end. -/
def RoundEnd {α : Type} (B : Nat) (Kp : World → World → Prop) (I : List α → World → Prop) (Ix : Code → List α → World → Prop) (xs : List α) (W : World) : Exit → Act → World → Prop
  | .normal, _, W' => KeepsFrom B W W' ∧ Kp W W' ∧ I xs W'
  | .ret, _, W' => KeepsFrom B W W' ∧ Kp W W' ∧ Ix .ret xs W'
  | .exit id, _, W' => KeepsFrom B W W' ∧ Kp W W' ∧ Ix (.exit id) xs W'
  | .goto t, _, W' => KeepsFrom B W W' ∧ Kp W W' ∧ Ix (.goto t) xs W'
  | .panic _, _, _ => False
  | .outgrown, _, _ => False
theorem own_up {β : Type} {B B' : Nat} {I : β → World → Prop} (h : OwnFrom B I) (hb : B ≤ B') : OwnFrom B' I :=
  fun s W W' row hs hg hr => h s W W' row hs hg (fun r e => ⟨Nat.le_trans hb (hr r e).1, (hr r e).2⟩)
/-- A block that is told, below B, stays as it is. -/
theorem ownFrom_block {β : Type} {B k : Nat} (hk : k < B) (f : β → Option Obj) : OwnFrom B (fun s W => k < W.heap.size ∧ W.heap[k]? = f s) :=
  fun s W W' row hs hg hr => ⟨Nat.lt_of_lt_of_le hs.1 hg.size, (hg.block k hs.1 (fun e => by have := (hr k e.symm).1; omega)).trans hs.2⟩
section
variable {F : Fence} {n : Nat} {P : Program} {α : Type}
/-- A round's way: the loop's record is busy, the body is walked, the record is told how it ended. -/
theorem one_round {l D B : Nat} {fn : FuncId} {tmps : Array Value} {ps : Array Tmp} {assign body : Code} {x : α} {xs : List α} {encs : α → Array Value} {W : World} {Kp : World → World → Prop} {I : List α → World → Prop} {Ix : Code → List α → World → Prop} {Ax : Act → World → Prop} (hfn : F.fn fn) (hBl : B ≤ l) (hBD : B ≤ D) (hDl : D ≠ l)
    (hI : OwnFrom B I) (hIx : ∀ c, OwnFrom B (Ix c)) (hAx : OwnFrom B (fun (a' : Act) W => Ax a' W)) {pre : List α}
    (hKt : ∀ {A B C : World}, Kp A B → Kp B C → Kp A C) (hKb : ∀ (W : World) (r : Loop) (o' : Obj), W.heap[l]? = some (.loop r) → Kp W (W.putObj l o'))
    (hl : W.heap[l]? = some (.loop { state := .ready, pending := none, fn, tmps, params := ps, assign, body, defers := D })) (hk : W.heap[D]? = some (.deferred (some [])))
    (hps : (encs x).size = ps.size) (hi : I pre W)
    (hassign : ∀ (K : Act → World → Prop), (∀ a' W', KeepsFrom B W W' → Kp W W' → I pre W' → Ax a' W' → K a' W') →
      assign.wpIn (F.inRound l) n P (Exit.then K (fun _ _ _ => False)) { tmps := (ps.zip (encs x)).foldl (fun t (p, v) => t.setIfInBounds p v) tmps, defers := [] } W)
    (hbody : ∀ (a' : Act) (W' : World), (∃ r, W'.heap[l]? = some (.loop r)) → I pre W' → Ax a' W' → body.wpIn (F.inRound l) n P (RoundEnd B Kp I Ix xs W') a' W') :
    YieldAt F n P l (encs x) W fun e W' =>
      ((e = .returned (.bool true) ∧ (I xs W' ∧ W'.heap[l]? = some (.loop { state := .ready, pending := none, fn, tmps, params := ps, assign, body, defers := D }) ∧ W'.heap[D]? = some (.deferred (some [])))) ∨
      (e = .returned (.bool false) ∧ ∃ c, Ix c xs W' ∧ W'.heap[l]? = some (.loop { state := .done, pending := some c, fn, tmps, params := ps, assign, body, defers := D }) ∧ W'.heap[D]? = some (.deferred (some [])))) ∧ Kp W W' := by
  refine ⟨fn, _, assign, body, run_yield hl hps, roundIn_of_wpIn hfn (hassign _ ?_)⟩
  intro a' V hkV hpV hiV haV
  have hlV := hkV.same _ _ hBl hl rfl
  have hkD := hkV.same _ _ hBD hk rfl
  refine ⟨_, run_beginRound hlV rfl, ?_⟩
  have hl2 := World.putObj_heap_same (o := Obj.loop { state := .busy, pending := none, fn, tmps, params := ps, assign, body, defers := D }) (Array.getElem?_eq_some_iff.1 hlV).1
  have hk2 := (World.putObj_heap_other (w := V) (o := Obj.loop { state := .busy, pending := none, fn, tmps, params := ps, assign, body, defers := D }) hDl).trans hkD
  have hp2 := hKb V _ (Obj.loop { state := .busy, pending := none, fn, tmps, params := ps, assign, body, defers := D }) hlV
  refine wpIn_mono (hbody a' _ ⟨_, hl2⟩ (hI.putObj _ hiV hBl hlV rfl) (hAx.putObj (s := a') _ haV hBl hlV rfl)) ?_
  have fin : ∀ (jump : Option Code) (X : World), KeepsFrom B (V.putObj l (.loop { state := .busy, pending := none, fn, tmps, params := ps, assign, body, defers := D })) X →
      X.heap[l]? = some (.loop { state := .busy, pending := none, fn, tmps, params := ps, assign, body, defers := D }) ∧
      (Instr.endRound l jump).run P X = .ok (.bool jump.isNone) (X.putObj l (.loop { state := if jump.isNone then .ready else .done, pending := jump, fn, tmps, params := ps, assign, body, defers := D })) ∧
      (X.putObj l (.loop { state := if jump.isNone then .ready else .done, pending := jump, fn, tmps, params := ps, assign, body, defers := D })).heap[l]? = some (.loop { state := if jump.isNone then .ready else .done, pending := jump, fn, tmps, params := ps, assign, body, defers := D }) ∧
      (X.putObj l (.loop { state := if jump.isNone then .ready else .done, pending := jump, fn, tmps, params := ps, assign, body, defers := D })).heap[D]? = some (.deferred (some [])) := fun jump X hX => by
    have h3 := hX.same _ _ hBl hl2 rfl
    exact ⟨h3, run_endRound (P := P) jump h3, World.putObj_heap_same (Array.getElem?_eq_some_iff.1 h3).1, (World.putObj_heap_other hDl).trans (hX.same _ _ hBD hk2 rfl)⟩
  rintro e a3 X hX
  cases e with
  | normal =>
    obtain ⟨h3, hp3, hi3⟩ := hX
    obtain ⟨g1, g2, g3, g4⟩ := fin none X h3
    exact ⟨_, _, g2, .inl ⟨rfl, hI.putObj _ hi3 hBl g1 rfl, g3, g4⟩, hKt hpV (hKt (hKt hp2 hp3) (hKb _ _ _ g1))⟩
  | ret =>
    obtain ⟨h3, hp3, hi3⟩ := hX
    obtain ⟨g1, g2, g3, g4⟩ := fin (some .ret) X h3
    exact ⟨_, _, g2, .inr ⟨rfl, .ret, (hIx _).putObj _ hi3 hBl g1 rfl, g3, g4⟩, hKt hpV (hKt (hKt hp2 hp3) (hKb _ _ _ g1))⟩
  | exit id =>
    obtain ⟨h3, hp3, hi3⟩ := hX
    obtain ⟨g1, g2, g3, g4⟩ := fin (some (.exit id)) X h3
    exact ⟨_, _, g2, .inr ⟨rfl, .exit id, (hIx _).putObj _ hi3 hBl g1 rfl, g3, g4⟩, hKt hpV (hKt (hKt hp2 hp3) (hKb _ _ _ g1))⟩
  | goto t =>
    obtain ⟨h3, hp3, hi3⟩ := hX
    obtain ⟨g1, g2, g3, g4⟩ := fin (some (.goto t)) X h3
    exact ⟨_, _, g2, .inr ⟨rfl, .goto t, (hIx _).putObj _ hi3 hBl g1 rfl, g3, g4⟩, hKt hpV (hKt (hKt hp2 hp3) (hKb _ _ _ g1))⟩
  | panic ch => exact hX.elim
  | outgrown => exact hX.elim
/-- The caller's law. -/
theorem range_law {g : Operand} {ps : Array Tmp} {assign body : Code} {Q : Exit → Act → World → Prop} {a : Act} {w : World} (hro : F.round = none) (h1 : 1 ≤ n) {gf : Nat} {lb : Array Value} (hg : a.eval g = .func (.func gf) #[] lb) (hFg : F.fn gf) (eg : ∀ args w, (callFunc gf args).run P w = .ok (.enter gf args) w)
    {encs : α → Array Value} {Kp : Nat → World → World → Prop} {S Sp : List α → Prop} {N : Nat} {w0 : World} (hseq : Gives F (n - 1) P gf lb encs Kp S Sp N w0) (hb0 : Below w0.heap.size w0 w) (hps : ∀ x, (encs x).size = ps.size)
    (hKt : ∀ {A B C : World}, Kp (w.heap.size + 1) A B → Kp (w.heap.size + 1) B C → Kp (w.heap.size + 1) A C) (hKb : ∀ (W : World) (r : Loop) (o' : Obj), W.heap[w.heap.size + 1]? = some (.loop r) → Kp (w.heap.size + 1) W (W.putObj (w.heap.size + 1) o'))
    (I : List α → World → Prop) (Ix : Code → List α → World → Prop) (hI : OwnFrom w.heap.size I) (hIx : ∀ c, OwnFrom w.heap.size (Ix c)) (h0 : I [] w) (Ax : α → Act → World → Prop) (hAx : ∀ x, OwnFrom w.heap.size (fun (a' : Act) W => Ax x a' W))
    (hassign : ∀ (pre : List α) (x : α) (W : World) (K : Act → World → Prop), w.heap.size + 1 < W.heap.size → I pre W → (∀ a' W', KeepsFrom w.heap.size W W' → Kp (w.heap.size + 1) W W' → I pre W' → Ax x a' W' → K a' W') →
      assign.wpIn (F.inRound (w.heap.size + 1)) (n - 1 - 1) P (Exit.then K (fun _ _ _ => False)) { tmps := (ps.zip (encs x)).foldl (fun t (p, v) => t.setIfInBounds p v) a.tmps, defers := [] } W)
    (hbody : ∀ (pre : List α) (x : α) (a' : Act) (W : World), w.heap.size + 1 < W.heap.size → (∃ r, W.heap[w.heap.size + 1]? = some (.loop r)) → I pre W → Ax x a' W → pre.length < N → body.wpIn (F.inRound (w.heap.size + 1)) (n - 1 - 1) P (RoundEnd w.heap.size (Kp (w.heap.size + 1)) I Ix (pre ++ [x]) W) a' W)
    (hdone : ∀ (xs : List α) (W : World), S xs → I xs W → W.heap[w.heap.size]? = some (.deferred (some [])) → Q .normal { a with defers := { target := .collected w.heap.size, args := #[] } :: a.defers } W)
    (hstop : ∀ (c : Code) (pre : List α) (W : World), Sp pre → Ix c pre W → W.heap[w.heap.size]? = some (.deferred (some [])) → c.wpIn F n P Q { a with defers := { target := .collected w.heap.size, args := #[] } :: a.defers } W) :
    (Code.rangeFunc g ps assign body).wpIn F n P Q a w := by
  refine wpIn_rangeFunc fun fn hfn => ?_
  rw [hro]
  obtain ⟨W1, hW1⟩ : ∃ W1, (w.alloc (.deferred (some []))).alloc (.loop { state := .ready, pending := none, fn, tmps := a.tmps, params := ps, assign, body, defers := w.heap.size }) = W1 := ⟨_, rfl⟩
  have hsz : W1.heap.size = w.heap.size + 1 + 1 := by rw [← hW1]; simp
  have hL1 : W1.heap[w.heap.size + 1]? = some (.loop { state := .ready, pending := none, fn, tmps := a.tmps, params := ps, assign, body, defers := w.heap.size }) := by
    rw [← hW1]
    have := World.alloc_heap_new (w.alloc (.deferred (some []))) (.loop { state := .ready, pending := none, fn, tmps := a.tmps, params := ps, assign, body, defers := w.heap.size })
    rwa [World.size_alloc] at this
  have hK1 : W1.heap[w.heap.size]? = some (.deferred (some [])) := by
    rw [← hW1]
    exact (Below.heap_alloc _ _ _ (by simp)).trans (World.alloc_heap_new w _)
  have hI1 : I [] W1 := by rw [← hW1]; exact hI.alloc _ (hI.alloc _ h0)
  have hb1 : Below w0.heap.size w0 W1 := by
    rw [← hW1]
    exact hb0.trans ((((Below.refl _ w).alloc (Nat.le_refl _) _).alloc (by simp) _).mono hb0.size)
  refine ⟨w.heap.size + 1, [{ target := .collected w.heap.size, args := #[] }], W1, { target := .fn (.func gf) lb, args := #[.func (.yield (w.heap.size + 1)) #[] #[]] }, W1, gf,
    #[.func (.yield (w.heap.size + 1)) #[] #[]] ++ lb, W1, by rw [← hW1]; exact run_enterLoop_outer _ _ _ _ _, by simp only [resolve, hg]; simp [go_sem], fun f' hf' => by simp [Target.leads] at hf'; subst hf'; exact hFg, by simp [invoke, go_sem, eg], fun _ => h1, ?_⟩
  have hblk : ∀ (k : Nat) (o : Obj), k < W1.heap.size → OwnFrom W1.heap.size (fun (_ : Unit) (W : World) => k < W.heap.size ∧ W.heap[k]? = some o) := fun k o hk => ownFrom_block hk (fun _ => some o)
  refine (hseq (w.heap.size + 1)
    (fun pre W => I pre W ∧ W.heap[w.heap.size + 1]? = some (.loop { state := .ready, pending := none, fn, tmps := a.tmps, params := ps, assign, body, defers := w.heap.size }) ∧ W.heap[w.heap.size]? = some (.deferred (some [])))
    (fun pre W => ∃ c, Ix c pre W ∧ W.heap[w.heap.size + 1]? = some (.loop { state := .done, pending := some c, fn, tmps := a.tmps, params := ps, assign, body, defers := w.heap.size }) ∧ W.heap[w.heap.size]? = some (.deferred (some [])))
    W1 hb1 (by have := hb0.size; omega) (by omega) ?_ ?_ ?_ ⟨hI1, hL1, hK1⟩).mono ?_
  · intro s A B row hs hgr hr
    refine ⟨hI s A B row hs.1 hgr (fun r e => ⟨by have := (hr r e).1; omega, (hr r e).2⟩), ?_, ?_⟩
    · exact (hgr.block _ (Array.getElem?_eq_some_iff.1 hs.2.1).1 (fun e => by have := (hr _ e.symm).1; omega)).trans hs.2.1
    · exact (hgr.block _ (Array.getElem?_eq_some_iff.1 hs.2.2).1 (fun e => by have := (hr _ e.symm).1; omega)).trans hs.2.2
  · intro s A B row hs hgr hr
    obtain ⟨c, hc, hl, hk⟩ := hs
    refine ⟨c, hIx c s A B row hc hgr (fun r e => ⟨by have := (hr r e).1; omega, (hr r e).2⟩), ?_, ?_⟩
    · exact (hgr.block _ (Array.getElem?_eq_some_iff.1 hl).1 (fun e => by have := (hr _ e.symm).1; omega)).trans hl
    · exact (hgr.block _ (Array.getElem?_eq_some_iff.1 hk).1 (fun e => by have := (hr _ e.symm).1; omega)).trans hk
  · rintro pre x W ⟨hi, hl, hk⟩ hlen
    have hlt := (Array.getElem?_eq_some_iff.1 hl).1
    exact one_round (Ax := Ax x) hfn (by omega) (Nat.le_refl _) (by omega) hI hIx (hAx x) hKt hKb hl hk (hps x) hi (fun K hK => hassign pre x W K hlt hi hK)
      (fun a' W' hr hi' ha' => hbody pre x a' W' (by obtain ⟨r, hr⟩ := hr; exact (Array.getElem?_eq_some_iff.1 hr).1) hr hi' ha' hlen)
  · rintro e W2 ⟨⟨v, rfl⟩, (⟨xs, hS, hi, hl, hk⟩ | ⟨pre, hSp, c, hi, hl, hk⟩)⟩
    · exact ⟨none, _, run_endLoop (P := P) hl (by simp), hdone xs _ hS (hI.putObj _ hi (by omega) hl rfl) ((World.putObj_heap_other (by omega)).trans hk)⟩
    · exact ⟨some c, _, run_endLoop (P := P) hl (by simp), hstop c pre _ hSp ((hIx c).putObj _ hi (by omega) hl rfl) ((World.putObj_heap_other (by omega)).trans hk)⟩
end
end Go.Proofs.Ytkbialmlddhclaa.Ca

/- crash.Torn: all plans of some pages, with one page torn, in order, to whatever loop takes them: walked. No condition. -/
namespace Go.Proofs.Ytkbialmlddhclaa.Ca
open Go.RowKit Go.Shelf
attribute [local go_sem] Oper.semAt_some
set_option linter.unusedSimpArgs false
set_option linter.unusedVariables false
theorem all_gives (F : Fence) (n : Nat) (h71 : F.fn 71) (hro : F.round = none) (hn : 1 ≤ n) (Bn c : Nat) (hc : c ≤ 10) (Kp : Nat → World → World → Prop) (w : World) (hB : w.cell? ⟨Bn, 0, none⟩ = some (.int .i64 (c : Int))) :
    Gives F n Try.prog 71 #[.pointer (some ⟨Bn, 0, none⟩)] encA Kp (fun ys => ys = List.range (2 ^ c)) (fun pre => pre <+: List.range (2 ^ c)) (2 ^ c) w := fun l J Jx W hW _ _ _ _ hY h0 =>
  all1_in F n h71 hro hn l Bn c hc J Jx (Kp l) hY W ((hW.cell (p := ⟨Bn, 0, none⟩) (World.block_lt_of_cell? w _ hB)).trans hB) h0
/-- The plan by a number and a page that is torn. -/
def encT (c : Nat) (cut : Int) (t : Nat) : Array Value := #[.agg #[.int .u64 ((t / c : Nat) : Int), .int .i64 ((t % c : Nat) : Int), .int .i64 cut]]
/-- What comes of the plans so far. -/
def tl (c : Nat) (pre : List Nat) : List Nat := pre.flatMap (fun x => (List.range c).map (fun i => x * c + i))
theorem tl_snoc (c : Nat) (pre : List Nat) (x : Nat) : tl c (pre ++ [x]) = tl c pre ++ (List.range c).map (fun i => x * c + i) := by
  simp [tl]
theorem tl_len (c : Nat) : ∀ pre : List Nat, (tl c pre).length = pre.length * c
  | [] => by simp [tl]
  | x :: pre => by
    have := tl_len c pre
    simp [tl] at this ⊢
    rw [this, Nat.add_mul, Nat.one_mul, Nat.add_comm]
theorem tl_range (c : Nat) : ∀ m, tl c (List.range m) = List.range (m * c)
  | 0 => by simp [tl]
  | m + 1 => by
    rw [List.range_succ, tl_snoc, tl_range c m, Nat.add_mul, Nat.one_mul, List.range_add]
theorem tl_prefix (c : Nat) {a b : List Nat} (h : a <+: b) : tl c a <+: tl c b := by
  obtain ⟨r, rfl⟩ := h
  unfold tl
  rw [List.flatMap_append]
  exact ⟨_, rfl⟩
/-- What a round keeps: all but two blocks and its own loop's record. -/
structure Kp (T R l : Nat) (W W' : World) : Prop where
  size : W.heap.size ≤ W'.heap.size
  same : ∀ (k : Nat) (o : Obj), k ≠ T → k ≠ R → k ≠ l → W.heap[k]? = some o → W'.heap[k]? = some o
theorem Kp.trans {T R l : Nat} {A B C : World} (h : Kp T R l A B) (k : Kp T R l B C) : Kp T R l A C := ⟨Nat.le_trans h.size k.size, fun i o h1 h2 h3 hi => k.same i o h1 h2 h3 (h.same i o h1 h2 h3 hi)⟩
theorem Kp.refl (T R l : Nat) (W : World) : Kp T R l W W := ⟨Nat.le_refl _, fun _ _ _ _ _ h => h⟩
theorem hlt {W : World} {k : Nat} {o : Obj} (h : W.heap[k]? = some o) : k < W.heap.size := (Array.getElem?_eq_some_iff.1 h).1
theorem Kp.alloc (T R l : Nat) (W : World) (o : Obj) : Kp T R l W (W.alloc o) := ⟨by simp, fun k o' _ _ _ h => (Below.heap_alloc W o k (hlt h)).trans h⟩
theorem Kp.putObj (T R l : Nat) (W : World) (o : Obj) : Kp T R l W (W.putObj l o) := ⟨by simp, fun k o' _ _ h3 h => (World.putObj_heap_other h3).trans h⟩
theorem Kp.setT (T R l : Nat) (W : World) (v : Value) : Kp T R l W (W.setCell ⟨T, 0, none⟩ v) := ⟨by simp [World.setCell], fun k o' h1 _ _ h => (Below.heap_setCell W ⟨T, 0, none⟩ v k h1).trans h⟩
theorem Kp.setR (T R l : Nat) (W : World) (v : Value) : Kp T R l W (W.setCell ⟨R, 0, none⟩ v) := ⟨by simp [World.setCell], fun k o' _ h2 _ h => (Below.heap_setCell W ⟨R, 0, none⟩ v k h2).trans h⟩
/-- A block of cells stays where blocks of cells stay. -/
theorem ownFrom_cells {β : Type} {B : Nat} (k : Nat) (cs : Array Value) (t : TypeId) : OwnFrom B (fun (_ : β) (W : World) => W.heap[k]? = some (.cells cs t (0, 0))) :=
  fun s W W' row hs hg hr => (hg.block k (hlt hs) (fun e => by
    obtain ⟨_, o, ho, hc⟩ := hr k e.symm
    rw [hs] at ho
    cases ho
    cases hc)).trans hs
theorem cellOf {W : World} {k : Nat} {cs : Array Value} {t : TypeId} (h : W.heap[k]? = some (.cells cs t (0, 0))) (i : Nat) : W.cell? ⟨k, i, none⟩ = cs[i]? := by
  unfold World.cell?
  simp [h]
theorem frozenOf {W : World} {k : Nat} {cs : Array Value} {t : TypeId} (h : W.heap[k]? = some (.cells cs t (0, 0))) (i : Nat) : W.frozen? ⟨k, i, none⟩ = false := by
  unfold World.frozen?
  simp [h]
set_option maxRecDepth 100000 in
set_option maxHeartbeats 4000000 in
theorem torn_gives (F : Fence) (hd : F.depth = none) (n : Nat) (h22 : F.fn 22) (h71 : F.fn 71) (h72 : F.fn 72) (hro : F.round = none) (hn : 4 ≤ n) (B0 B1 c : Nat) (hc : c ≤ 10) (cut : Int) (T R : Nat) (w : World)
    (hB0 : w.heap[B0]? = some (.cells #[.int .i64 (c : Int)] TI (0, 0))) (hB1 : w.heap[B1]? = some (.cells #[.int .i64 cut] TI (0, 0))) (t0 : B0 ≠ T) (t1 : B0 ≠ R) (t2 : B1 ≠ T) (t3 : B1 ≠ R) (t4 : T < w.heap.size) (t5 : R < w.heap.size) :
    Gives F n Try.prog 72 #[.pointer (some ⟨B0, 0, none⟩), .pointer (some ⟨B1, 0, none⟩)] (encT c cut) (Kp T R) (fun ys => ys = List.range (2 ^ c * c)) (fun pre => pre <+: List.range (2 ^ c * c)) (2 ^ c * c) w := by
  intro l J Jx W hW hl0 hl1 hJ hJx hY h0
  have b0 := (hW.block B0 (hlt hB0)).trans hB0
  have b1 := (hW.block B1 (hlt hB1)).trans hB1
  have hz := hW.size
  have z0 := hlt b0
  have z1 := hlt b1
  have y0 := hlt hB0
  have y1 := hlt hB1
  have cc : clamp (c : Int) = c := by unfold clamp; rw [if_neg (by omega), if_neg (by omega)]; rfl
  have k0 : W.cell? ⟨B0, 0, none⟩ = some (.int .i64 (c : Int)) := cellOf b0 0
  refine callsIn_of_wp_marks Try.func72 rfl h72 ?_ hro
  simp only [Try.ntmps72, List.size_toArray, List.length_cons, List.length_nil, Nat.reduceAdd, Nat.reduceSub, Array.replicate_succ, Array.replicate_zero, List.push_toArray, List.append_toArray, List.nil_append, List.cons_append]
  have HY := Lib.hid hY
  have HW := Lib.hid hW
  have HJ := Lib.hid hJ
  have HJX := Lib.hid hJx
  have H0 := Lib.hid h0
  have B0' := Lib.hid b0
  have B1' := Lib.hid b1
  have CC := Lib.hid cc
  clear hY hW hJ hJx h0 b0 b1 hB0 hB1 cc
  gi_wp2_with (gi_at_call 22; refine (all_in F (n - 1) h22 hro _ _).mono ?_; rintro e w' ⟨rfl, rfl⟩)
  rw [CC.out]
  obtain ⟨WA, hWA⟩ : ∃ WA, WA = (W.alloc (.cells #[.func (.yield l) #[] #[]] 115)).alloc (.cells #[.int .i64 (c : Int)] TI) := ⟨_, rfl⟩
  have ya : WA.heap[W.heap.size]? = some (.cells #[.func (.yield l) #[] #[]] 115 (0, 0)) := by
    rw [hWA]; exact (Below.heap_alloc _ _ _ (by simp)).trans (World.alloc_heap_new W _)
  have ca : WA.heap[W.heap.size + 1]? = some (.cells #[.int .i64 (c : Int)] TI (0, 0)) := by
    rw [hWA]
    have := World.alloc_heap_new (W.alloc (.cells #[.func (.yield l) #[] #[]] 115)) (.cells #[.int .i64 (c : Int)] TI)
    rwa [World.size_alloc] at this
  have wb : Below W.heap.size W WA := by rw [hWA]; exact ((Below.refl _ W).alloc (Nat.le_refl _) _).alloc (by simp) _
  have za : WA.heap.size = W.heap.size + 1 + 1 := by rw [hWA]; simp
  rw [← hWA]
  have HYA := Lib.hid ya
  have HCA := Lib.hid ca
  have HWB := Lib.hid wb
  have hab : w.heap.size ≤ WA.heap.size := by omega
  have j0 : J (tl c []) WA := by
    rw [hWA]
    exact HJ.out.alloc _ (HJ.out.alloc _ H0.out)
  have J0 := Lib.hid j0
  have kl2 : ∀ (V W' : World), Kp T R l V W' → KeepsFrom WA.heap.size V W' := fun V W' h => ⟨h.size, fun k o hk ho _ => h.same k o (by omega) (by omega) (by omega) ho⟩
  have kcell : ∀ (V W' : World) (k : Nat) (o : Obj), Kp T R l V W' → k ≠ T → k ≠ R → k ≠ l → V.heap[k]? = some o → W'.heap[k]? = some o := fun V W' k o h h1 h2 h3 ho => h.same k o h1 h2 h3 ho
  have KL2 := Lib.hid kl2
  have KC := Lib.hid kcell
  clear hWA ya ca wb kl2 kcell j0
  refine range_law hro (by omega) (gf := 71) (lb := #[.pointer (some ⟨W.heap.size + 1, 0, none⟩)]) rfl h71 (enters_of Try.func71 (by kernel_rfl) rfl)
    (all_gives F (n - 1) h71 hro (by omega) (W.heap.size + 1) c hc (fun _ _ _ => True) WA (cellOf HCA.out 0)) (Below.refl _ _) (fun _ => rfl) (fun _ _ => trivial) (fun _ _ _ _ => trivial)
    (fun pre V => J (tl c pre) V ∧ V.heap[W.heap.size]? = some (.cells #[.func (.yield l) #[] #[]] 115 (0, 0)) ∧ V.heap[B0]? = some (.cells #[.int .i64 (c : Int)] TI (0, 0)) ∧ V.heap[B1]? = some (.cells #[.int .i64 cut] TI (0, 0)))
    (fun code pre V => code = .ret ∧ ∃ q, q <+: tl c pre ∧ Jx q V)
    (fun s A B row hs hg hr => ⟨(own_up HJ.out (by omega)) _ _ _ _ hs.1 hg hr, ownFrom_cells _ _ _ () _ _ _ hs.2.1 hg hr, ownFrom_cells _ _ _ () _ _ _ hs.2.2.1 hg hr, ownFrom_cells _ _ _ () _ _ _ hs.2.2.2 hg hr⟩)
    (fun code s A B row hs hg hr => by
      obtain ⟨e, q, hq, hx⟩ := hs
      exact ⟨e, q, hq, (own_up HJX.out (by omega)) _ _ _ _ hx hg hr⟩)
    ⟨J0.out, HYA.out, (HWB.out.block _ z0).trans B0'.out, (HWB.out.block _ z1).trans B1'.out⟩
    (fun x a' V => ∃ PB, WA.heap.size + 1 < PB ∧ V.heap[PB]? = some (.cells #[.int .u64 ((x : Nat) : Int), .int .i64 (-1), .int .i64 0] 31 (0, 0)) ∧ a' = { tmps := #[.func (.yield l) #[] #[], .pointer (some ⟨B0, 0, none⟩), .pointer (some ⟨B1, 0, none⟩), .pointer (some ⟨W.heap.size, 0, none⟩), .pointer (some ⟨PB, 0, none⟩), undef, .int .i64 (c : Int), .func (.func 71) #[] #[.pointer (some ⟨W.heap.size + 1, 0, none⟩)], .agg #[.int .u64 ((x : Nat) : Int), .int .i64 (-1), .int .i64 0], undef, undef, undef, undef, undef, undef, undef, undef, undef, undef, undef, undef, undef], defers := [] })
    (fun x s A B row hs hg hr => by
      obtain ⟨PB, h1, h2, h3⟩ := hs
      exact ⟨PB, h1, ownFrom_cells _ _ _ () _ _ _ h2 hg hr, h3⟩)
    ?assign ?body ?done ?stop
  case assign =>
    rintro pre x V K hV ⟨g0, g1, g2, g3⟩ hK
    unfold encA
    gi_wp2
    refine hK _ _ ((KeepsOthers.alloc _ _).from _) trivial ⟨OwnFrom.alloc HJ.out _ g0, (Below.heap_alloc _ _ _ (hlt g1)).trans g1, (Below.heap_alloc _ _ _ (hlt g2)).trans g2, (Below.heap_alloc _ _ _ (hlt g3)).trans g3⟩ ⟨V.heap.size, hV, World.alloc_heap_new V _, rfl⟩
  case body =>
    rintro pre x a' V hV hr ⟨g0, g1, g2, g3⟩ ⟨PB, hPB, gp, rfl⟩ hlen
    have G0 := Lib.hid g0
    have G1 := Lib.hid g1
    have G2 := Lib.hid g2
    have G3 := Lib.hid g3
    have GP := Lib.hid gp
    have k0 : V.cell? ⟨B0, 0, none⟩ = some (.int .i64 (c : Int)) := cellOf g2 0
    clear g0 g1 g2 g3 gp hr
    gi_wp2
    gi_loopw [10] (fun v10 X => ∃ i : Nat, i ≤ c ∧ v10 = .int .i64 (i : Int) ∧ J (tl c pre ++ (List.range i).map (fun i => x * c + i)) X ∧ KeepsFrom WA.heap.size V X ∧ X.heap[W.heap.size]? = some (.cells #[.func (.yield l) #[] #[]] 115 (0, 0)) ∧ X.heap[B0]? = some (.cells #[.int .i64 (c : Int)] TI (0, 0)) ∧ X.heap[B1]? = some (.cells #[.int .i64 cut] TI (0, 0)) ∧ X.heap[PB]? = some (.cells #[.int .u64 ((x : Nat) : Int), .int .i64 (-1), .int .i64 0] 31 (0, 0))) (fun v10 _ => c - (intOf v10).toNat)
    case atStart => exact ⟨0, Nat.zero_le _, rfl, by simpa using G0.out, KeepsFrom.refl _ _, G1.out, G2.out, G3.out, GP.out⟩
    case round =>
      obtain ⟨i, hi, rfl, f0, fk, f1, f2, f3, f4⟩ := hrel
      have F0 := Lib.hid f0
      have FK := Lib.hid fk
      have F1 := Lib.hid f1
      have F2 := Lib.hid f2
      have F3 := Lib.hid f3
      have F4 := Lib.hid f4
      have i0 : (0 : Int) ≤ (i : Int) := by omega
      clear f0 fk f2 k0
      by_cases hlt2 : i < c
      · have q1 : (x * c + i) / c = x := by rw [Nat.mul_comm, Nat.mul_add_div (by omega), Nat.div_eq_of_lt hlt2, Nat.add_zero]
        have q2 : (x * c + i) % c = i := by rw [Nat.mul_comm, Nat.mul_add_mod, Nat.mod_eq_of_lt hlt2]
        have hcl : (tl c pre ++ (List.range i).map (fun i => x * c + i)).length < 2 ^ c * c := by
          rw [List.length_append, tl_len, List.length_map, List.length_range]
          have := Nat.mul_le_mul_right c (show pre.length + 1 ≤ 2 ^ c from hlen)
          rw [Nat.add_mul, Nat.one_mul] at this
          omega
        obtain ⟨fn, tmps, assign, body, hy, hR⟩ := yield_anyDepth hd (n - 1 - 1 - 1) (HY.out _ (x * c + i) wr F0.out hcl)
        unfold encT at hy
        rw [q1, q2] at hy
        have i1 : (i : Int) < (c : Int) := by omega
        have c1 : wr.cell? ⟨W.heap.size, 0, none⟩ = some (.func (.yield l) #[] #[]) := cellOf f1 0
        have c2 : wr.cell? ⟨B1, 0, none⟩ = some (.int .i64 cut) := cellOf f3 0
        have c3 : wr.cell? ⟨PB, 0, none⟩ = some (.int .u64 ((x : Nat) : Int)) := cellOf f4 0
        clear f1 f3 f4 q1 q2 hcl
        gi_wp2
        refine RoundIn.mono (F := F.inRound _) hR ?_
        rintro e W3 ⟨(⟨rfl, hJ3⟩ | ⟨rfl, hJx3⟩), hkp⟩
        · have HJ3 := Lib.hid hJ3
          have HKP := Lib.hid hkp
          clear hJ3 hkp c1 c2 c3 hR hy
          gi_wp2
          go_roundw
          case rel => exact ⟨i + 1, by omega, by go_num, by rw [List.range_succ, List.map_append, ← List.append_assoc]; exact HJ3.out, FK.out.trans (KL2.out _ _ HKP.out), KC.out _ _ _ _ HKP.out (by omega) (by omega) (by omega) F1.out, KC.out _ _ _ _ HKP.out t0 t1 (by omega) F2.out, KC.out _ _ _ _ HKP.out t2 t3 (by omega) F3.out, KC.out _ _ _ _ HKP.out (by omega) (by omega) (by omega) F4.out⟩
          case measure => simp [intOf]; omega
        · have HJ3 := Lib.hid hJx3
          have HKP := Lib.hid hkp
          clear hJx3 hkp c1 c2 c3 hR hy
          gi_wp2
          refine ⟨FK.out.trans (KL2.out _ _ HKP.out), trivial, rfl, _, ?_, HJ3.out⟩
          rw [tl_snoc]
          obtain ⟨d, rfl⟩ : ∃ d, c = i + 1 + d := ⟨c - (i + 1), by omega⟩
          rw [List.range_add, List.map_append, List.range_succ, List.map_append, List.append_assoc, List.append_assoc, ← List.append_assoc]
          exact ⟨_, by simp; rfl⟩
      · obtain rfl : i = c := by omega
        clear f1 f3 f4
        gi_wp2
        exact ⟨FK.out, trivial, by rw [tl_snoc]; exact F0.out, F1.out, F2.out, F3.out⟩
  case done =>
    rintro xs V rfl ⟨g0, -⟩ hK
    have G0 := Lib.hid g0
    clear g0
    gi_wp2
    refine ⟨by simp, .inl ⟨_, _, rfl, run_takeDeferred hK, ?_⟩⟩
    exact ⟨_, results_none rfl _ _ _, ⟨_, rfl⟩, .inl ⟨_, rfl, by rw [← tl_range]; exact HJ.out.putObj _ G0.out (by omega) hK rfl⟩⟩
  case stop =>
    rintro code pre V hp ⟨rfl, q, hq, hx⟩ hK
    have HX := Lib.hid hx
    clear hx
    gi_wp2
    refine ⟨by simp, .inl ⟨_, _, rfl, run_takeDeferred hK, ?_⟩⟩
    exact ⟨_, results_none rfl _ _ _, ⟨_, rfl⟩, .inr ⟨q, hq.trans (by rw [← tl_range]; exact tl_prefix c hp), HJX.out.putObj _ HX.out (by omega) hK rfl⟩⟩
end Go.Proofs.Ytkbialmlddhclaa.Ca

/- CrashAll: walked. No condition but what every argument brings. -/
namespace Go.Proofs.Ytkbialmlddhclaa.Ca
open Go.RowKit Go.Shelf
attribute [local go_sem] Oper.semAt_some
set_option linter.unusedSimpArgs false
set_option linter.unusedVariables false
theorem torn_in (F : Fence) (n : Nat) (h23 : F.fn 23) (hro : F.round = none) (m cut : Int) (w : World) :
    CallsIn F n Try.prog 23 #[.int .i64 m, .int .i64 cut] w fun e w' => e = .returned (.func (.func 72) #[] #[.pointer (some ⟨w.heap.size, 0, none⟩), .pointer (some ⟨w.heap.size + 1, 0, none⟩)]) ∧ w' = (w.alloc (.cells #[.int .i64 (clamp m : Int)] TI)).alloc (.cells #[.int .i64 cut] TI) := by
  refine callsIn_of_wp Try.func23 rfl h23 ?_ hro
  simp only [Try.ntmps23, List.size_toArray, List.length_cons, List.length_nil, Nat.reduceAdd, Nat.reduceSub, Array.replicate_succ, Array.replicate_zero, List.push_toArray, List.append_toArray, List.nil_append, List.cons_append]
  have hc1 : m < 0 → (clamp m : Int) = 0 := fun h => by unfold clamp; rw [if_pos h]; rfl
  have hc2 : 0 ≤ m → 10 < m → (clamp m : Int) = 10 := fun h h2 => by unfold clamp; rw [if_neg (by omega), if_pos h2]; rfl
  have hc3 : 0 ≤ m → m ≤ 10 → (clamp m : Int) = m := fun h h2 => by unfold clamp; rw [if_neg (by omega), if_neg (by omega)]; omega
  have HC1 := Lib.hid hc1
  have HC2 := Lib.hid hc2
  have HC3 := Lib.hid hc3
  clear hc1 hc2 hc3
  gi_wp2
  all_goals
    go_ret
    refine ⟨rfl, ?_⟩
    first | rw [HC1.out (by assumption)] | rw [HC2.out (by assumption) (by assumption)] | rw [HC3.out (by assumption) (by assumption)]
/-- crash.Keeps. -/
def bitV (k i : Int) : Bool := k / 2 ^ i.toNat % 2 == 1
def keepsV (k t i : Int) : Bool := decide (0 ≤ i ∧ i < 64 ∧ i ≠ t) && bitV k i
theorem and_one (x : Nat) (h : x < 18446744073709551616) : Go.bits .and .u64 (x : Int) 1 = ((x % 2 : Nat) : Int) := by
  have h2 := bits_and_u64_nat x 1 h (by omega)
  rw [Nat.and_one_is_mod] at h2
  exact h2
theorem bit_and {k i : Int} (h0 : 0 ≤ k) (h1 : k < 18446744073709551616) : (Go.bits .and .u64 (k / 2 ^ i.toNat) 1 == 1) = bitV k i := by
  obtain ⟨x, rfl⟩ := Int.eq_ofNat_of_zero_le h0
  have e : ((x : Int) / 2 ^ i.toNat) = ((x / 2 ^ i.toNat : Nat) : Int) := by push_cast; rfl
  have hlt : x / 2 ^ i.toNat < 18446744073709551616 := Nat.lt_of_le_of_lt (Nat.div_le_self _ _) (by omega)
  unfold bitV
  rw [e, and_one _ hlt]
  congr 1
set_option maxRecDepth 100000 in
set_option maxHeartbeats 1000000 in
theorem keeps_any (k t c i : Int) (hk0 : 0 ≤ k) (hk1 : k < 18446744073709551616) (w : World) : Calls Try.prog 24 #[.agg #[.int .u64 k, .int .i64 t, .int .i64 c], .int .i64 i] w fun e w' => e = .returned (.bool (keepsV k t i)) ∧ Below w.heap.size w w' := by
  have hb := bit_and (k := k) (i := i) hk0 hk1
  by_cases h0 : 0 ≤ i
  · by_cases h1 : i < 64
    · by_cases h2 : i = t
      · have hv : keepsV k t i = false := by unfold keepsV; rw [decide_eq_false (by omega)]; rfl
        subst h2
        rw [hv]
        clear hv hb hk0 hk1
        go_enter Try.func24, Try.ntmps24
        go_wp2
        go_ret
        exact ⟨rfl, (Below.refl _ _).alloc (Nat.le_refl _) _⟩
      · have e2 : (i != t) = true := bne_iff_ne.2 h2
        have hv : keepsV k t i = bitV k i := by unfold keepsV; rw [decide_eq_true ⟨h0, h1, h2⟩]; rfl
        rw [hv, ← hb]
        clear hv hb h2 hk0 hk1
        go_enter Try.func24, Try.ntmps24
        go_wp2
        go_ret
        exact ⟨rfl, (Below.refl _ _).alloc (Nat.le_refl _) _⟩
    · have hv : keepsV k t i = false := by unfold keepsV; rw [decide_eq_false (by omega)]; rfl
      have e1 : decide (i < 64) = false := decide_eq_false h1
      rw [hv]
      clear hv hb hk0 hk1
      go_enter Try.func24, Try.ntmps24
      go_wp2
      go_ret
      exact ⟨rfl, (Below.refl _ _).alloc (Nat.le_refl _) _⟩
  · have hv : keepsV k t i = false := by unfold keepsV; rw [decide_eq_false (by omega)]; rfl
    have e1 : decide (0 ≤ i) = false := decide_eq_false h0
    rw [hv]
    clear hv hb hk0 hk1
    go_enter Try.func24, Try.ntmps24
    go_wp2
    go_ret
    exact ⟨rfl, (Below.refl _ _).alloc (Nat.le_refl _) _⟩
theorem keeps_four (w : World) : Calls Try.prog 21 #[] w fun e w' => e = .returned (.bool true) ∧ Below w.heap.size w w' := by
  have h := fun (V : World) => keeps_any 4 (-1) 0 2 (by decide) (by decide) V
  have e : keepsV 4 (-1) 2 = true := by decide
  rw [e] at h
  have H := Lib.hid h
  clear h
  go_enter Try.func21, Try.ntmps21
  go_wp2_with (go_at_call 24; (with_reducible refine (H.out _).mono ?_); rintro e w1 ⟨rfl, hb⟩)
  go_ret
  exact ⟨rfl, hb⟩
end Go.Proofs.Ytkbialmlddhclaa.Ca

/- What stays in memory all along CrashAll. No condition. -/
namespace Go.Proofs.Ytkbialmlddhclaa.Ca
open Go.RowKit Go.Shelf
attribute [local go_sem] Oper.semAt_some
set_option linter.unusedSimpArgs false
set_option linter.unusedVariables false
theorem range_block {F : Fence} {n : Nat} {P : Program} {c : Code} {Q' : Exit → Act → World → Prop} {G : Act → World → Prop} {id : Nat} {a : Act} {w : World}
    (h : c.wpIn F n P (fun e a' W' => (e = .normal ∨ e = .exit id) ∧ G a' W') a w) (k : ∀ a' W', G a' W' → Q' .normal a' W') : c.wpIn F n P (Exit.inBlock id Q') a w := by
  refine wpIn_mono h ?_
  rintro e a' W' ⟨rfl | rfl, hg⟩
  · exact k a' W' hg
  · show Exit.inBlock id Q' (.exit id) a' W'
    simp only [Exit.inBlock, if_true]
    exact k a' W' hg
theorem boxes4 (w : World) (o0 o1 o2 o3 : Obj) : ((((w.alloc o0).alloc o1).alloc o2).alloc o3).heap[w.heap.size]? = some o0 ∧ ((((w.alloc o0).alloc o1).alloc o2).alloc o3).heap[w.heap.size + 1]? = some o1 ∧ ((((w.alloc o0).alloc o1).alloc o2).alloc o3).heap[w.heap.size + 1 + 1]? = some o2 ∧ ((((w.alloc o0).alloc o1).alloc o2).alloc o3).heap[w.heap.size + 1 + 1 + 1]? = some o3 ∧
    ((((w.alloc o0).alloc o1).alloc o2).alloc o3).heap.size = w.heap.size + 1 + 1 + 1 + 1 ∧ Below w.heap.size w ((((w.alloc o0).alloc o1).alloc o2).alloc o3) := by
  have n1 := World.alloc_heap_new (w.alloc o0) o1
  have n2 := World.alloc_heap_new ((w.alloc o0).alloc o1) o2
  have n3 := World.alloc_heap_new (((w.alloc o0).alloc o1).alloc o2) o3
  simp only [World.size_alloc] at n1 n2 n3
  refine ⟨?_, ?_, ?_, n3, by simp, ((((Below.refl _ w).alloc (Nat.le_refl _) _).alloc (by simp) _).alloc (by simp; omega) _).alloc (by simp; omega) _⟩
  · exact (Below.heap_alloc _ _ _ (by simp <;> omega)).trans ((Below.heap_alloc _ _ _ (by simp <;> omega)).trans ((Below.heap_alloc _ _ _ (by simp)).trans (World.alloc_heap_new w o0)))
  · exact (Below.heap_alloc _ _ _ (by simp <;> omega)).trans ((Below.heap_alloc _ _ _ (by simp)).trans n1)
  · exact (Below.heap_alloc _ _ _ (by simp)).trans n2
theorem boxes3 (w : World) (o0 o1 o2 : Obj) : (((w.alloc o0).alloc o1).alloc o2).heap[w.heap.size]? = some o0 ∧ (((w.alloc o0).alloc o1).alloc o2).heap[w.heap.size + 1]? = some o1 ∧ (((w.alloc o0).alloc o1).alloc o2).heap[w.heap.size + 1 + 1]? = some o2 ∧
    (((w.alloc o0).alloc o1).alloc o2).heap.size = w.heap.size + 1 + 1 + 1 ∧ Below w.heap.size w (((w.alloc o0).alloc o1).alloc o2) := by
  have n1 := World.alloc_heap_new (w.alloc o0) o1
  have n2 := World.alloc_heap_new ((w.alloc o0).alloc o1) o2
  simp only [World.size_alloc] at n1 n2
  refine ⟨?_, ?_, n2, by simp, (((Below.refl _ w).alloc (Nat.le_refl _) _).alloc (by simp) _).alloc (by simp; omega) _⟩
  · exact (Below.heap_alloc _ _ _ (by simp <;> omega)).trans ((Below.heap_alloc _ _ _ (by simp)).trans (World.alloc_heap_new w o0))
  · exact (Below.heap_alloc _ _ _ (by simp)).trans n1
/-- What stays all along: the boxes that nobody writes, and all that was there. -/
structure Base (w : World) (z : Nat) (cut stop k t u : Int) (c : Nat) (V : World) : Prop where
  b0 : V.heap[w.heap.size]? = some (.cells #[.int .i64 cut] TI (0, 0))
  b1 : V.heap[w.heap.size + 1]? = some (.cells #[.int .i64 stop] TI (0, 0))
  b2 : V.heap[w.heap.size + 1 + 1]? = some (.cells #[.int .u64 k, .int .i64 t, .int .i64 u] 31 (0, 0))
  p0 : V.heap[z]? = some (.cells #[.int .i64 (c : Int)] TI (0, 0))
  bel : Below w.heap.size w V
theorem Base.grown {w A B : World} {z : Nat} {cut stop k t u : Int} {c b : Nat} {row : Option Nat} (h : Base w z cut stop k t u c A) (hg : A.grownBy B row) (hr : ∀ r, row = some r → b ≤ r ∧ ∃ o : Obj, A.heap[r]? = some o ∧ o.isCells = false) (hb : w.heap.size ≤ b) : Base w z cut stop k t u c B :=
  ⟨ownFrom_cells _ _ _ () _ _ _ h.b0 hg hr, ownFrom_cells _ _ _ () _ _ _ h.b1 hg hr, ownFrom_cells _ _ _ () _ _ _ h.b2 hg hr, ownFrom_cells _ _ _ () _ _ _ h.p0 hg hr, ownFrom_below (Nat.le_refl _) hb () _ _ _ h.bel hg hr⟩
theorem Base.below {w A B : World} {z : Nat} {cut stop k t u : Int} {c : Nat} (h : Base w z cut stop k t u c A) (hb : Below A.heap.size A B) : Base w z cut stop k t u c B :=
  ⟨(hb.block _ (hlt h.b0)).trans h.b0, (hb.block _ (hlt h.b1)).trans h.b1, (hb.block _ (hlt h.b2)).trans h.b2, (hb.block _ (hlt h.p0)).trans h.p0, h.bel.trans (hb.mono h.bel.size)⟩
theorem Base.set {w A : World} {z : Nat} {cut stop k t u : Int} {c : Nat} (h : Base w z cut stop k t u c A) {q : Nat} (h0 : w.heap.size + 1 + 1 < q) (h1 : q ≠ z) (v : Value) : Base w z cut stop k t u c (A.setCell ⟨q, 0, none⟩ v) :=
  ⟨(Below.heap_setCell A ⟨q, 0, none⟩ v _ (by show _ ≠ q; omega)).trans h.b0, (Below.heap_setCell A ⟨q, 0, none⟩ v _ (by show _ ≠ q; omega)).trans h.b1, (Below.heap_setCell A ⟨q, 0, none⟩ v _ (by show _ ≠ q; omega)).trans h.b2, (Below.heap_setCell A ⟨q, 0, none⟩ v _ (fun e => h1 e.symm)).trans h.p0, h.bel.setCell (by show _ ≤ q; omega) _⟩
theorem bad_prefix {L x N : Nat} (hx : ¬ x = L) : ¬ (List.range L ++ [x]) <+: List.range N := by
  rintro ⟨r, hr⟩
  have h := congrArg (fun l => l[L]?) hr
  simp at h
  by_cases hN : L < N
  · rw [List.getElem?_range hN] at h
    exact hx (Option.some.inj h)
  · rw [List.getElem?_eq_none (by simp; omega)] at h
    cases h
theorem set_blk {A : World} {q : Nat} {v v' : Value} {T : TypeId} (h : A.heap[q]? = some (.cells #[v] T (0, 0))) : (A.setCell ⟨q, 0, none⟩ v').heap[q]? = some (.cells #[v'] T (0, 0)) := by
  simp [World.setCell, Array.getElem?_modify, h]
theorem keep_blk {A : World} {q r : Nat} {v' : Value} {o : Obj} (h : A.heap[r]? = some o) (hq : r ≠ q) : (A.setCell ⟨q, 0, none⟩ v').heap[r]? = some o := (Below.heap_setCell A ⟨q, 0, none⟩ v' r hq).trans h
end Go.Proofs.Ytkbialmlddhclaa.Ca

/- CrashAll behind its loops: the last test, walked for whatever stands in the slots that nobody reads any more. No condition. -/
namespace Go.Proofs.Ytkbialmlddhclaa.Ca
open Go.RowKit Go.Shelf
attribute [local go_sem] Oper.semAt_some
set_option linter.unusedSimpArgs false
set_option linter.unusedVariables false
def fstC : Code → Code
  | .seq a _ => a
  | c => c
theorem then_imp {K K' : Act → World → Prop} {Q : Exit → Act → World → Prop} (h : ∀ a w, K a w → K' a w) : ∀ e a w, Exit.then K Q e a w → Exit.then K' Q e a w := by
  intro e a w
  cases e <;> first | exact h a w | exact id
def sndC : Code → Code
  | .seq _ b => b
  | c => c
theorem end_true {tmps : Array Value} {w V w3 : World} {z D1 D2 c : Nat} {cut stop k t u : Int} (hB : Base w z cut stop k t u c V) (hb : Below V.heap.size V w3) (hx : w3.heap[w.heap.size + 1 + 1 + 1]? = some (.cells #[.bool false] 4 (0, 0))) (hD1 : V.heap[D1]? = some (.deferred (some []))) (hD2 : V.heap[D2]? = some (.deferred (some []))) (hd : D1 ≠ D2) (e1 : w.heap.size ≤ D1) (e2 : w.heap.size ≤ D2) (ht : tmps.getD 10 undef = .pointer (some ⟨w.heap.size + 1 + 1 + 1, 0, none⟩)) :
    (bodyPostM Fence.wide 20 Try.prog Try.f4 fun e w' => e = .returned (.bool true) ∧ Below w.heap.size w w') .ret { tmps := tmps, defers := [{ target := .collected D2, args := #[] }, { target := .collected D1, args := #[] }] } (w3.setCell ⟨w.heap.size + 1 + 1 + 1, 0, none⟩ (.bool true)) := by
  have h2 := (KeepsOthers.setCell w3 ⟨w.heap.size + 1 + 1 + 1, 0, none⟩ (.bool true)).same D2 _ ((hb.block _ (hlt hD2)).trans hD2) rfl
  have h1 := (KeepsOthers.setCell w3 ⟨w.heap.size + 1 + 1 + 1, 0, none⟩ (.bool true)).same D1 _ ((hb.block _ (hlt hD1)).trans hD1) rfl
  have hr := set_blk (v' := .bool true) hx
  have n2 : w.heap.size + 1 + 1 + 1 ≠ D2 := fun e => by rw [← e, hr] at h2; cases h2
  have n1 : w.heap.size + 1 + 1 + 1 ≠ D1 := fun e => by rw [← e, hr] at h1; cases h1
  have hz1 := (World.putObj_heap_other (o := Obj.deferred none) hd).trans h1
  have hzr := (World.putObj_heap_other (o := Obj.deferred none) n1).trans ((World.putObj_heap_other (o := Obj.deferred none) n2).trans hr)
  refine ⟨by simp, .inl ⟨_, _, rfl, run_takeDeferred h2, ?_⟩⟩
  refine ⟨by simp, .inl ⟨_, _, rfl, run_takeDeferred hz1, ?_⟩⟩
  have hc : _ = some (Value.bool true) := cellOf hzr 0
  have hbl := (((hB.bel.trans (hb.mono hB.bel.size)).setCell (p := ⟨w.heap.size + 1 + 1 + 1, 0, none⟩) (by show _ ≤ w.heap.size + 1 + 1 + 1; omega) (.bool true)).trans (belowK_b (w := w) (Nat.le_refl _) _ D2 _ (Obj.deferred none) e2 h2 rfl rfl)).trans (belowK_b (w := w) (Nat.le_refl _) _ D1 _ (Obj.deferred none) e1 hz1 rfl rfl)
  refine ⟨.bool true, ?_, rfl, hbl⟩
  simp only [Array.getD_eq_getD_getElem?] at ht
  revert hc
  generalize ((w3.setCell ⟨w.heap.size + 1 + 1 + 1, 0, none⟩ (.bool true)).putObj D2 (Obj.deferred none)).putObj D1 (Obj.deferred none) = Z
  intro hc
  simp [results, Try.results4, go_sem, ht, hc]
set_option maxRecDepth 100000 in
set_option maxHeartbeats 8000000 in
theorem rest4_ok (v0 v1 v2 v4 v5 v8 v12 v13 v14 v16 v18 v19 v20 v21 v22 v23 v24 v25 v26 v27 v28 v29 v30 v31 v32 v33 v34 v35 v36 v37 v38 v39 v40 v41 v42 v43 v44 v45 v46 v47 v48 v49 v50 v51 v52 v53 v54 v55 v56 v57 v58 v59 v60 v61 v62 v63 v64 v65 v66 v67 v68 v69 v70 v71 v72 v73 v74 v75 v76 v77 v78 v79 v80 v81 v82 v83 v84 v85 v86 v87 v88 v89 v90 v91 v92 v93 v94 v95 v96 v97 v98 v99 v100 v101 v102 v103 v104 v105 v106 v107 v108 v109 v110 v111 v112 v113 v114 v115 : Value) (b : Bool) (w V : World) (s z T D1 D2 c m : Nat) (cut stop i k t u : Int) (hc : c ≤ 10) (hk0 : 0 ≤ k) (hk1 : k < 18446744073709551616) (hs : s = w.heap.size) (hz : s + 1 + 1 + 1 < z) (hzT : z < T) (hB : Base w z cut stop k t u c V) (hR : V.heap[s + 1 + 1 + 1]? = some (.cells #[.bool false] 4 (0, 0))) (hT : V.heap[T]? = some (.cells #[.int .i64 (m : Int)] TI (0, 0)))
    (hm : m = 2 ^ c * c ∨ (m : Int) = stop) (hm1 : m ≤ 2 ^ c * c) (hD1 : V.heap[D1]? = some (.deferred (some []))) (hD2 : V.heap[D2]? = some (.deferred (some []))) (hd1 : s ≤ D1) (hd2 : s ≤ D2) (hd : D1 ≠ D2) (hb : keepsV k t i = b) (PO : Exit → Act → World → Prop) (hPO : PO = (bodyPostM Fence.wide 20 Try.prog Try.f4 fun e w' => e = .returned (.bool true) ∧ Below w.heap.size w w')) :
    (fstC (sndC (sndC (sndC (sndC (sndC (sndC (sndC (sndC (sndC ((Try.f4.body.getD .skip)))))))))))).wp Try.prog (Exit.then (fun a w => (sndC (sndC (sndC (sndC (sndC (sndC (sndC (sndC (sndC (sndC ((Try.f4.body.getD .skip)))))))))))).wp Try.prog PO a w) PO) { tmps := #[v0, v1, v2, .int .i64 i, v4, v5, .pointer (some ⟨s, 0, none⟩), .pointer (some ⟨s + 1, 0, none⟩), v8, .pointer (some ⟨s + 1 + 1, 0, none⟩), .pointer (some ⟨s + 1 + 1 + 1, 0, none⟩), .pointer (some ⟨z, 0, none⟩), v12, v13, v14, .pointer (some ⟨T, 0, none⟩), v16, .bool b, v18, v19, v20, v21, v22, v23, v24, v25, v26, v27, v28, v29, v30, v31, v32, v33, v34, v35, v36, v37, v38, v39, v40, v41, v42, v43, v44, v45, v46, v47, v48, v49, v50, v51, v52, v53, v54, v55, v56, v57, v58, v59, v60, v61, v62, v63, v64, v65, v66, v67, v68, v69, v70, v71, v72, v73, v74, v75, v76, v77, v78, v79, v80, v81, v82, v83, v84, v85, v86, v87, v88, v89, v90, v91, v92, v93, v94, v95, v96, v97, v98, v99, v100, v101, v102, v103, v104, v105, v106, v107, v108, v109, v110, v111, v112, v113, v114, v115], defers := [{ target := .collected D2, args := #[] }, { target := .collected D1, args := #[] }] } V := by
  have HPO := Lib.hid hPO
  clear hPO
  simp only [Try.f4, Option.getD_some, sndC, fstC]
  subst hs
  have k1 : V.cell? ⟨T, 0, none⟩ = some (.int .i64 (m : Int)) := cellOf hT 0
  have k2 : V.cell? ⟨w.heap.size + 1, 0, none⟩ = some (.int .i64 stop) := cellOf hB.b1 0
  have k3 : V.cell? ⟨z, 0, none⟩ = some (.int .i64 (c : Int)) := cellOf hB.p0 0
  have k4 : V.cell? ⟨w.heap.size + 1 + 1, 0, none⟩ = some (.int .u64 k) := cellOf hB.b2 0
  have k5 : V.cell? ⟨w.heap.size + 1 + 1, 1, none⟩ = some (.int .i64 t) := cellOf hB.b2 1
  have k6 : V.cell? ⟨w.heap.size + 1 + 1, 2, none⟩ = some (.int .i64 u) := cellOf hB.b2 2
  have k7 : V.cell? ⟨w.heap.size + 1 + 1 + 1, 0, none⟩ = some (.bool false) := cellOf hR 0
  have f7 := frozenOf hR 0
  have hss : ∀ X : World, Below V.heap.size V X → X.cell? ⟨T, 0, none⟩ = some (.int .i64 (m : Int)) ∧ X.cell? ⟨w.heap.size + 1, 0, none⟩ = some (.int .i64 stop) ∧ X.cell? ⟨z, 0, none⟩ = some (.int .i64 (c : Int)) ∧ X.cell? ⟨w.heap.size + 1 + 1, 0, none⟩ = some (.int .u64 k) ∧ X.cell? ⟨w.heap.size + 1 + 1, 1, none⟩ = some (.int .i64 t) ∧ X.cell? ⟨w.heap.size + 1 + 1, 2, none⟩ = some (.int .i64 u) := fun X hX =>
    ⟨cellOf ((hX.block _ (hlt hT)).trans hT) 0, cellOf ((hX.block _ (hlt hB.b1)).trans hB.b1) 0, cellOf ((hX.block _ (hlt hB.p0)).trans hB.p0) 0, cellOf ((hX.block _ (hlt hB.b2)).trans hB.b2) 0, cellOf ((hX.block _ (hlt hB.b2)).trans hB.b2) 1, cellOf ((hX.block _ (hlt hB.b2)).trans hB.b2) 2⟩
  have hsx : ∀ X : World, Below V.heap.size V X → ∀ v : Value, (X.setCell ⟨w.heap.size + 1 + 1 + 1, 0, none⟩ v).cell? ⟨T, 0, none⟩ = some (.int .i64 (m : Int)) ∧ (X.setCell ⟨w.heap.size + 1 + 1 + 1, 0, none⟩ v).cell? ⟨w.heap.size + 1, 0, none⟩ = some (.int .i64 stop) ∧ (X.setCell ⟨w.heap.size + 1 + 1 + 1, 0, none⟩ v).cell? ⟨z, 0, none⟩ = some (.int .i64 (c : Int)) ∧ (X.setCell ⟨w.heap.size + 1 + 1 + 1, 0, none⟩ v).cell? ⟨w.heap.size + 1 + 1, 0, none⟩ = some (.int .u64 k) ∧ (X.setCell ⟨w.heap.size + 1 + 1 + 1, 0, none⟩ v).cell? ⟨w.heap.size + 1 + 1, 1, none⟩ = some (.int .i64 t) ∧ (X.setCell ⟨w.heap.size + 1 + 1 + 1, 0, none⟩ v).cell? ⟨w.heap.size + 1 + 1, 2, none⟩ = some (.int .i64 u) := fun X hX v =>
    ⟨cellOf (keep_blk ((hX.block _ (hlt hT)).trans hT) (by omega)) 0, cellOf (keep_blk ((hX.block _ (hlt hB.b1)).trans hB.b1) (by omega)) 0, cellOf (keep_blk ((hX.block _ (hlt hB.p0)).trans hB.p0) (by omega)) 0, cellOf (keep_blk ((hX.block _ (hlt hB.b2)).trans hB.b2) (by omega)) 0, cellOf (keep_blk ((hX.block _ (hlt hB.b2)).trans hB.b2) (by omega)) 1, cellOf (keep_blk ((hX.block _ (hlt hB.b2)).trans hB.b2) (by omega)) 2⟩
  obtain ⟨N, hN⟩ : ∃ N, N = 2 ^ c * c := ⟨_, rfl⟩
  have hN1 : N ≤ 10240 := by
    have h1 := pow_le hc
    have h2 : 2 ^ c * c ≤ 1024 * 10 := Nat.mul_le_mul h1 hc
    omega
  have hw : IntKind.i64.wrap ((c : Int) * 2 ^ c) = (N : Int) := by
    have e : ((c : Int) * 2 ^ c) = ((2 ^ c * c : Nat) : Int) := by push_cast; rw [Int.mul_comm]
    rw [e, ← hN]
    exact IntWalk.i64_in _ (by omega)
  rw [← hN] at hm hm1
  have hkp := fun (X : World) => keeps_any k t u i hk0 hk1 X
  rw [hb] at hkp
  have HKP := Lib.hid hkp
  have HSS := Lib.hid hss
  have HSX := Lib.hid hsx
  have HB := Lib.hid hB
  have HR := Lib.hid hR
  have HD1 := Lib.hid hD1
  have HD2 := Lib.hid hD2
  have HD := Lib.hid hd
  have bb : (b == b) = true := by simp
  have n1 : ¬ T = w.heap.size + 1 + 1 + 1 := by omega
  have n2 : ¬ z = w.heap.size + 1 + 1 + 1 := by omega
  have c0 : (0 : Int) ≤ (c : Int) := by omega
  have c1 : (c : Int) ≤ 10 := by omega
  clear hkp hss hsx hB hR hT hD1 hD2 hN hd hk0 hk1 hb
  by_cases hmN : m = N
  · have e1 : ((m : Int) == (N : Int)) = true := by simp; omega
    clear hm
    go_wp2_with fail
    refine wp_region_noPanic ?_
    refine wp_region_held_drew (S := (fun w' => w'.cell? ⟨T, 0, none⟩ = some (.int .i64 (m : Int)) ∧ w'.cell? ⟨w.heap.size + 1, 0, none⟩ = some (.int .i64 stop) ∧ w'.cell? ⟨z, 0, none⟩ = some (.int .i64 (c : Int)) ∧ w'.cell? ⟨w.heap.size + 1 + 1, 0, none⟩ = some (.int .u64 k) ∧ w'.cell? ⟨w.heap.size + 1 + 1, 1, none⟩ = some (.int .i64 t) ∧ w'.cell? ⟨w.heap.size + 1 + 1, 2, none⟩ = some (.int .i64 u))) (by kernel_rfl) ?_ (fun hHeld => ?_)
    · first | exact HSS.out _ HB2.out | exact HSS.out _ ((Below.refl _ V).drew) | exact HSX.out _ HB2.out _
    first | (refine wpAnyH_take (i := 0) (oi := ?o1) (v := ?v1) ?i1 (by kernel_rfl) (by kernel_rfl) (by kernel_rfl) ?q1 ?y1 (by assumption) ?r1; (case i1 => (simp only [List.getElem?_toArray, List.getElem?_cons_succ, List.getElem?_cons_zero]; rfl)); (case q1 => exact fun _ _ _ h => h); (case y1 => (refine Or.inl ⟨by rfl, ?_⟩; intro w hSw; (try dsimp only at hSw); go_simp; (try (with_reducible rfl))))) | (refine wpAnyH_take (i := 0) (oi := ?o2) (v := undef) ?i2 (by kernel_rfl) (by kernel_rfl) (by kernel_rfl) ?q2 ?y2 (by assumption) ?r2; (case i2 => (simp only [List.getElem?_toArray, List.getElem?_cons_succ, List.getElem?_cons_zero]; rfl)); (case q2 => exact fun _ _ _ h => h); (case y2 => exact Or.inr ⟨by rfl, rfl⟩))
    try simp only [Act.put, List.setIfInBounds_toArray, List.set_cons_zero, List.set_cons_succ]
    first | (refine wpAnyH_take (i := 1) (oi := ?o3) (v := ?v3) ?i3 (by kernel_rfl) (by kernel_rfl) (by kernel_rfl) ?q3 ?y3 (by assumption) ?r3; (case i3 => (simp only [List.getElem?_toArray, List.getElem?_cons_succ, List.getElem?_cons_zero]; rfl)); (case q3 => exact fun _ _ _ h => h); (case y3 => (refine Or.inl ⟨by rfl, ?_⟩; intro w hSw; (try dsimp only at hSw); go_simp; (try (with_reducible rfl))))) | (refine wpAnyH_take (i := 1) (oi := ?o4) (v := undef) ?i4 (by kernel_rfl) (by kernel_rfl) (by kernel_rfl) ?q4 ?y4 (by assumption) ?r4; (case i4 => (simp only [List.getElem?_toArray, List.getElem?_cons_succ, List.getElem?_cons_zero]; rfl)); (case q4 => exact fun _ _ _ h => h); (case y4 => exact Or.inr ⟨by rfl, rfl⟩))
    try simp only [Act.put, List.setIfInBounds_toArray, List.set_cons_zero, List.set_cons_succ]
    first | (refine wpAnyH_take (i := 2) (oi := ?o5) (v := ?v5) ?i5 (by kernel_rfl) (by kernel_rfl) (by kernel_rfl) ?q5 ?y5 (by assumption) ?r5; (case i5 => (simp only [List.getElem?_toArray, List.getElem?_cons_succ, List.getElem?_cons_zero]; rfl)); (case q5 => exact fun _ _ _ h => h); (case y5 => (refine Or.inl ⟨by rfl, ?_⟩; intro w hSw; (try dsimp only at hSw); go_simp; (try (with_reducible rfl))))) | (refine wpAnyH_take (i := 2) (oi := ?o6) (v := undef) ?i6 (by kernel_rfl) (by kernel_rfl) (by kernel_rfl) ?q6 ?y6 (by assumption) ?r6; (case i6 => (simp only [List.getElem?_toArray, List.getElem?_cons_succ, List.getElem?_cons_zero]; rfl)); (case q6 => exact fun _ _ _ h => h); (case y6 => exact Or.inr ⟨by rfl, rfl⟩))
    try simp only [Act.put, List.setIfInBounds_toArray, List.set_cons_zero, List.set_cons_succ]
    first | (refine wpAnyH_take (i := 3) (oi := ?o7) (v := ?v7) ?i7 (by kernel_rfl) (by kernel_rfl) (by kernel_rfl) ?q7 ?y7 (by assumption) ?r7; (case i7 => (simp only [List.getElem?_toArray, List.getElem?_cons_succ, List.getElem?_cons_zero]; rfl)); (case q7 => exact fun _ _ _ h => h); (case y7 => (refine Or.inl ⟨by rfl, ?_⟩; intro w hSw; (try dsimp only at hSw); go_simp; (try (with_reducible rfl))))) | (refine wpAnyH_take (i := 3) (oi := ?o8) (v := undef) ?i8 (by kernel_rfl) (by kernel_rfl) (by kernel_rfl) ?q8 ?y8 (by assumption) ?r8; (case i8 => (simp only [List.getElem?_toArray, List.getElem?_cons_succ, List.getElem?_cons_zero]; rfl)); (case q8 => exact fun _ _ _ h => h); (case y8 => exact Or.inr ⟨by rfl, rfl⟩))
    try simp only [Act.put, List.setIfInBounds_toArray, List.set_cons_zero, List.set_cons_succ]
    first | (refine wpAnyH_take (i := 4) (oi := ?o9) (v := ?v9) ?i9 (by kernel_rfl) (by kernel_rfl) (by kernel_rfl) ?q9 ?y9 (by assumption) ?r9; (case i9 => (simp only [List.getElem?_toArray, List.getElem?_cons_succ, List.getElem?_cons_zero]; rfl)); (case q9 => exact fun _ _ _ h => h); (case y9 => (refine Or.inl ⟨by rfl, ?_⟩; intro w hSw; (try dsimp only at hSw); go_simp; (try (with_reducible rfl))))) | (refine wpAnyH_take (i := 4) (oi := ?o10) (v := undef) ?i10 (by kernel_rfl) (by kernel_rfl) (by kernel_rfl) ?q10 ?y10 (by assumption) ?r10; (case i10 => (simp only [List.getElem?_toArray, List.getElem?_cons_succ, List.getElem?_cons_zero]; rfl)); (case q10 => exact fun _ _ _ h => h); (case y10 => exact Or.inr ⟨by rfl, rfl⟩))
    try simp only [Act.put, List.setIfInBounds_toArray, List.set_cons_zero, List.set_cons_succ]
    first | (refine wpAnyH_take (i := 5) (oi := ?o11) (v := ?v11) ?i11 (by kernel_rfl) (by kernel_rfl) (by kernel_rfl) ?q11 ?y11 (by assumption) ?r11; (case i11 => (simp only [List.getElem?_toArray, List.getElem?_cons_succ, List.getElem?_cons_zero]; rfl)); (case q11 => exact fun _ _ _ h => h); (case y11 => (refine Or.inl ⟨by rfl, ?_⟩; intro w hSw; (try dsimp only at hSw); go_simp; (try (with_reducible rfl))))) | (refine wpAnyH_take (i := 5) (oi := ?o12) (v := undef) ?i12 (by kernel_rfl) (by kernel_rfl) (by kernel_rfl) ?q12 ?y12 (by assumption) ?r12; (case i12 => (simp only [List.getElem?_toArray, List.getElem?_cons_succ, List.getElem?_cons_zero]; rfl)); (case q12 => exact fun _ _ _ h => h); (case y12 => exact Or.inr ⟨by rfl, rfl⟩))
    try simp only [Act.put, List.setIfInBounds_toArray, List.set_cons_zero, List.set_cons_succ]
    first | (refine wpAnyH_take (i := 6) (oi := ?o13) (v := ?v13) ?i13 (by kernel_rfl) (by kernel_rfl) (by kernel_rfl) ?q13 ?y13 (by assumption) ?r13; (case i13 => (simp only [List.getElem?_toArray, List.getElem?_cons_succ, List.getElem?_cons_zero]; rfl)); (case q13 => exact fun _ _ _ h => h); (case y13 => (refine Or.inl ⟨by rfl, ?_⟩; intro w hSw; (try dsimp only at hSw); go_simp; (try (with_reducible rfl))))) | (refine wpAnyH_take (i := 6) (oi := ?o14) (v := undef) ?i14 (by kernel_rfl) (by kernel_rfl) (by kernel_rfl) ?q14 ?y14 (by assumption) ?r14; (case i14 => (simp only [List.getElem?_toArray, List.getElem?_cons_succ, List.getElem?_cons_zero]; rfl)); (case q14 => exact fun _ _ _ h => h); (case y14 => exact Or.inr ⟨by rfl, rfl⟩))
    try simp only [Act.put, List.setIfInBounds_toArray, List.set_cons_zero, List.set_cons_succ]
    first | (refine wpAnyH_take (i := 7) (oi := ?o15) (v := ?v15) ?i15 (by kernel_rfl) (by kernel_rfl) (by kernel_rfl) ?q15 ?y15 (by assumption) ?r15; (case i15 => (simp only [List.getElem?_toArray, List.getElem?_cons_succ, List.getElem?_cons_zero]; rfl)); (case q15 => exact fun _ _ _ h => h); (case y15 => (refine Or.inl ⟨by rfl, ?_⟩; intro w hSw; (try dsimp only at hSw); go_simp; (try (with_reducible rfl))))) | (refine wpAnyH_take (i := 7) (oi := ?o16) (v := undef) ?i16 (by kernel_rfl) (by kernel_rfl) (by kernel_rfl) ?q16 ?y16 (by assumption) ?r16; (case i16 => (simp only [List.getElem?_toArray, List.getElem?_cons_succ, List.getElem?_cons_zero]; rfl)); (case q16 => exact fun _ _ _ h => h); (case y16 => exact Or.inr ⟨by rfl, rfl⟩))
    try simp only [Act.put, List.setIfInBounds_toArray, List.set_cons_zero, List.set_cons_succ]
    first | (refine wpAnyH_take (i := 8) (oi := ?o17) (v := ?v17) ?i17 (by kernel_rfl) (by kernel_rfl) (by kernel_rfl) ?q17 ?y17 (by assumption) ?r17; (case i17 => (simp only [List.getElem?_toArray, List.getElem?_cons_succ, List.getElem?_cons_zero]; rfl)); (case q17 => exact fun _ _ _ h => h); (case y17 => (refine Or.inl ⟨by rfl, ?_⟩; intro w hSw; (try dsimp only at hSw); go_simp; (try (with_reducible rfl))))) | (refine wpAnyH_take (i := 8) (oi := ?o18) (v := undef) ?i18 (by kernel_rfl) (by kernel_rfl) (by kernel_rfl) ?q18 ?y18 (by assumption) ?r18; (case i18 => (simp only [List.getElem?_toArray, List.getElem?_cons_succ, List.getElem?_cons_zero]; rfl)); (case q18 => exact fun _ _ _ h => h); (case y18 => exact Or.inr ⟨by rfl, rfl⟩))
    try simp only [Act.put, List.setIfInBounds_toArray, List.set_cons_zero, List.set_cons_succ]
    first | (refine wpAnyH_take (i := 9) (oi := ?o19) (v := ?v19) ?i19 (by kernel_rfl) (by kernel_rfl) (by kernel_rfl) ?q19 ?y19 (by assumption) ?r19; (case i19 => (simp only [List.getElem?_toArray, List.getElem?_cons_succ, List.getElem?_cons_zero]; rfl)); (case q19 => exact fun _ _ _ h => h); (case y19 => (refine Or.inl ⟨by rfl, ?_⟩; intro w hSw; (try dsimp only at hSw); go_simp; (try (with_reducible rfl))))) | (refine wpAnyH_take (i := 9) (oi := ?o20) (v := undef) ?i20 (by kernel_rfl) (by kernel_rfl) (by kernel_rfl) ?q20 ?y20 (by assumption) ?r20; (case i20 => (simp only [List.getElem?_toArray, List.getElem?_cons_succ, List.getElem?_cons_zero]; rfl)); (case q20 => exact fun _ _ _ h => h); (case y20 => exact Or.inr ⟨by rfl, rfl⟩))
    try simp only [Act.put, List.setIfInBounds_toArray, List.set_cons_zero, List.set_cons_succ]
    first | (refine wpAnyH_take (i := 10) (oi := ?o21) (v := ?v21) ?i21 (by kernel_rfl) (by kernel_rfl) (by kernel_rfl) ?q21 ?y21 (by assumption) ?r21; (case i21 => (simp only [List.getElem?_toArray, List.getElem?_cons_succ, List.getElem?_cons_zero]; rfl)); (case q21 => exact fun _ _ _ h => h); (case y21 => (refine Or.inl ⟨by rfl, ?_⟩; intro w hSw; (try dsimp only at hSw); go_simp; (try (with_reducible rfl))))) | (refine wpAnyH_take (i := 10) (oi := ?o22) (v := undef) ?i22 (by kernel_rfl) (by kernel_rfl) (by kernel_rfl) ?q22 ?y22 (by assumption) ?r22; (case i22 => (simp only [List.getElem?_toArray, List.getElem?_cons_succ, List.getElem?_cons_zero]; rfl)); (case q22 => exact fun _ _ _ h => h); (case y22 => exact Or.inr ⟨by rfl, rfl⟩))
    try simp only [Act.put, List.setIfInBounds_toArray, List.set_cons_zero, List.set_cons_succ]
    first | (refine wpAnyH_take (i := 11) (oi := ?o23) (v := ?v23) ?i23 (by kernel_rfl) (by kernel_rfl) (by kernel_rfl) ?q23 ?y23 (by assumption) ?r23; (case i23 => (simp only [List.getElem?_toArray, List.getElem?_cons_succ, List.getElem?_cons_zero]; rfl)); (case q23 => exact fun _ _ _ h => h); (case y23 => (refine Or.inl ⟨by rfl, ?_⟩; intro w hSw; (try dsimp only at hSw); go_simp; (try (with_reducible rfl))))) | (refine wpAnyH_take (i := 11) (oi := ?o24) (v := undef) ?i24 (by kernel_rfl) (by kernel_rfl) (by kernel_rfl) ?q24 ?y24 (by assumption) ?r24; (case i24 => (simp only [List.getElem?_toArray, List.getElem?_cons_succ, List.getElem?_cons_zero]; rfl)); (case q24 => exact fun _ _ _ h => h); (case y24 => exact Or.inr ⟨by rfl, rfl⟩))
    try simp only [Act.put, List.setIfInBounds_toArray, List.set_cons_zero, List.set_cons_succ]
    first | (refine wpAnyH_take (i := 12) (oi := ?o25) (v := ?v25) ?i25 (by kernel_rfl) (by kernel_rfl) (by kernel_rfl) ?q25 ?y25 (by assumption) ?r25; (case i25 => (simp only [List.getElem?_toArray, List.getElem?_cons_succ, List.getElem?_cons_zero]; rfl)); (case q25 => exact fun _ _ _ h => h); (case y25 => (refine Or.inl ⟨by rfl, ?_⟩; intro w hSw; (try dsimp only at hSw); go_simp; (try (with_reducible rfl))))) | (refine wpAnyH_take (i := 12) (oi := ?o26) (v := undef) ?i26 (by kernel_rfl) (by kernel_rfl) (by kernel_rfl) ?q26 ?y26 (by assumption) ?r26; (case i26 => (simp only [List.getElem?_toArray, List.getElem?_cons_succ, List.getElem?_cons_zero]; rfl)); (case q26 => exact fun _ _ _ h => h); (case y26 => exact Or.inr ⟨by rfl, rfl⟩))
    try simp only [Act.put, List.setIfInBounds_toArray, List.set_cons_zero, List.set_cons_succ]
    first | (refine wpAnyH_take (i := 14) (oi := ?o27) (v := ?v27) ?i27 (by kernel_rfl) (by kernel_rfl) (by kernel_rfl) ?q27 ?y27 (by assumption) ?r27; (case i27 => (simp only [List.getElem?_toArray, List.getElem?_cons_succ, List.getElem?_cons_zero]; rfl)); (case q27 => exact fun _ _ _ h => h); (case y27 => (refine Or.inl ⟨by rfl, ?_⟩; intro w hSw; (try dsimp only at hSw); go_simp; (try (with_reducible rfl))))) | (refine wpAnyH_take (i := 14) (oi := ?o28) (v := undef) ?i28 (by kernel_rfl) (by kernel_rfl) (by kernel_rfl) ?q28 ?y28 (by assumption) ?r28; (case i28 => (simp only [List.getElem?_toArray, List.getElem?_cons_succ, List.getElem?_cons_zero]; rfl)); (case q28 => exact fun _ _ _ h => h); (case y28 => exact Or.inr ⟨by rfl, rfl⟩))
    try simp only [Act.put, List.setIfInBounds_toArray, List.set_cons_zero, List.set_cons_succ]
    refine wpAnyH_ready (rs := [13]) (by kernel_rfl) (by simp) ?_
    refine AllReadyH.cons (by (simp only [List.getElem?_toArray, List.getElem?_cons_succ, List.getElem?_cons_zero]; rfl)) (fun K hK => ?_) AllReadyH.nil
    go_simp
    (go_at_call 24; refine (HKP.out _).mono ?_; rintro e w3 ⟨rfl, hb⟩; have HB2 := Lib.hid ((Below.refl V.heap.size V).drew.trans hb); have hx := (HB2.out.block _ (hlt HR.out)).trans HR.out; have r3 : w3.cell? ⟨w.heap.size + 1 + 1 + 1, 0, none⟩ = some (.bool false) := cellOf hx 0; have g3 := frozenOf hx 0; have HX := Lib.hid hx; obtain ⟨j1, j2, j3, j4, j5, j6⟩ := HSS.out _ HB2.out; clear hb hx)
    (try dsimp only)
    refine hK.out _ _ ?_ (fun hHeld => ?_)
    · first | exact HSS.out _ HB2.out | exact HSS.out _ ((Below.refl _ V).drew) | exact HSX.out _ HB2.out _
    clear hK K
    try simp only [Act.put, List.setIfInBounds_toArray, List.set_cons_zero, List.set_cons_succ]
    first | (refine wpAnyH_take (i := 15) (oi := ?o29) (v := ?v29) ?i29 (by kernel_rfl) (by kernel_rfl) (by kernel_rfl) ?q29 ?y29 (by assumption) ?r29; (case i29 => (simp only [List.getElem?_toArray, List.getElem?_cons_succ, List.getElem?_cons_zero]; rfl)); (case q29 => exact fun _ _ _ h => h); (case y29 => (refine Or.inl ⟨by rfl, ?_⟩; intro w hSw; (try dsimp only at hSw); go_simp; (try (with_reducible rfl))))) | (refine wpAnyH_take (i := 15) (oi := ?o30) (v := undef) ?i30 (by kernel_rfl) (by kernel_rfl) (by kernel_rfl) ?q30 ?y30 (by assumption) ?r30; (case i30 => (simp only [List.getElem?_toArray, List.getElem?_cons_succ, List.getElem?_cons_zero]; rfl)); (case q30 => exact fun _ _ _ h => h); (case y30 => exact Or.inr ⟨by rfl, rfl⟩))
    try simp only [Act.put, List.setIfInBounds_toArray, List.set_cons_zero, List.set_cons_succ]
    first | (refine wpAnyH_take (i := 16) (oi := ?o31) (v := ?v31) ?i31 (by kernel_rfl) (by kernel_rfl) (by kernel_rfl) ?q31 ?y31 (by assumption) ?r31; (case i31 => (simp only [List.getElem?_toArray, List.getElem?_cons_succ, List.getElem?_cons_zero]; rfl)); (case q31 => exact fun _ _ _ h => h); (case y31 => (refine Or.inl ⟨by rfl, ?_⟩; intro w hSw; (try dsimp only at hSw); go_simp; (try (with_reducible rfl))))) | (refine wpAnyH_take (i := 16) (oi := ?o32) (v := undef) ?i32 (by kernel_rfl) (by kernel_rfl) (by kernel_rfl) ?q32 ?y32 (by assumption) ?r32; (case i32 => (simp only [List.getElem?_toArray, List.getElem?_cons_succ, List.getElem?_cons_zero]; rfl)); (case q32 => exact fun _ _ _ h => h); (case y32 => exact Or.inr ⟨by rfl, rfl⟩))
    try simp only [Act.put, List.setIfInBounds_toArray, List.set_cons_zero, List.set_cons_succ]
    refine wpAnyH_ready (rs := [17]) (by kernel_rfl) (by simp) ?_
    refine AllReadyH.cons (by (simp only [List.getElem?_toArray, List.getElem?_cons_succ, List.getElem?_cons_zero]; rfl)) (fun K hK => ?_) AllReadyH.nil
    go_simp
    (try dsimp only)
    refine hK.out _ _ ?_ (fun hHeld => ?_)
    · first | exact HSS.out _ HB2.out | exact HSS.out _ ((Below.refl _ V).drew) | exact HSX.out _ HB2.out _
    clear hK K
    try simp only [Act.put, List.setIfInBounds_toArray, List.set_cons_zero, List.set_cons_succ]
    refine wpAnyH_done (by kernel_rfl) ?_ _
    refine NoPanic.normal ?_
    go_wp2
    rw [HPO.out]
    exact end_true HB.out HB2.out HX.out HD1.out HD2.out HD.out hd1 hd2 rfl
  · have e1 : ((m : Int) == (N : Int)) = false := by simp; omega
    have e2 : ((m : Int) == stop) = true := by simp; omega
    clear hm hmN
    go_wp2_with fail
    refine wp_region_noPanic ?_
    refine wp_region_held_drew (S := (fun w' => w'.cell? ⟨T, 0, none⟩ = some (.int .i64 (m : Int)) ∧ w'.cell? ⟨w.heap.size + 1, 0, none⟩ = some (.int .i64 stop) ∧ w'.cell? ⟨z, 0, none⟩ = some (.int .i64 (c : Int)) ∧ w'.cell? ⟨w.heap.size + 1 + 1, 0, none⟩ = some (.int .u64 k) ∧ w'.cell? ⟨w.heap.size + 1 + 1, 1, none⟩ = some (.int .i64 t) ∧ w'.cell? ⟨w.heap.size + 1 + 1, 2, none⟩ = some (.int .i64 u))) (by kernel_rfl) ?_ (fun hHeld => ?_)
    · first | exact HSS.out _ HB2.out | exact HSS.out _ ((Below.refl _ V).drew) | exact HSX.out _ HB2.out _
    first | (refine wpAnyH_take (i := 0) (oi := ?o33) (v := ?v33) ?i33 (by kernel_rfl) (by kernel_rfl) (by kernel_rfl) ?q33 ?y33 (by assumption) ?r33; (case i33 => (simp only [List.getElem?_toArray, List.getElem?_cons_succ, List.getElem?_cons_zero]; rfl)); (case q33 => exact fun _ _ _ h => h); (case y33 => (refine Or.inl ⟨by rfl, ?_⟩; intro w hSw; (try dsimp only at hSw); go_simp; (try (with_reducible rfl))))) | (refine wpAnyH_take (i := 0) (oi := ?o34) (v := undef) ?i34 (by kernel_rfl) (by kernel_rfl) (by kernel_rfl) ?q34 ?y34 (by assumption) ?r34; (case i34 => (simp only [List.getElem?_toArray, List.getElem?_cons_succ, List.getElem?_cons_zero]; rfl)); (case q34 => exact fun _ _ _ h => h); (case y34 => exact Or.inr ⟨by rfl, rfl⟩))
    try simp only [Act.put, List.setIfInBounds_toArray, List.set_cons_zero, List.set_cons_succ]
    first | (refine wpAnyH_take (i := 1) (oi := ?o35) (v := ?v35) ?i35 (by kernel_rfl) (by kernel_rfl) (by kernel_rfl) ?q35 ?y35 (by assumption) ?r35; (case i35 => (simp only [List.getElem?_toArray, List.getElem?_cons_succ, List.getElem?_cons_zero]; rfl)); (case q35 => exact fun _ _ _ h => h); (case y35 => (refine Or.inl ⟨by rfl, ?_⟩; intro w hSw; (try dsimp only at hSw); go_simp; (try (with_reducible rfl))))) | (refine wpAnyH_take (i := 1) (oi := ?o36) (v := undef) ?i36 (by kernel_rfl) (by kernel_rfl) (by kernel_rfl) ?q36 ?y36 (by assumption) ?r36; (case i36 => (simp only [List.getElem?_toArray, List.getElem?_cons_succ, List.getElem?_cons_zero]; rfl)); (case q36 => exact fun _ _ _ h => h); (case y36 => exact Or.inr ⟨by rfl, rfl⟩))
    try simp only [Act.put, List.setIfInBounds_toArray, List.set_cons_zero, List.set_cons_succ]
    first | (refine wpAnyH_take (i := 2) (oi := ?o37) (v := ?v37) ?i37 (by kernel_rfl) (by kernel_rfl) (by kernel_rfl) ?q37 ?y37 (by assumption) ?r37; (case i37 => (simp only [List.getElem?_toArray, List.getElem?_cons_succ, List.getElem?_cons_zero]; rfl)); (case q37 => exact fun _ _ _ h => h); (case y37 => (refine Or.inl ⟨by rfl, ?_⟩; intro w hSw; (try dsimp only at hSw); go_simp; (try (with_reducible rfl))))) | (refine wpAnyH_take (i := 2) (oi := ?o38) (v := undef) ?i38 (by kernel_rfl) (by kernel_rfl) (by kernel_rfl) ?q38 ?y38 (by assumption) ?r38; (case i38 => (simp only [List.getElem?_toArray, List.getElem?_cons_succ, List.getElem?_cons_zero]; rfl)); (case q38 => exact fun _ _ _ h => h); (case y38 => exact Or.inr ⟨by rfl, rfl⟩))
    try simp only [Act.put, List.setIfInBounds_toArray, List.set_cons_zero, List.set_cons_succ]
    first | (refine wpAnyH_take (i := 3) (oi := ?o39) (v := ?v39) ?i39 (by kernel_rfl) (by kernel_rfl) (by kernel_rfl) ?q39 ?y39 (by assumption) ?r39; (case i39 => (simp only [List.getElem?_toArray, List.getElem?_cons_succ, List.getElem?_cons_zero]; rfl)); (case q39 => exact fun _ _ _ h => h); (case y39 => (refine Or.inl ⟨by rfl, ?_⟩; intro w hSw; (try dsimp only at hSw); go_simp; (try (with_reducible rfl))))) | (refine wpAnyH_take (i := 3) (oi := ?o40) (v := undef) ?i40 (by kernel_rfl) (by kernel_rfl) (by kernel_rfl) ?q40 ?y40 (by assumption) ?r40; (case i40 => (simp only [List.getElem?_toArray, List.getElem?_cons_succ, List.getElem?_cons_zero]; rfl)); (case q40 => exact fun _ _ _ h => h); (case y40 => exact Or.inr ⟨by rfl, rfl⟩))
    try simp only [Act.put, List.setIfInBounds_toArray, List.set_cons_zero, List.set_cons_succ]
    first | (refine wpAnyH_take (i := 4) (oi := ?o41) (v := ?v41) ?i41 (by kernel_rfl) (by kernel_rfl) (by kernel_rfl) ?q41 ?y41 (by assumption) ?r41; (case i41 => (simp only [List.getElem?_toArray, List.getElem?_cons_succ, List.getElem?_cons_zero]; rfl)); (case q41 => exact fun _ _ _ h => h); (case y41 => (refine Or.inl ⟨by rfl, ?_⟩; intro w hSw; (try dsimp only at hSw); go_simp; (try (with_reducible rfl))))) | (refine wpAnyH_take (i := 4) (oi := ?o42) (v := undef) ?i42 (by kernel_rfl) (by kernel_rfl) (by kernel_rfl) ?q42 ?y42 (by assumption) ?r42; (case i42 => (simp only [List.getElem?_toArray, List.getElem?_cons_succ, List.getElem?_cons_zero]; rfl)); (case q42 => exact fun _ _ _ h => h); (case y42 => exact Or.inr ⟨by rfl, rfl⟩))
    try simp only [Act.put, List.setIfInBounds_toArray, List.set_cons_zero, List.set_cons_succ]
    first | (refine wpAnyH_take (i := 5) (oi := ?o43) (v := ?v43) ?i43 (by kernel_rfl) (by kernel_rfl) (by kernel_rfl) ?q43 ?y43 (by assumption) ?r43; (case i43 => (simp only [List.getElem?_toArray, List.getElem?_cons_succ, List.getElem?_cons_zero]; rfl)); (case q43 => exact fun _ _ _ h => h); (case y43 => (refine Or.inl ⟨by rfl, ?_⟩; intro w hSw; (try dsimp only at hSw); go_simp; (try (with_reducible rfl))))) | (refine wpAnyH_take (i := 5) (oi := ?o44) (v := undef) ?i44 (by kernel_rfl) (by kernel_rfl) (by kernel_rfl) ?q44 ?y44 (by assumption) ?r44; (case i44 => (simp only [List.getElem?_toArray, List.getElem?_cons_succ, List.getElem?_cons_zero]; rfl)); (case q44 => exact fun _ _ _ h => h); (case y44 => exact Or.inr ⟨by rfl, rfl⟩))
    try simp only [Act.put, List.setIfInBounds_toArray, List.set_cons_zero, List.set_cons_succ]
    first | (refine wpAnyH_take (i := 6) (oi := ?o45) (v := ?v45) ?i45 (by kernel_rfl) (by kernel_rfl) (by kernel_rfl) ?q45 ?y45 (by assumption) ?r45; (case i45 => (simp only [List.getElem?_toArray, List.getElem?_cons_succ, List.getElem?_cons_zero]; rfl)); (case q45 => exact fun _ _ _ h => h); (case y45 => (refine Or.inl ⟨by rfl, ?_⟩; intro w hSw; (try dsimp only at hSw); go_simp; (try (with_reducible rfl))))) | (refine wpAnyH_take (i := 6) (oi := ?o46) (v := undef) ?i46 (by kernel_rfl) (by kernel_rfl) (by kernel_rfl) ?q46 ?y46 (by assumption) ?r46; (case i46 => (simp only [List.getElem?_toArray, List.getElem?_cons_succ, List.getElem?_cons_zero]; rfl)); (case q46 => exact fun _ _ _ h => h); (case y46 => exact Or.inr ⟨by rfl, rfl⟩))
    try simp only [Act.put, List.setIfInBounds_toArray, List.set_cons_zero, List.set_cons_succ]
    first | (refine wpAnyH_take (i := 7) (oi := ?o47) (v := ?v47) ?i47 (by kernel_rfl) (by kernel_rfl) (by kernel_rfl) ?q47 ?y47 (by assumption) ?r47; (case i47 => (simp only [List.getElem?_toArray, List.getElem?_cons_succ, List.getElem?_cons_zero]; rfl)); (case q47 => exact fun _ _ _ h => h); (case y47 => (refine Or.inl ⟨by rfl, ?_⟩; intro w hSw; (try dsimp only at hSw); go_simp; (try (with_reducible rfl))))) | (refine wpAnyH_take (i := 7) (oi := ?o48) (v := undef) ?i48 (by kernel_rfl) (by kernel_rfl) (by kernel_rfl) ?q48 ?y48 (by assumption) ?r48; (case i48 => (simp only [List.getElem?_toArray, List.getElem?_cons_succ, List.getElem?_cons_zero]; rfl)); (case q48 => exact fun _ _ _ h => h); (case y48 => exact Or.inr ⟨by rfl, rfl⟩))
    try simp only [Act.put, List.setIfInBounds_toArray, List.set_cons_zero, List.set_cons_succ]
    first | (refine wpAnyH_take (i := 8) (oi := ?o49) (v := ?v49) ?i49 (by kernel_rfl) (by kernel_rfl) (by kernel_rfl) ?q49 ?y49 (by assumption) ?r49; (case i49 => (simp only [List.getElem?_toArray, List.getElem?_cons_succ, List.getElem?_cons_zero]; rfl)); (case q49 => exact fun _ _ _ h => h); (case y49 => (refine Or.inl ⟨by rfl, ?_⟩; intro w hSw; (try dsimp only at hSw); go_simp; (try (with_reducible rfl))))) | (refine wpAnyH_take (i := 8) (oi := ?o50) (v := undef) ?i50 (by kernel_rfl) (by kernel_rfl) (by kernel_rfl) ?q50 ?y50 (by assumption) ?r50; (case i50 => (simp only [List.getElem?_toArray, List.getElem?_cons_succ, List.getElem?_cons_zero]; rfl)); (case q50 => exact fun _ _ _ h => h); (case y50 => exact Or.inr ⟨by rfl, rfl⟩))
    try simp only [Act.put, List.setIfInBounds_toArray, List.set_cons_zero, List.set_cons_succ]
    first | (refine wpAnyH_take (i := 9) (oi := ?o51) (v := ?v51) ?i51 (by kernel_rfl) (by kernel_rfl) (by kernel_rfl) ?q51 ?y51 (by assumption) ?r51; (case i51 => (simp only [List.getElem?_toArray, List.getElem?_cons_succ, List.getElem?_cons_zero]; rfl)); (case q51 => exact fun _ _ _ h => h); (case y51 => (refine Or.inl ⟨by rfl, ?_⟩; intro w hSw; (try dsimp only at hSw); go_simp; (try (with_reducible rfl))))) | (refine wpAnyH_take (i := 9) (oi := ?o52) (v := undef) ?i52 (by kernel_rfl) (by kernel_rfl) (by kernel_rfl) ?q52 ?y52 (by assumption) ?r52; (case i52 => (simp only [List.getElem?_toArray, List.getElem?_cons_succ, List.getElem?_cons_zero]; rfl)); (case q52 => exact fun _ _ _ h => h); (case y52 => exact Or.inr ⟨by rfl, rfl⟩))
    try simp only [Act.put, List.setIfInBounds_toArray, List.set_cons_zero, List.set_cons_succ]
    first | (refine wpAnyH_take (i := 10) (oi := ?o53) (v := ?v53) ?i53 (by kernel_rfl) (by kernel_rfl) (by kernel_rfl) ?q53 ?y53 (by assumption) ?r53; (case i53 => (simp only [List.getElem?_toArray, List.getElem?_cons_succ, List.getElem?_cons_zero]; rfl)); (case q53 => exact fun _ _ _ h => h); (case y53 => (refine Or.inl ⟨by rfl, ?_⟩; intro w hSw; (try dsimp only at hSw); go_simp; (try (with_reducible rfl))))) | (refine wpAnyH_take (i := 10) (oi := ?o54) (v := undef) ?i54 (by kernel_rfl) (by kernel_rfl) (by kernel_rfl) ?q54 ?y54 (by assumption) ?r54; (case i54 => (simp only [List.getElem?_toArray, List.getElem?_cons_succ, List.getElem?_cons_zero]; rfl)); (case q54 => exact fun _ _ _ h => h); (case y54 => exact Or.inr ⟨by rfl, rfl⟩))
    try simp only [Act.put, List.setIfInBounds_toArray, List.set_cons_zero, List.set_cons_succ]
    first | (refine wpAnyH_take (i := 11) (oi := ?o55) (v := ?v55) ?i55 (by kernel_rfl) (by kernel_rfl) (by kernel_rfl) ?q55 ?y55 (by assumption) ?r55; (case i55 => (simp only [List.getElem?_toArray, List.getElem?_cons_succ, List.getElem?_cons_zero]; rfl)); (case q55 => exact fun _ _ _ h => h); (case y55 => (refine Or.inl ⟨by rfl, ?_⟩; intro w hSw; (try dsimp only at hSw); go_simp; (try (with_reducible rfl))))) | (refine wpAnyH_take (i := 11) (oi := ?o56) (v := undef) ?i56 (by kernel_rfl) (by kernel_rfl) (by kernel_rfl) ?q56 ?y56 (by assumption) ?r56; (case i56 => (simp only [List.getElem?_toArray, List.getElem?_cons_succ, List.getElem?_cons_zero]; rfl)); (case q56 => exact fun _ _ _ h => h); (case y56 => exact Or.inr ⟨by rfl, rfl⟩))
    try simp only [Act.put, List.setIfInBounds_toArray, List.set_cons_zero, List.set_cons_succ]
    first | (refine wpAnyH_take (i := 12) (oi := ?o57) (v := ?v57) ?i57 (by kernel_rfl) (by kernel_rfl) (by kernel_rfl) ?q57 ?y57 (by assumption) ?r57; (case i57 => (simp only [List.getElem?_toArray, List.getElem?_cons_succ, List.getElem?_cons_zero]; rfl)); (case q57 => exact fun _ _ _ h => h); (case y57 => (refine Or.inl ⟨by rfl, ?_⟩; intro w hSw; (try dsimp only at hSw); go_simp; (try (with_reducible rfl))))) | (refine wpAnyH_take (i := 12) (oi := ?o58) (v := undef) ?i58 (by kernel_rfl) (by kernel_rfl) (by kernel_rfl) ?q58 ?y58 (by assumption) ?r58; (case i58 => (simp only [List.getElem?_toArray, List.getElem?_cons_succ, List.getElem?_cons_zero]; rfl)); (case q58 => exact fun _ _ _ h => h); (case y58 => exact Or.inr ⟨by rfl, rfl⟩))
    try simp only [Act.put, List.setIfInBounds_toArray, List.set_cons_zero, List.set_cons_succ]
    first | (refine wpAnyH_take (i := 14) (oi := ?o59) (v := ?v59) ?i59 (by kernel_rfl) (by kernel_rfl) (by kernel_rfl) ?q59 ?y59 (by assumption) ?r59; (case i59 => (simp only [List.getElem?_toArray, List.getElem?_cons_succ, List.getElem?_cons_zero]; rfl)); (case q59 => exact fun _ _ _ h => h); (case y59 => (refine Or.inl ⟨by rfl, ?_⟩; intro w hSw; (try dsimp only at hSw); go_simp; (try (with_reducible rfl))))) | (refine wpAnyH_take (i := 14) (oi := ?o60) (v := undef) ?i60 (by kernel_rfl) (by kernel_rfl) (by kernel_rfl) ?q60 ?y60 (by assumption) ?r60; (case i60 => (simp only [List.getElem?_toArray, List.getElem?_cons_succ, List.getElem?_cons_zero]; rfl)); (case q60 => exact fun _ _ _ h => h); (case y60 => exact Or.inr ⟨by rfl, rfl⟩))
    try simp only [Act.put, List.setIfInBounds_toArray, List.set_cons_zero, List.set_cons_succ]
    refine wpAnyH_ready (rs := [13]) (by kernel_rfl) (by simp) ?_
    refine AllReadyH.cons (by (simp only [List.getElem?_toArray, List.getElem?_cons_succ, List.getElem?_cons_zero]; rfl)) (fun K hK => ?_) AllReadyH.nil
    go_simp
    (go_at_call 24; refine (HKP.out _).mono ?_; rintro e w3 ⟨rfl, hb⟩; have HB2 := Lib.hid ((Below.refl V.heap.size V).drew.trans hb); have hx := (HB2.out.block _ (hlt HR.out)).trans HR.out; have r3 : w3.cell? ⟨w.heap.size + 1 + 1 + 1, 0, none⟩ = some (.bool false) := cellOf hx 0; have g3 := frozenOf hx 0; have HX := Lib.hid hx; obtain ⟨j1, j2, j3, j4, j5, j6⟩ := HSS.out _ HB2.out; clear hb hx)
    (try dsimp only)
    refine hK.out _ _ ?_ (fun hHeld => ?_)
    · first | exact HSS.out _ HB2.out | exact HSS.out _ ((Below.refl _ V).drew) | exact HSX.out _ HB2.out _
    clear hK K
    try simp only [Act.put, List.setIfInBounds_toArray, List.set_cons_zero, List.set_cons_succ]
    first | (refine wpAnyH_take (i := 15) (oi := ?o61) (v := ?v61) ?i61 (by kernel_rfl) (by kernel_rfl) (by kernel_rfl) ?q61 ?y61 (by assumption) ?r61; (case i61 => (simp only [List.getElem?_toArray, List.getElem?_cons_succ, List.getElem?_cons_zero]; rfl)); (case q61 => exact fun _ _ _ h => h); (case y61 => (refine Or.inl ⟨by rfl, ?_⟩; intro w hSw; (try dsimp only at hSw); go_simp; (try (with_reducible rfl))))) | (refine wpAnyH_take (i := 15) (oi := ?o62) (v := undef) ?i62 (by kernel_rfl) (by kernel_rfl) (by kernel_rfl) ?q62 ?y62 (by assumption) ?r62; (case i62 => (simp only [List.getElem?_toArray, List.getElem?_cons_succ, List.getElem?_cons_zero]; rfl)); (case q62 => exact fun _ _ _ h => h); (case y62 => exact Or.inr ⟨by rfl, rfl⟩))
    try simp only [Act.put, List.setIfInBounds_toArray, List.set_cons_zero, List.set_cons_succ]
    first | (refine wpAnyH_take (i := 16) (oi := ?o63) (v := ?v63) ?i63 (by kernel_rfl) (by kernel_rfl) (by kernel_rfl) ?q63 ?y63 (by assumption) ?r63; (case i63 => (simp only [List.getElem?_toArray, List.getElem?_cons_succ, List.getElem?_cons_zero]; rfl)); (case q63 => exact fun _ _ _ h => h); (case y63 => (refine Or.inl ⟨by rfl, ?_⟩; intro w hSw; (try dsimp only at hSw); go_simp; (try (with_reducible rfl))))) | (refine wpAnyH_take (i := 16) (oi := ?o64) (v := undef) ?i64 (by kernel_rfl) (by kernel_rfl) (by kernel_rfl) ?q64 ?y64 (by assumption) ?r64; (case i64 => (simp only [List.getElem?_toArray, List.getElem?_cons_succ, List.getElem?_cons_zero]; rfl)); (case q64 => exact fun _ _ _ h => h); (case y64 => exact Or.inr ⟨by rfl, rfl⟩))
    try simp only [Act.put, List.setIfInBounds_toArray, List.set_cons_zero, List.set_cons_succ]
    refine wpAnyH_ready (rs := [17]) (by kernel_rfl) (by simp) ?_
    refine AllReadyH.cons (by (simp only [List.getElem?_toArray, List.getElem?_cons_succ, List.getElem?_cons_zero]; rfl)) (fun K hK => ?_) AllReadyH.nil
    go_simp
    (try dsimp only)
    refine hK.out _ _ ?_ (fun hHeld => ?_)
    · first | exact HSS.out _ HB2.out | exact HSS.out _ ((Below.refl _ V).drew) | exact HSX.out _ HB2.out _
    clear hK K
    try simp only [Act.put, List.setIfInBounds_toArray, List.set_cons_zero, List.set_cons_succ]
    refine wpAnyH_done (by kernel_rfl) ?_ _
    refine NoPanic.normal ?_
    go_wp2
    rw [HPO.out]
    exact end_true HB.out HB2.out HX.out HD1.out HD2.out HD.out hd1 hd2 rfl
set_option maxRecDepth 100000 in
set_option maxHeartbeats 8000000 in
theorem rest3_ok (v0 v1 v2 v4 v5 v8 v12 v13 v14 v16 v17 v18 v19 v20 v21 v22 v23 v24 v25 v26 v27 v28 v29 v30 v31 v32 v33 v34 v35 v36 v37 v38 v39 v40 v41 v42 v43 v44 v45 v46 v47 v48 v49 v50 v51 v52 v53 v54 v55 v56 v57 v58 v59 v60 v61 v62 v63 v64 v65 v66 v67 v68 v69 v70 v71 v72 v73 v74 v75 v76 v77 v78 v79 v80 v81 v82 v83 v84 v85 v86 v87 v88 v89 v90 v91 v92 v93 v94 v95 v96 v97 v98 v99 v100 v101 v102 v103 v104 v105 v106 v107 v108 v109 v110 v111 v112 v113 v114 v115 : Value) (w V : World) (s z T D1 D2 c m : Nat) (cut stop i k t u : Int) (hc : c ≤ 10) (hk0 : 0 ≤ k) (hk1 : k < 18446744073709551616) (hs : s = w.heap.size) (hz : s + 1 + 1 + 1 < z) (hzT : z < T) (hB : Base w z cut stop k t u c V) (hR : V.heap[s + 1 + 1 + 1]? = some (.cells #[.bool false] 4 (0, 0))) (hT : V.heap[T]? = some (.cells #[.int .i64 (m : Int)] TI (0, 0)))
    (hm : m = 2 ^ c * c ∨ (m : Int) = stop) (hm1 : m ≤ 2 ^ c * c) (hD1 : V.heap[D1]? = some (.deferred (some []))) (hD2 : V.heap[D2]? = some (.deferred (some []))) (hd1 : s ≤ D1) (hd2 : s ≤ D2) (hd : D1 ≠ D2) (PO : Exit → Act → World → Prop) (hPO : PO = (bodyPostM Fence.wide 20 Try.prog Try.f4 fun e w' => e = .returned (.bool true) ∧ Below w.heap.size w w')) :
    (sndC (sndC (sndC (sndC (sndC (sndC (sndC (sndC ((Try.f4.body.getD .skip)))))))))).wpIn Fence.wide 20 Try.prog PO { tmps := #[v0, v1, v2, .int .i64 i, v4, v5, .pointer (some ⟨s, 0, none⟩), .pointer (some ⟨s + 1, 0, none⟩), v8, .pointer (some ⟨s + 1 + 1, 0, none⟩), .pointer (some ⟨s + 1 + 1 + 1, 0, none⟩), .pointer (some ⟨z, 0, none⟩), v12, v13, v14, .pointer (some ⟨T, 0, none⟩), v16, v17, v18, v19, v20, v21, v22, v23, v24, v25, v26, v27, v28, v29, v30, v31, v32, v33, v34, v35, v36, v37, v38, v39, v40, v41, v42, v43, v44, v45, v46, v47, v48, v49, v50, v51, v52, v53, v54, v55, v56, v57, v58, v59, v60, v61, v62, v63, v64, v65, v66, v67, v68, v69, v70, v71, v72, v73, v74, v75, v76, v77, v78, v79, v80, v81, v82, v83, v84, v85, v86, v87, v88, v89, v90, v91, v92, v93, v94, v95, v96, v97, v98, v99, v100, v101, v102, v103, v104, v105, v106, v107, v108, v109, v110, v111, v112, v113, v114, v115], defers := [{ target := .collected D2, args := #[] }, { target := .collected D1, args := #[] }] } V := by
  have HF := fun (v0 v1 v2 v4 v5 v8 v12 v13 v14 v16 v18 v19 v20 v21 v22 v23 v24 v25 v26 v27 v28 v29 v30 v31 v32 v33 v34 v35 v36 v37 v38 v39 v40 v41 v42 v43 v44 v45 v46 v47 v48 v49 v50 v51 v52 v53 v54 v55 v56 v57 v58 v59 v60 v61 v62 v63 v64 v65 v66 v67 v68 v69 v70 v71 v72 v73 v74 v75 v76 v77 v78 v79 v80 v81 v82 v83 v84 v85 v86 v87 v88 v89 v90 v91 v92 v93 v94 v95 v96 v97 v98 v99 v100 v101 v102 v103 v104 v105 v106 v107 v108 v109 v110 v111 v112 v113 v114 v115 : Value) (b : Bool) (hb : keepsV k t i = b) => rest4_ok v0 v1 v2 v4 v5 v8 v12 v13 v14 v16 v18 v19 v20 v21 v22 v23 v24 v25 v26 v27 v28 v29 v30 v31 v32 v33 v34 v35 v36 v37 v38 v39 v40 v41 v42 v43 v44 v45 v46 v47 v48 v49 v50 v51 v52 v53 v54 v55 v56 v57 v58 v59 v60 v61 v62 v63 v64 v65 v66 v67 v68 v69 v70 v71 v72 v73 v74 v75 v76 v77 v78 v79 v80 v81 v82 v83 v84 v85 v86 v87 v88 v89 v90 v91 v92 v93 v94 v95 v96 v97 v98 v99 v100 v101 v102 v103 v104 v105 v106 v107 v108 v109 v110 v111 v112 v113 v114 v115 b w V s z T D1 D2 c m cut stop i k t u hc hk0 hk1 hs hz hzT hB hR hT hm hm1 hD1 hD2 hd1 hd2 hd hb PO hPO
  simp only [Try.f4, Option.getD_some, sndC, fstC] at HF ⊢
  have HFH := Lib.hid HF
  subst hs
  have k4 : V.cell? ⟨w.heap.size + 1 + 1, 0, none⟩ = some (.int .u64 k) := cellOf hB.b2 0
  have k5 : V.cell? ⟨w.heap.size + 1 + 1, 1, none⟩ = some (.int .i64 t) := cellOf hB.b2 1
  have HK := Lib.hid (And.intro hk0 hk1)
  clear hPO HF hB hR hT hm hm1 hD1 hD2 hd1 hd2 hd hz hzT hk0 hk1 hc
  refine wpIn_wide.2 ?_
  by_cases h0 : 0 ≤ i
  · by_cases h1 : i < 64
    · by_cases h2 : i = t
      · have hv : keepsV k t i = false := by unfold keepsV; rw [decide_eq_false (by omega)]; rfl
        have HV := Lib.hid hv
        subst h2
        clear hv
        go_upto_region 22 with (fail)
        exact Code.wp_mono (then_imp (by assumption)) (HFH.out _ _ _ _ _ _ _ _ _ _ _ _ _ _ _ _ _ _ _ _ _ _ _ _ _ _ _ _ _ _ _ _ _ _ _ _ _ _ _ _ _ _ _ _ _ _ _ _ _ _ _ _ _ _ _ _ _ _ _ _ _ _ _ _ _ _ _ _ _ _ _ _ _ _ _ _ _ _ _ _ _ _ _ _ _ _ _ _ _ _ _ _ _ _ _ _ _ _ _ _ _ _ _ _ _ _ _ _ false HV.out)
      · have e2 : (i != t) = true := bne_iff_ne.2 h2
        have hv : keepsV k t i = bitV k i := by unfold keepsV; rw [decide_eq_true ⟨h0, h1, h2⟩]; rfl
        have ht : ((k / 2 ^ i.toNat).tmod 2 == 1) = bitV k i := by unfold bitV; rw [Int.tmod_eq_emod_of_nonneg (Int.ediv_nonneg HK.out.1 (Int.le_of_lt (Int.pow_pos (by decide))))]
        have HV := Lib.hid hv
        clear hv h2
        go_upto_region 22 with (fail)
        exact Code.wp_mono (then_imp (by assumption)) (HFH.out _ _ _ _ _ _ _ _ _ _ _ _ _ _ _ _ _ _ _ _ _ _ _ _ _ _ _ _ _ _ _ _ _ _ _ _ _ _ _ _ _ _ _ _ _ _ _ _ _ _ _ _ _ _ _ _ _ _ _ _ _ _ _ _ _ _ _ _ _ _ _ _ _ _ _ _ _ _ _ _ _ _ _ _ _ _ _ _ _ _ _ _ _ _ _ _ _ _ _ _ _ _ _ _ _ _ _ _ _ HV.out)
    · have hv : keepsV k t i = false := by unfold keepsV; rw [decide_eq_false (by omega)]; rfl
      have e1 : decide (i < 64) = false := decide_eq_false h1
      have HV := Lib.hid hv
      clear hv
      go_upto_region 22 with (fail)
      exact Code.wp_mono (then_imp (by assumption)) (HFH.out _ _ _ _ _ _ _ _ _ _ _ _ _ _ _ _ _ _ _ _ _ _ _ _ _ _ _ _ _ _ _ _ _ _ _ _ _ _ _ _ _ _ _ _ _ _ _ _ _ _ _ _ _ _ _ _ _ _ _ _ _ _ _ _ _ _ _ _ _ _ _ _ _ _ _ _ _ _ _ _ _ _ _ _ _ _ _ _ _ _ _ _ _ _ _ _ _ _ _ _ _ _ _ _ _ _ _ _ false HV.out)
  · have hv : keepsV k t i = false := by unfold keepsV; rw [decide_eq_false (by omega)]; rfl
    have e1 : decide (0 ≤ i) = false := decide_eq_false h0
    have HV := Lib.hid hv
    clear hv
    go_upto_region 22 with (fail)
    exact Code.wp_mono (then_imp (by assumption)) (HFH.out _ _ _ _ _ _ _ _ _ _ _ _ _ _ _ _ _ _ _ _ _ _ _ _ _ _ _ _ _ _ _ _ _ _ _ _ _ _ _ _ _ _ _ _ _ _ _ _ _ _ _ _ _ _ _ _ _ _ _ _ _ _ _ _ _ _ _ _ _ _ _ _ _ _ _ _ _ _ _ _ _ _ _ _ _ _ _ _ _ _ _ _ _ _ _ _ _ _ _ _ _ _ _ _ _ _ _ _ false HV.out)
end Go.Proofs.Ytkbialmlddhclaa.Ca

/- A quiet region in a round: whatever its order, one walk in the text's order serves. No condition. -/
namespace Go.Proofs.Ytkbialmlddhclaa.Ca
open Go.RowKit Go.Shelf
set_option linter.unusedSimpArgs false
set_option linter.unusedVariables false
section
variable {F : Fence} {n : Nat} {P : Program} {ops : Array Oper} {C : World → Prop}
/-- No statement that defers. -/
def noDefer (ops : Array Oper) : Prop := ∀ (i : Nat) (o : Oper), ops[i]? = some o → ∀ c, o.op ≠ .defer c
def plainB (o : Oper) : Bool := match o.op with | .defer _ => false | _ => true
theorem noDefer_of {l : List Oper} (h : l.all plainB = true) : noDefer l.toArray := fun i o hi c hc => by
  have h1 := List.all_eq_true.1 h o (List.mem_of_getElem? (by simpa using hi))
  unfold plainB at h1
  rw [hc] at h1
  cases h1
theorem quiet_op {i : Nat} {a : Act} {K : Act → Prop} {K' : Act → World → Prop} {Q' : Exit → Act → World → Prop} {w : World} (hnd : noDefer ops) (hC : C w) (h : ∀ a w', C w' → K a → K' a w') (hh : qOpIn F n P ops C i K a) : wpOpIn F n P ops Q' i K' a w := by
  unfold qOpIn at hh
  unfold wpOpIn
  cases ho : ops[i]? with
  | none =>
    simp only [ho] at hh ⊢
    exact h _ _ hC hh
  | some o =>
    simp only [ho] at hh ⊢
    obtain ⟨ha, hh⟩ := hh
    by_cases hw : Region.wanted o (yielded ops a.tmps) = true
    · simp only [hw, if_true] at hh ⊢
      obtain ⟨v, h1, h2⟩ := hh
      have h3 := h1 w hC
      unfold Oper.quietAtIn at h3
      refine ⟨ha w hC, ?_⟩
      rw [Oper.semAt_plain F _ _ (hnd i o ho)]
      cases hr : (execOp a.eval o).run P w with
      | halt x w' => rw [hr] at h3; exact h3.elim
      | ok x w' =>
        rw [hr] at h3
        cases x with
        | value u =>
          obtain ⟨rfl, rfl⟩ := h3
          exact h _ _ hC h2
        | skip =>
          obtain ⟨rfl, rfl⟩ := h3
          exact h _ _ hC h2
        | enter f args =>
          obtain ⟨rfl, hd, hc⟩ := h3
          refine ⟨hd, hc.mono ?_⟩
          rintro e w'' ⟨rfl, hw''⟩
          exact h _ _ hw'' h2
        | _ => exact h3.elim
    · simp only [hw] at hh ⊢
      exact ⟨ha w hC, h _ _ hC hh⟩
theorem quiet_any {Q : Act → Prop} {Q' : Exit → Act → World → Prop} (hnd : noDefer ops) (hQ : ∀ a w, C w → Q a → Q' .normal a w) : ∀ (fuel : Nat) (listed : Array Bool) (a : Act) (w : World), C w →
    wpAnyQIn F n P .any ops C Q fuel listed a → wpAnyIn F n P .any ops Q' fuel listed a w
  | 0, _, _, _, hw, h => ⟨h.1, hQ _ _ hw h.2⟩
  | fuel + 1, _, _, _, hw, h => ⟨fun h0 => hQ _ _ hw (h.1 h0), fun i hi => quiet_op hnd hw (fun a' w' hw' => quiet_any hnd hQ fuel _ a' w' hw') (h.2 i hi)⟩
theorem quiet_region {id : Nat} {Q : Exit → Act → World → Prop} {a : Act} {w : World} {l : List Oper} (hnd : noDefer l.toArray) (hm : P.follows .mixedOrders = true) (hB : Region.lexB .any l.toArray = true)
    (h : wpQuietIn F n P l.toArray (fun w' => ∃ n, w' = w.drewN n) (fun a' => ∀ w', (∃ n, w' = w.drewN n) → Q .normal a' w') l a) : (Code.region id l.toArray true).wpIn F n P Q a w := by
  simp only [Region.lexB, Bool.and_eq_true] at hB
  refine wpIn_region_any hm (quiet_any (C := fun w' => ∃ n, w' = w.drewN n) (Q := fun a' => ∀ w', (∃ n, w' = w.drewN n) → Q .normal a' w') hnd (fun _ w' hw' h => h w' hw') _ _ _ _ ⟨1, rfl⟩ ?_)
  have := wpAnyQIn_lex (F := F) (n := n) (P := P) (C := fun w' => ∃ n, w' = w.drewN n) (md := .any) (ops := l.toArray) hB.1 l 0 (Array.replicate l.length false) a (by simp) (by simpa using hB.2) h
  simpa using this
end
end Go.Proofs.Ytkbialmlddhclaa.Ca

/- CrashAll's second loop: walked. No condition. -/
namespace Go.Proofs.Ytkbialmlddhclaa.Ca
open Go.RowKit Go.Shelf
attribute [local go_sem] Oper.semAt_some
set_option linter.unusedSimpArgs false
set_option linter.unusedVariables false
theorem Base.drewN {w A : World} {z : Nat} {cut stop k t u : Int} {c : Nat} (h : Base w z cut stop k t u c A) (q : Nat) : Base w z cut stop k t u c (A.drewN q) := ⟨h.b0, h.b1, h.b2, h.p0, ⟨h.bel.os, h.bel.tape, h.bel.output, h.bel.size, h.bel.block⟩⟩
theorem keeps_drewN {B q : Nat} {A C : World} (h : KeepsFrom B (A.drewN q) C) : KeepsFrom B A C := ⟨h.size, h.same⟩
theorem kp_drewN {T R l q : Nat} {A C : World} (h : Kp T R l (A.drewN q) C) : Kp T R l A C := ⟨h.size, h.same⟩
theorem use_k {K X : Act → World → Prop} {a : Act} {w : World} (hx : X a w) (h : ∀ a w, X a w → K a w) : K a w := h a w hx
set_option maxRecDepth 100000 in
set_option maxHeartbeats 8000000 in
theorem rest2_ok (v1 v2 v4 v5 v8 v12 v13 v14 v15 v16 v17 v18 v19 v20 v21 v22 v23 v24 v25 v26 v27 v28 v29 v30 v31 v32 v33 v34 v35 v36 v37 v38 v39 v40 v41 v42 v43 v44 v45 v46 v47 v48 v49 v50 v51 v52 v53 v54 v55 v56 v57 v58 v59 v60 v61 v62 v63 v64 v65 v66 v67 v68 v69 v70 v71 v72 v73 v74 v75 v76 v77 v78 v79 v80 v81 v82 v83 v84 v85 v86 v87 v88 v89 v90 v91 v92 v93 v94 v95 v96 v97 v98 v99 v100 v101 v102 v103 v104 v105 v106 v107 v108 v109 v110 v111 v112 v113 v114 v115 : Value) (w V : World) (s z D1 c : Nat) (n cut stop i k t u : Int) (hc : c ≤ 10) (hcl : clamp n = c) (hk0 : 0 ≤ k) (hk1 : k < 18446744073709551616) (hs : s = w.heap.size) (hz : s + 1 + 1 + 1 < z) (hB : Base w z cut stop k t u c V) (hR : V.heap[s + 1 + 1 + 1]? = some (.cells #[.bool false] 4 (0, 0))) (hD1 : V.heap[D1]? = some (.deferred (some []))) (hd1 : s ≤ D1) (PO : Exit → Act → World → Prop) (hPO : PO = (bodyPostM Fence.wide 20 Try.prog Try.f4 fun e w' => e = .returned (.bool true) ∧ Below w.heap.size w w')) :
    (sndC (sndC (sndC (sndC (sndC (sndC ((Try.f4.body.getD .skip)))))))).wpIn Fence.wide 20 Try.prog PO { tmps := #[.int .i64 n, v1, v2, .int .i64 i, v4, v5, .pointer (some ⟨s, 0, none⟩), .pointer (some ⟨s + 1, 0, none⟩), v8, .pointer (some ⟨s + 1 + 1, 0, none⟩), .pointer (some ⟨s + 1 + 1 + 1, 0, none⟩), .pointer (some ⟨z, 0, none⟩), v12, v13, v14, v15, v16, v17, v18, v19, v20, v21, v22, v23, v24, v25, v26, v27, v28, v29, v30, v31, v32, v33, v34, v35, v36, v37, v38, v39, v40, v41, v42, v43, v44, v45, v46, v47, v48, v49, v50, v51, v52, v53, v54, v55, v56, v57, v58, v59, v60, v61, v62, v63, v64, v65, v66, v67, v68, v69, v70, v71, v72, v73, v74, v75, v76, v77, v78, v79, v80, v81, v82, v83, v84, v85, v86, v87, v88, v89, v90, v91, v92, v93, v94, v95, v96, v97, v98, v99, v100, v101, v102, v103, v104, v105, v106, v107, v108, v109, v110, v111, v112, v113, v114, v115], defers := [{ target := .collected D1, args := #[] }] } V := by
  have HPO := Lib.hid hPO
  simp only [Try.f4, Option.getD_some, sndC]
  subst hs
  have k1 : V.cell? ⟨w.heap.size, 0, none⟩ = some (.int .i64 cut) := cellOf hB.b0 0
  have zlt := hlt hB.p0
  have HCL := Lib.hid hcl
  have HK := Lib.hid (And.intro hk0 hk1)
  have HB := Lib.hid hB
  have HR := Lib.hid hR
  have HD1 := Lib.hid hD1
  clear hPO hB hR hD1 hcl hk0 hk1
  have hsz : w.heap.size < V.heap.size := hlt HB.out.b0
  gi_wp2_with (refine ⟨trivial, ?_⟩; gi_at_call 23; refine (torn_in Fence.wide _ trivial rfl _ _ _).mono ?_; rintro e w' ⟨rfl, rfl⟩)
  obtain ⟨WB, hWB⟩ : ∃ WB, WB = ((V.alloc (.cells #[.int .i64 0] TI)).alloc (.cells #[.int .i64 ((clamp n : Nat) : Int)] TI)).alloc (.cells #[.int .i64 cut] TI) := ⟨_, rfl⟩
  obtain ⟨p0, p1, p2, ps, pb⟩ := boxes3 V (.cells #[.int .i64 0] TI) (.cells #[.int .i64 ((clamp n : Nat) : Int)] TI) (.cells #[.int .i64 cut] TI)
  rw [← hWB] at p0 p1 p2 ps pb
  rw [HCL.out] at p1
  rw [← hWB]
  have hb2 := HB.out.below pb
  have hr2 := (pb.block _ (hlt HR.out)).trans HR.out
  have hd2 := (pb.block _ (hlt HD1.out)).trans HD1.out
  have hDlt := hlt HD1.out
  have BASE := Lib.hid hb2
  have R2 := Lib.hid hr2
  have DD := Lib.hid hd2
  have P0 := Lib.hid p0
  have P1 := Lib.hid p1
  have P2 := Lib.hid p2
  have hp := pow_le hc
  obtain ⟨N, hN⟩ : ∃ N, N = 2 ^ c * c := ⟨_, rfl⟩
  have hN1 : N ≤ 10240 := by
    have h2 : 2 ^ c * c ≤ 1024 * 10 := Nat.mul_le_mul hp hc
    omega
  have hg := torn_gives Fence.wide rfl 19 trivial trivial trivial rfl (by omega) (V.heap.size + 1) (V.heap.size + 1 + 1) c hc cut V.heap.size (w.heap.size + 1 + 1 + 1) WB p1 p2 (by omega) (by omega) (by omega) (by omega) (by omega) (by omega)
  rw [← hN] at hg
  have HG := Lib.hid hg
  have HN := Lib.hid hN
  clear hWB p0 p1 p2 pb hb2 hr2 hd2 hg hN k1
  refine range_block (G := fun a' X => a' = { tmps := #[.int .i64 n, v1, v2, .int .i64 i, v4, v5, .pointer (some ⟨w.heap.size, 0, none⟩), .pointer (some ⟨w.heap.size + 1, 0, none⟩), v8, .pointer (some ⟨w.heap.size + 1 + 1, 0, none⟩), .pointer (some ⟨w.heap.size + 1 + 1 + 1, 0, none⟩), .pointer (some ⟨z, 0, none⟩), v12, v13, v14, .pointer (some ⟨V.heap.size, 0, none⟩), v16, v17, v18, v19, v20, v21, v22, v23, v24, v25, v26, v27, v28, v29, v30, v31, v32, v33, v34, v35, v36, v37, v38, v39, v40, v41, v42, v43, v44, v45, v46, v47, v48, v49, .int .i64 n, .int .i64 cut, .func (.func 72) #[] #[.pointer (some ⟨V.heap.size + 1, 0, none⟩), .pointer (some ⟨V.heap.size + 1 + 1, 0, none⟩)], v53, v54, v55, v56, v57, v58, v59, v60, v61, v62, v63, v64, v65, v66, v67, v68, v69, v70, v71, v72, v73, v74, v75, v76, v77, v78, v79, v80, v81, v82, v83, v84, v85, v86, v87, v88, v89, v90, v91, v92, v93, v94, v95, v96, v97, v98, v99, v100, v101, v102, v103, v104, v105, v106, v107, v108, v109, v110, v111, v112, v113, v114, v115], defers := [{ target := .collected WB.heap.size, args := #[] }, { target := .collected D1, args := #[] }] } ∧ Base w z cut stop k t u c X ∧ X.heap[w.heap.size + 1 + 1 + 1]? = some (.cells #[.bool false] 4 (0, 0)) ∧ X.heap[WB.heap.size]? = some (.deferred (some [])) ∧ X.heap[D1]? = some (.deferred (some [])) ∧ ∃ m : Nat, m ≤ N ∧ (m = N ∨ (m : Int) = stop) ∧ X.heap[V.heap.size]? = some (.cells #[.int .i64 (m : Int)] TI (0, 0))) ?loop2 ?rest3
  case loop2 =>
    refine range_law (by rfl) (by omega) (gf := 72) (lb := #[.pointer (some ⟨V.heap.size + 1, 0, none⟩), .pointer (some ⟨V.heap.size + 1 + 1, 0, none⟩)]) rfl trivial (enters_of Try.func72 (by kernel_rfl) rfl)
      HG.out (Below.refl _ _) (fun _ => rfl) (fun h1 h2 => h1.trans h2) (fun X r o _ => Kp.putObj _ _ _ X o)
      (fun pre X => pre = List.range pre.length ∧ Base w z cut stop k t u c X ∧ X.heap[w.heap.size + 1 + 1 + 1]? = some (.cells #[.bool false] 4 (0, 0)) ∧ X.heap[V.heap.size]? = some (.cells #[.int .i64 (pre.length : Int)] TI (0, 0)) ∧ D1 < X.heap.size ∧ X.heap[D1]? = some (.deferred (some [])))
      (fun code pre X => (code = .ret ∧ ¬ pre <+: List.range N) ∨ (code = .exit 2 ∧ Base w z cut stop k t u c X ∧ X.heap[w.heap.size + 1 + 1 + 1]? = some (.cells #[.bool false] 4 (0, 0)) ∧ (D1 < X.heap.size ∧ X.heap[D1]? = some (.deferred (some []))) ∧ ∃ m : Nat, m ≤ N ∧ (m : Int) = stop ∧ X.heap[V.heap.size]? = some (.cells #[.int .i64 (m : Int)] TI (0, 0))))
      (fun s A B row hs hg hr => ⟨hs.1, hs.2.1.grown hg hr (by omega), ownFrom_cells _ _ _ () _ _ _ hs.2.2.1 hg hr, ownFrom_cells _ _ _ () _ _ _ hs.2.2.2.1 hg hr, ownFrom_block (by omega) (fun _ => some (Obj.deferred (some []))) () _ _ _ hs.2.2.2.2 hg hr⟩)
      (fun code s A B row hs hg hr => by
        rcases hs with hs | ⟨e, h1, h2, h6, m, h3, h4, h5⟩
        · exact .inl hs
        · exact .inr ⟨e, h1.grown hg hr (by omega), ownFrom_cells _ _ _ () _ _ _ h2 hg hr, ownFrom_block (by omega) (fun _ => some (Obj.deferred (some []))) () _ _ _ h6 hg hr, m, h3, h4, ownFrom_cells _ _ _ () _ _ _ h5 hg hr⟩)
      ⟨rfl, BASE.out, R2.out, P0.out, by omega, DD.out⟩
      (fun x a' X => ∃ PB, WB.heap.size + 1 < PB ∧ X.heap[PB]? = some (.cells #[.int .u64 ((x / c : Nat) : Int), .int .i64 ((x % c : Nat) : Int), .int .i64 cut] 31 (0, 0)) ∧ a' = { tmps := #[.int .i64 n, v1, v2, .int .i64 i, v4, v5, .pointer (some ⟨w.heap.size, 0, none⟩), .pointer (some ⟨w.heap.size + 1, 0, none⟩), v8, .pointer (some ⟨w.heap.size + 1 + 1, 0, none⟩), .pointer (some ⟨w.heap.size + 1 + 1 + 1, 0, none⟩), .pointer (some ⟨z, 0, none⟩), v12, v13, v14, .pointer (some ⟨V.heap.size, 0, none⟩), .pointer (some ⟨PB, 0, none⟩), v17, v18, v19, v20, v21, v22, v23, v24, v25, v26, v27, v28, v29, v30, v31, v32, v33, v34, v35, v36, v37, v38, v39, v40, v41, v42, v43, v44, v45, v46, v47, v48, v49, .int .i64 n, .int .i64 cut, .func (.func 72) #[] #[.pointer (some ⟨V.heap.size + 1, 0, none⟩), .pointer (some ⟨V.heap.size + 1 + 1, 0, none⟩)], .agg #[.int .u64 ((x / c : Nat) : Int), .int .i64 ((x % c : Nat) : Int), .int .i64 cut], v54, v55, v56, v57, v58, v59, v60, v61, v62, v63, v64, v65, v66, v67, v68, v69, v70, v71, v72, v73, v74, v75, v76, v77, v78, v79, v80, v81, v82, v83, v84, v85, v86, v87, v88, v89, v90, v91, v92, v93, v94, v95, v96, v97, v98, v99, v100, v101, v102, v103, v104, v105, v106, v107, v108, v109, v110, v111, v112, v113, v114, v115], defers := [] })
      (fun x s A B row hs hg hr => by
        obtain ⟨PB, h1, h2, h3⟩ := hs
        exact ⟨PB, h1, ownFrom_cells _ _ _ () _ _ _ h2 hg hr, h3⟩)
      ?assign ?body ?done ?stop
    case assign =>
      rintro pre x X K hV ⟨g0, g1, g2, g3, g4⟩ hK
      unfold encT
      gi_wp2
      refine hK _ _ ((KeepsOthers.alloc _ _).from _) (Kp.alloc _ _ _ _ _) ⟨g0, g1.below ((Below.refl _ X).alloc (Nat.le_refl _) _), (Below.heap_alloc _ _ _ (hlt g2)).trans g2, (Below.heap_alloc _ _ _ (hlt g3)).trans g3, by simp; omega, (Below.heap_alloc _ _ _ g4.1).trans g4.2⟩ ⟨X.heap.size, hV, World.alloc_heap_new X _, rfl⟩
    case body =>
      rintro pre x a' X hV hr ⟨g0, g1, g2, g3, g4, g5⟩ ⟨PB, hPB, gp, rfl⟩ hlen
      have k1 : X.cell? ⟨V.heap.size, 0, none⟩ = some (.int .i64 (pre.length : Int)) := cellOf g3 0
      have k2 : X.cell? ⟨w.heap.size + 1, 0, none⟩ = some (.int .i64 stop) := cellOf g1.b1 0
      have k3 : X.cell? ⟨PB, 0, none⟩ = some (.int .u64 ((x / c : Nat) : Int)) := cellOf gp 0
      have k4 : X.cell? ⟨PB, 1, none⟩ = some (.int .i64 ((x % c : Nat) : Int)) := cellOf gp 1
      have k5 : X.cell? ⟨PB, 2, none⟩ = some (.int .i64 cut) := cellOf gp 2
      have k6 : X.cell? ⟨z, 0, none⟩ = some (.int .i64 (c : Int)) := cellOf g1.p0 0
      have k7 : X.cell? ⟨w.heap.size + 1 + 1 + 1, 0, none⟩ = some (.bool false) := cellOf g2 0
      have k8 : X.cell? ⟨w.heap.size, 0, none⟩ = some (.int .i64 cut) := cellOf g1.b0 0
      have f2 := frozenOf g2 0
      have f3 := frozenOf g3 0
      obtain ⟨dq, hdq⟩ : ∃ d, d = x / c := ⟨_, rfl⟩
      obtain ⟨rq, hrq⟩ : ∃ d, d = x % c := ⟨_, rfl⟩
      rw [← hdq] at k3 ⊢
      rw [← hrq] at k4 ⊢
      obtain ⟨L, hL⟩ : ∃ L, L = pre.length := ⟨_, rfl⟩
      rw [← hL] at g0 g3 k1 hlen
      have G0 := Lib.hid g0
      have G1 := Lib.hid g1
      have G2 := Lib.hid g2
      have G3 := Lib.hid g3
      have G5 := Lib.hid g5
      have HL := Lib.hid hL
      have HDQ := Lib.hid hdq
      have HRQ := Lib.hid hrq
      clear g0 g1 g2 g3 g5 gp hr hL hdq hrq
      have hc0 : 0 < c := by
        rcases Nat.eq_zero_or_pos c with h | h
        · have := HN.out; rw [h] at this; omega
        · exact h
      by_cases hst : (L : Int) = stop
      · have e1 : ((L : Int) == stop) = true := by simpa using hst
        have HS := Lib.hid hst
        clear hst
        gi_wp2
        exact ⟨KeepsFrom.refl _ _, Kp.refl _ _ _ _, .inr ⟨rfl, G1.out, G2.out, ⟨g4, G5.out⟩, L, by omega, HS.out, G3.out⟩⟩
      · have e1 : ((L : Int) == stop) = false := by simpa using hst
        have l1 : decide ((10240 : Int) < (L : Int)) = false := by simp; omega
        have l2 : ((c : Int) == 0) = false := by simp; omega
        have l0 : (0 : Int) ≤ (L : Int) := by omega
        have c0 : (0 : Int) ≤ (c : Int) := by omega
        have c1 : (0 : Int) < (c : Int) := by omega
        by_cases hx : x = L
        · subst hx
          gi_wp2
          have hmx : Try.prog.follows .mixedOrders = true := by kernel_rfl
          have hc9 : ¬ c = 0 := by omega
          have hdle : dq ≤ 10240 := by rw [HDQ.out]; exact Nat.le_trans (Nat.div_le_self _ _) (by omega)
          have hrle : rq < c := by rw [HRQ.out]; exact Nat.mod_lt _ (by omega)
          have e3 : (x : Int) / (c : Int) = (dq : Int) := by rw [HDQ.out]; push_cast; rfl
          have e4 : (x : Int).tmod (c : Int) = (rq : Int) := by rw [Int.tmod_eq_emod_of_nonneg (by omega), HRQ.out]; push_cast; rfl
          have w0 : IntKind.i64.wrap (dq : Int) = (dq : Int) := IntWalk.i64_in _ (by omega)
          have w2 : IntKind.u64.wrap (dq : Int) = (dq : Int) := IntWalk.u64_in _ (by omega)
          have w3 : IntKind.i64.wrap (rq : Int) = (rq : Int) := IntWalk.i64_in _ (by omega)
          have FACTS := Lib.hid (And.intro ps (And.intro hp (And.intro hV (And.intro hPB (And.intro g4 (And.intro hlen (And.intro hst (And.intro hc0 (And.intro hN1 (And.intro hc hrle))))))))))
          clear ps hp hV hPB g4 hlen hst hc0 hN1 hc hrle
          refine quiet_region (noDefer_of (by kernel_rfl)) hmx (by kernel_rfl) ?_
          refine wpQuietIn_step (by simp [Oper.askedIn, Oper.about]) (fun K hK => ?_)
          go_simp
          (refine hK _ ?_; clear hK K)
          refine wpQuietIn_step (by simp [Oper.askedIn, Oper.about]) (fun K hK => ?_)
          go_simp
          (refine hK _ ?_; clear hK K)
          refine wpQuietIn_step (by simp [Oper.askedIn, Oper.about]) (fun K hK => ?_)
          go_simp
          (refine hK _ ?_; clear hK K)
          refine wpQuietIn_step (by simp [Oper.askedIn, Oper.about]) (fun K hK => ?_)
          go_simp
          (refine hK _ ?_; clear hK K)
          refine wpQuietIn_step (by simp [Oper.askedIn, Oper.about]) (fun K hK => ?_)
          go_simp
          (refine hK _ ?_; clear hK K)
          refine wpQuietIn_step (by simp [Oper.askedIn, Oper.about]) (fun K hK => ?_)
          go_simp
          (refine hK _ ?_; clear hK K)
          refine wpQuietIn_step (by simp [Oper.askedIn, Oper.about]) (fun K hK => ?_)
          go_simp
          (refine hK _ ?_; clear hK K)
          refine wpQuietIn_step (by simp [Oper.askedIn, Oper.about]) (fun K hK => ?_)
          go_simp
          (refine hK _ ?_; clear hK K)
          refine wpQuietIn_step (by simp [Oper.askedIn, Oper.about]) (fun K hK => ?_)
          go_simp
          (refine hK _ ?_; clear hK K)
          refine wpQuietIn_step (by simp [Oper.askedIn, Oper.about]) (fun K hK => ?_)
          go_simp
          (refine hK _ ?_; clear hK K)
          refine wpQuietIn_step (by simp [Oper.askedIn, Oper.about]) (fun K hK => ?_)
          go_simp
          (refine hK _ ?_; clear hK K)
          refine wpQuietIn_step (by simp [Oper.askedIn, Oper.about]) (fun K hK => ?_)
          go_simp
          (refine hK _ ?_; clear hK K)
          refine wpQuietIn_step (by simp [Oper.askedIn, Oper.about]) (fun K hK => ?_)
          go_simp
          (refine hK _ ?_; clear hK K)
          refine wpQuietIn_step (by simp [Oper.askedIn, Oper.about]) (fun K hK => ?_)
          go_simp
          (refine hK _ ?_; clear hK K)
          refine wpQuietIn_step (by simp [Oper.askedIn, Oper.about]) (fun K hK => ?_)
          go_simp
          (refine hK _ ?_; clear hK K)
          refine wpQuietIn_step (by simp [Oper.askedIn, Oper.about]) (fun K hK => ?_)
          go_simp
          (refine hK _ ?_; clear hK K)
          refine wpQuietIn_step (by simp [Oper.askedIn, Oper.about]) (fun K hK => ?_)
          go_simp
          (refine hK _ ?_; clear hK K)
          refine wpQuietIn_step (by simp [Oper.askedIn, Oper.about]) (fun K hK => ?_)
          go_simp
          (refine hK _ ?_; clear hK K)
          refine wpQuietIn_step (by simp [Oper.askedIn, Oper.about]) (fun K hK => ?_)
          go_simp
          (refine hK _ ?_; clear hK K)
          refine wpQuietIn_nil ?_
          intro Y hw'
          obtain ⟨nq, rfl⟩ := hw'
          clear e3 e4 w0 w2 w3
          have hx9 : (x : Int) ≤ 10240 := by have := FACTS.out; omega
          gi_wp2
          obtain ⟨ps, hp, hV, hPB, g4, hlen, hst, hc0, hN1, hc, hrle⟩ := FACTS.out
          refine ⟨keeps_drewN ((KeepsOthers.setCell _ _ _).from _), kp_drewN (Kp.setT _ _ _ _ _), ?_, (G1.out.drewN nq).set (by omega) (by omega) _, keep_blk (A := X.drewN nq) G2.out (by omega), ?_, by simp [World.setCell]; exact g4, keep_blk (A := X.drewN nq) G5.out ?_⟩
          · rw [List.length_append, ← HL.out, List.length_singleton, List.range_succ, ← G0.out]
          · rw [List.length_append, ← HL.out]
            exact set_blk (A := X.drewN nq) G3.out
          · omega
        · have HX := Lib.hid hx
          obtain ⟨dL, hdL⟩ : ∃ d, d = L / c := ⟨_, rfl⟩
          obtain ⟨rL, hrL⟩ : ∃ d, d = L % c := ⟨_, rfl⟩
          have hne : ¬ (dq = dL ∧ rq = rL) := by
            rintro ⟨h1, h2⟩
            have a1 := Nat.div_add_mod x c
            have a2 := Nat.div_add_mod L c
            rw [← HDQ.out, ← HRQ.out, h1, h2, hdL, hrL, a2] at a1
            exact hx a1.symm
          have hc9 : ¬ c = 0 := by omega
          have hdle : dL ≤ 10240 := by rw [hdL]; exact Nat.le_trans (Nat.div_le_self _ _) (by omega)
          have hrle : rL < c := by rw [hrL]; exact Nat.mod_lt _ (by omega)
          have e3 : (L : Int) / (c : Int) = (dL : Int) := by rw [hdL]; push_cast; rfl
          have e4 : (L : Int).tmod (c : Int) = (rL : Int) := by rw [Int.tmod_eq_emod_of_nonneg (by omega), hrL]; push_cast; rfl
          have w0 : IntKind.i64.wrap (dL : Int) = (dL : Int) := IntWalk.i64_in _ (by omega)
          have w2 : IntKind.u64.wrap (dL : Int) = (dL : Int) := IntWalk.u64_in _ (by omega)
          have w3 : IntKind.i64.wrap (rL : Int) = (rL : Int) := IntWalk.i64_in _ (by omega)
          have FACTS := Lib.hid (And.intro ps (And.intro hp (And.intro hV (And.intro hPB (And.intro g4 (And.intro hlen (And.intro hst (And.intro hc0 (And.intro hN1 (And.intro hc hrle))))))))))
          have hmx : Try.prog.follows .mixedOrders = true := by kernel_rfl
          clear ps hp hV hPB g4 hlen hst hc0 hN1 hc hrle hx hdL hrL
          gi_wp2
          by_cases hd : dq = dL
          · have hr : ¬ rq = rL := fun h => hne ⟨hd, h⟩
            have r1 : ¬ (rq : Int) = (rL : Int) := by omega
            subst hd
            clear hne
            refine quiet_region (noDefer_of (by kernel_rfl)) hmx (by kernel_rfl) ?_
            refine wpQuietIn_step (by simp [Oper.askedIn, Oper.about]) (fun K hK => ?_)
            go_simp
            (refine hK _ ?_; clear hK K)
            refine wpQuietIn_step (by simp [Oper.askedIn, Oper.about]) (fun K hK => ?_)
            go_simp
            (refine hK _ ?_; clear hK K)
            refine wpQuietIn_step (by simp [Oper.askedIn, Oper.about]) (fun K hK => ?_)
            go_simp
            (refine hK _ ?_; clear hK K)
            refine wpQuietIn_step (by simp [Oper.askedIn, Oper.about]) (fun K hK => ?_)
            go_simp
            (refine hK _ ?_; clear hK K)
            refine wpQuietIn_step (by simp [Oper.askedIn, Oper.about]) (fun K hK => ?_)
            go_simp
            (refine hK _ ?_; clear hK K)
            refine wpQuietIn_step (by simp [Oper.askedIn, Oper.about]) (fun K hK => ?_)
            go_simp
            (refine hK _ ?_; clear hK K)
            refine wpQuietIn_step (by simp [Oper.askedIn, Oper.about]) (fun K hK => ?_)
            go_simp
            (refine hK _ ?_; clear hK K)
            refine wpQuietIn_step (by simp [Oper.askedIn, Oper.about]) (fun K hK => ?_)
            go_simp
            (refine hK _ ?_; clear hK K)
            refine wpQuietIn_step (by simp [Oper.askedIn, Oper.about]) (fun K hK => ?_)
            go_simp
            (refine hK _ ?_; clear hK K)
            refine wpQuietIn_step (by simp [Oper.askedIn, Oper.about]) (fun K hK => ?_)
            go_simp
            (refine hK _ ?_; clear hK K)
            refine wpQuietIn_step (by simp [Oper.askedIn, Oper.about]) (fun K hK => ?_)
            go_simp
            (refine hK _ ?_; clear hK K)
            refine wpQuietIn_step (by simp [Oper.askedIn, Oper.about]) (fun K hK => ?_)
            go_simp
            (refine hK _ ?_; clear hK K)
            refine wpQuietIn_step (by simp [Oper.askedIn, Oper.about]) (fun K hK => ?_)
            go_simp
            (refine hK _ ?_; clear hK K)
            refine wpQuietIn_step (by simp [Oper.askedIn, Oper.about]) (fun K hK => ?_)
            go_simp
            (refine hK _ ?_; clear hK K)
            refine wpQuietIn_step (by simp [Oper.askedIn, Oper.about]) (fun K hK => ?_)
            go_simp
            (refine hK _ ?_; clear hK K)
            refine wpQuietIn_step (by simp [Oper.askedIn, Oper.about]) (fun K hK => ?_)
            go_simp
            (refine hK _ ?_; clear hK K)
            refine wpQuietIn_step (by simp [Oper.askedIn, Oper.about]) (fun K hK => ?_)
            go_simp
            (refine hK _ ?_; clear hK K)
            refine wpQuietIn_step (by simp [Oper.askedIn, Oper.about]) (fun K hK => ?_)
            go_simp
            (refine hK _ ?_; clear hK K)
            refine wpQuietIn_step (by simp [Oper.askedIn, Oper.about]) (fun K hK => ?_)
            go_simp
            (refine hK _ ?_; clear hK K)
            refine wpQuietIn_nil ?_
            intro Y hw'
            obtain ⟨nq, rfl⟩ := hw'
            clear e3 e4 w0 w2 w3
            gi_wp2
            refine ⟨keeps_drewN ((KeepsOthers.setCell _ _ _).from _), kp_drewN (Kp.setR _ _ _ _ _), .inl ⟨rfl, ?_⟩⟩
            rw [G0.out]
            exact bad_prefix HX.out
          · have r1 : ¬ (dq : Int) = (dL : Int) := by omega
            clear hne
            refine quiet_region (noDefer_of (by kernel_rfl)) hmx (by kernel_rfl) ?_
            refine wpQuietIn_step (by simp [Oper.askedIn, Oper.about]) (fun K hK => ?_)
            go_simp
            (refine hK _ ?_; clear hK K)
            refine wpQuietIn_step (by simp [Oper.askedIn, Oper.about]) (fun K hK => ?_)
            go_simp
            (refine hK _ ?_; clear hK K)
            refine wpQuietIn_step (by simp [Oper.askedIn, Oper.about]) (fun K hK => ?_)
            go_simp
            (refine hK _ ?_; clear hK K)
            refine wpQuietIn_step (by simp [Oper.askedIn, Oper.about]) (fun K hK => ?_)
            go_simp
            (refine hK _ ?_; clear hK K)
            refine wpQuietIn_step (by simp [Oper.askedIn, Oper.about]) (fun K hK => ?_)
            go_simp
            (refine hK _ ?_; clear hK K)
            refine wpQuietIn_step (by simp [Oper.askedIn, Oper.about]) (fun K hK => ?_)
            go_simp
            (refine hK _ ?_; clear hK K)
            refine wpQuietIn_step (by simp [Oper.askedIn, Oper.about]) (fun K hK => ?_)
            go_simp
            (refine hK _ ?_; clear hK K)
            refine wpQuietIn_step (by simp [Oper.askedIn, Oper.about]) (fun K hK => ?_)
            go_simp
            (refine hK _ ?_; clear hK K)
            refine wpQuietIn_step (by simp [Oper.askedIn, Oper.about]) (fun K hK => ?_)
            go_simp
            (refine hK _ ?_; clear hK K)
            refine wpQuietIn_step (by simp [Oper.askedIn, Oper.about]) (fun K hK => ?_)
            go_simp
            (refine hK _ ?_; clear hK K)
            refine wpQuietIn_step (by simp [Oper.askedIn, Oper.about]) (fun K hK => ?_)
            go_simp
            (refine hK _ ?_; clear hK K)
            refine wpQuietIn_step (by simp [Oper.askedIn, Oper.about]) (fun K hK => ?_)
            go_simp
            (refine hK _ ?_; clear hK K)
            refine wpQuietIn_step (by simp [Oper.askedIn, Oper.about]) (fun K hK => ?_)
            go_simp
            (refine hK _ ?_; clear hK K)
            refine wpQuietIn_step (by simp [Oper.askedIn, Oper.about]) (fun K hK => ?_)
            go_simp
            (refine hK _ ?_; clear hK K)
            refine wpQuietIn_step (by simp [Oper.askedIn, Oper.about]) (fun K hK => ?_)
            go_simp
            (refine hK _ ?_; clear hK K)
            refine wpQuietIn_step (by simp [Oper.askedIn, Oper.about]) (fun K hK => ?_)
            go_simp
            (refine hK _ ?_; clear hK K)
            refine wpQuietIn_step (by simp [Oper.askedIn, Oper.about]) (fun K hK => ?_)
            go_simp
            (refine hK _ ?_; clear hK K)
            refine wpQuietIn_step (by simp [Oper.askedIn, Oper.about]) (fun K hK => ?_)
            go_simp
            (refine hK _ ?_; clear hK K)
            refine wpQuietIn_step (by simp [Oper.askedIn, Oper.about]) (fun K hK => ?_)
            go_simp
            (refine hK _ ?_; clear hK K)
            refine wpQuietIn_nil ?_
            intro Y hw'
            obtain ⟨nq, rfl⟩ := hw'
            clear e3 e4 w0 w2 w3
            gi_wp2
            refine ⟨keeps_drewN ((KeepsOthers.setCell _ _ _).from _), kp_drewN (Kp.setR _ _ _ _ _), .inl ⟨rfl, ?_⟩⟩
            rw [G0.out]
            exact bad_prefix HX.out
    case done =>
      rintro xs X rfl ⟨-, g1, g2, g3, g4, g5⟩ hK
      rw [List.length_range] at g3
      exact ⟨.inl rfl, rfl, g1, g2, hK, g5, _, Nat.le_refl _, .inl rfl, g3⟩
    case stop =>
      rintro code pre X hp2 (⟨rfl, h⟩ | ⟨rfl, h1, h2, h6, m, h3, h4, h5⟩) hK
      · exact absurd hp2 h
      · have H := Lib.hid (And.intro h1 (And.intro h2 (And.intro hK (And.intro h3 (And.intro h4 (And.intro h5 h6))))))
        clear h1 h2 h3 h4 h5 h6 hK hp2
        gi_wp2
        obtain ⟨h1, h2, hK, h3, h4, h5, h6⟩ := H.out
        exact ⟨h1, h2, by rw [← ps]; exact hK, h6.2, m, h3, .inr h4, h5⟩
  case rest3 =>
    rintro a' X ⟨rfl, g1, g2, gD, gD1, m, hm1, hm2, g3⟩
    rw [HN.out] at hm1 hm2
    have h3 := rest3_ok (.int .i64 n) v1 v2 v4 v5 v8 v12 v13 v14 v16 v17 v18 v19 v20 v21 v22 v23 v24 v25 v26 v27 v28 v29 v30 v31 v32 v33 v34 v35 v36 v37 v38 v39 v40 v41 v42 v43 v44 v45 v46 v47 v48 v49 (.int .i64 n) (.int .i64 cut) (.func (.func 72) #[] #[.pointer (some ⟨V.heap.size + 1, 0, none⟩), .pointer (some ⟨V.heap.size + 1 + 1, 0, none⟩)]) v53 v54 v55 v56 v57 v58 v59 v60 v61 v62 v63 v64 v65 v66 v67 v68 v69 v70 v71 v72 v73 v74 v75 v76 v77 v78 v79 v80 v81 v82 v83 v84 v85 v86 v87 v88 v89 v90 v91 v92 v93 v94 v95 v96 v97 v98 v99 v100 v101 v102 v103 v104 v105 v106 v107 v108 v109 v110 v111 v112 v113 v114 v115 w X w.heap.size z V.heap.size D1 WB.heap.size c m cut stop i k t u hc HK.out.1 HK.out.2 rfl hz (by omega) g1 g2 g3 hm2 hm1 gD1 gD (by omega) (by omega) (by omega) PO HPO.out
    simp only [Try.f4, Option.getD_some, sndC] at h3
    simp only [Exit.then]
    apply_assumption
    exact h3
end Go.Proofs.Ytkbialmlddhclaa.Ca

/- CrashAll: walked. No condition but what every argument brings. -/
namespace Go.Proofs.Ytkbialmlddhclaa.Ca
open Go.RowKit Go.Shelf
attribute [local go_sem] Oper.semAt_some
set_option linter.unusedSimpArgs false
set_option linter.unusedVariables false
set_option maxRecDepth 100000 in
set_option maxHeartbeats 8000000 in
theorem CrashAll_mid (c : Nat) (hc : c ≤ 10) (n cut stop i k t u : Int) (hcl : clamp (c : Int) = c)  (hk0 : 0 ≤ k) (hk1 : k < 18446744073709551616) (w : World) :
    Calls Try.prog 4 #[.int .i64 (c : Int), .int .i64 cut, .int .i64 stop, .int .i64 i, .agg #[.int .u64 k, .int .i64 t, .int .i64 u]] w fun e w' => e = .returned (.bool true) ∧ Below w.heap.size w w' := by
  have hp := pow_le hc
  refine (callsIn_wide (n := 20)).1 ?_
  refine callsIn_of_wp_marks Try.func4 rfl trivial ?_ rfl
  simp only [Try.ntmps4, List.size_toArray, List.length_cons, List.length_nil, Nat.reduceAdd, Nat.reduceSub, Array.replicate_succ, Array.replicate_zero, List.push_toArray, List.append_toArray, List.nil_append, List.cons_append]
  have HCL := Lib.hid hcl
  have HK := Lib.hid (And.intro hk0 hk1)
  have HV := Lib.hid (show (((c : Int) : Int)) = (c : Int) from rfl)
  clear hcl hk0 hk1 
  gi_wp2_with (first
    | (refine ⟨trivial, ?_⟩; gi_at_call 21; refine (callsIn_wide.2 (keeps_four _)).mono ?_; rintro e w1 ⟨rfl, hb⟩; have HB1 := Lib.hid hb; clear hb)
    | (refine ⟨trivial, ?_⟩; gi_at_call 22; refine (all_in Fence.wide _ trivial rfl _ _).mono ?_; rintro e w' ⟨rfl, rfl⟩))
  obtain ⟨w0, hw0⟩ : ∃ w0, w0 = (((w.alloc (.cells #[.int .i64 cut] TI)).alloc (.cells #[.int .i64 stop] TI)).alloc (.cells #[.int .u64 k, .int .i64 t, .int .i64 u] 31)).alloc (.cells #[.bool false] 4) := ⟨_, rfl⟩
  obtain ⟨q0, q1, q2, q3, qs, qb⟩ := boxes4 w (.cells #[.int .i64 cut] TI) (.cells #[.int .i64 stop] TI) (.cells #[.int .u64 k, .int .i64 t, .int .i64 u] 31) (.cells #[.bool false] 4)
  rw [← hw0] at q0 q1 q2 q3 qs qb
  have hb1 : Below w0.heap.size w0 w1 := by rw [hw0]; exact HB1.out
  obtain ⟨WA, hWA⟩ : ∃ WA, WA = (((w1.alloc (.cells #[.int .i64 (c : Int)] TI)).alloc (.cells #[.int .u64 0] 29)).alloc (.cells #[.int .i64 0] TI)).alloc (.cells #[.int .i64 ((clamp (c : Int) : Nat) : Int)] TI) := ⟨_, rfl⟩
  obtain ⟨p0, p1, p2, p3, ps, pb⟩ := boxes4 w1 (.cells #[.int .i64 (c : Int)] TI) (.cells #[.int .u64 0] 29) (.cells #[.int .i64 0] TI) (.cells #[.int .i64 ((clamp (c : Int) : Nat) : Int)] TI)
  rw [← hWA] at p0 p1 p2 p3 ps pb
  rw [HCL.out] at p3
  try rw [HV.out] at p0
  rw [← hWA]
  have hw1s := hb1.size
  have b0 := (pb.block _ (by omega)).trans ((hb1.block _ (hlt q0)).trans q0)
  have b1 := (pb.block _ (by omega)).trans ((hb1.block _ (hlt q1)).trans q1)
  have b2 := (pb.block _ (by omega)).trans ((hb1.block _ (hlt q2)).trans q2)
  have b3 := (pb.block _ (by omega)).trans ((hb1.block _ (hlt q3)).trans q3)
  have bb : Below w.heap.size w WA := (qb.trans (hb1.mono qb.size)).trans (pb.mono (Nat.le_trans qb.size hb1.size))
  have z1 : w.heap.size + 1 + 1 + 1 < w1.heap.size := by omega
  have P3 := Lib.hid p3
  have BASE := Lib.hid (Base.mk b0 b1 b2 p0 bb)
  have B3 := Lib.hid b3
  have P1 := Lib.hid p1
  have P2 := Lib.hid p2
  clear hWA hw0 HB1 q0 q1 q2 q3 qs qb hb1 p0 p1 p2 p3 pb b0 b1 b2 b3 bb hw1s
  refine range_block (G := fun a' V => a' = { tmps := #[.int .i64 (c : Int), .int .i64 cut, .int .i64 stop, .int .i64 i, .agg #[.int .u64 k, .int .i64 t, .int .i64 u], undef, .pointer (some ⟨w.heap.size, 0, none⟩), .pointer (some ⟨w.heap.size + 1, 0, none⟩), undef, .pointer (some ⟨w.heap.size + 1 + 1, 0, none⟩), .pointer (some ⟨w.heap.size + 1 + 1 + 1, 0, none⟩), .pointer (some ⟨w1.heap.size, 0, none⟩), .pointer (some ⟨w1.heap.size + 1, 0, none⟩), .pointer (some ⟨w1.heap.size + 1 + 1, 0, none⟩), undef, undef, undef, undef, .bool true, .bool false, .int .i64 (c : Int), .int .i64 (c : Int), .int .i64 (c : Int), .int .i64 (c : Int), .func (.func 71) #[] #[.pointer (some ⟨w1.heap.size + 1 + 1 + 1, 0, none⟩)], undef, undef, undef, undef, undef, undef, undef, undef, undef, undef, undef, undef, undef, undef, undef, undef, undef, undef, undef, undef, undef, undef, undef, undef, undef, undef, undef, undef, undef, undef, undef, undef, undef, undef, undef, undef, undef, undef, undef, undef, undef, undef, undef, undef, undef, undef, undef, undef, undef, undef, undef, undef, undef, undef, undef, undef, undef, undef, undef, undef, undef, undef, undef, undef, undef, undef, undef, undef, undef, undef, undef, undef, undef, undef, undef, undef, undef, undef, undef, undef, undef, undef, undef, undef, undef, undef, undef, undef, undef, undef, undef], defers := [{ target := .collected WA.heap.size, args := #[] }] } ∧ Base w w1.heap.size cut stop k t u c V ∧ V.heap[w.heap.size + 1 + 1 + 1]? = some (.cells #[.bool false] 4 (0, 0)) ∧ V.heap[WA.heap.size]? = some (.deferred (some [])) ∧ ∃ m : Nat, m ≤ 2 ^ c ∧ (m = 2 ^ c ∨ (m : Int) = stop) ∧ V.heap[w1.heap.size + 1 + 1]? = some (.cells #[.int .i64 (m : Int)] TI (0, 0))) ?loop1 ?rest1
  case loop1 =>
    refine range_law (by rfl) (by omega) (gf := 71) (lb := #[.pointer (some ⟨w1.heap.size + 1 + 1 + 1, 0, none⟩)]) rfl trivial (enters_of Try.func71 (by kernel_rfl) rfl)
      (all_gives Fence.wide _ trivial rfl (by omega) (w1.heap.size + 1 + 1 + 1) c hc (fun _ _ _ => True) WA (cellOf P3.out 0)) (Below.refl _ _) (fun _ => rfl) (fun _ _ => trivial) (fun _ _ _ _ => trivial)
      (fun pre V => pre = List.range pre.length ∧ Base w w1.heap.size cut stop k t u c V ∧ V.heap[w.heap.size + 1 + 1 + 1]? = some (.cells #[.bool false] 4 (0, 0)) ∧ V.heap[w1.heap.size + 1]? = some (.cells #[.int .u64 (pre.length : Int)] 29 (0, 0)) ∧ V.heap[w1.heap.size + 1 + 1]? = some (.cells #[.int .i64 (pre.length : Int)] TI (0, 0)))
      (fun code pre V => (code = .ret ∧ ¬ pre <+: List.range (2 ^ c)) ∨ (code = .exit 0 ∧ Base w w1.heap.size cut stop k t u c V ∧ V.heap[w.heap.size + 1 + 1 + 1]? = some (.cells #[.bool false] 4 (0, 0)) ∧ ∃ m : Nat, m ≤ 2 ^ c ∧ (m : Int) = stop ∧ V.heap[w1.heap.size + 1 + 1]? = some (.cells #[.int .i64 (m : Int)] TI (0, 0))))
      (fun s A B row hs hg hr => ⟨hs.1, hs.2.1.grown hg hr (by omega), ownFrom_cells _ _ _ () _ _ _ hs.2.2.1 hg hr, ownFrom_cells _ _ _ () _ _ _ hs.2.2.2.1 hg hr, ownFrom_cells _ _ _ () _ _ _ hs.2.2.2.2 hg hr⟩)
      (fun code s A B row hs hg hr => by
        rcases hs with hs | ⟨e, h1, h2, m, h3, h4, h5⟩
        · exact .inl hs
        · exact .inr ⟨e, h1.grown hg hr (by omega), ownFrom_cells _ _ _ () _ _ _ h2 hg hr, m, h3, h4, ownFrom_cells _ _ _ () _ _ _ h5 hg hr⟩)
      ⟨rfl, BASE.out, B3.out, P1.out, P2.out⟩
      (fun x a' V => ∃ PB, WA.heap.size + 1 < PB ∧ V.heap[PB]? = some (.cells #[.int .u64 ((x : Nat) : Int), .int .i64 (-1), .int .i64 0] 31 (0, 0)) ∧ a' = { tmps := #[.int .i64 (c : Int), .int .i64 cut, .int .i64 stop, .int .i64 i, .agg #[.int .u64 k, .int .i64 t, .int .i64 u], undef, .pointer (some ⟨w.heap.size, 0, none⟩), .pointer (some ⟨w.heap.size + 1, 0, none⟩), undef, .pointer (some ⟨w.heap.size + 1 + 1, 0, none⟩), .pointer (some ⟨w.heap.size + 1 + 1 + 1, 0, none⟩), .pointer (some ⟨w1.heap.size, 0, none⟩), .pointer (some ⟨w1.heap.size + 1, 0, none⟩), .pointer (some ⟨w1.heap.size + 1 + 1, 0, none⟩), .pointer (some ⟨PB, 0, none⟩), undef, undef, undef, .bool true, .bool false, .int .i64 (c : Int), .int .i64 (c : Int), .int .i64 (c : Int), .int .i64 (c : Int), .func (.func 71) #[] #[.pointer (some ⟨w1.heap.size + 1 + 1 + 1, 0, none⟩)], .agg #[.int .u64 ((x : Nat) : Int), .int .i64 (-1), .int .i64 0], undef, undef, undef, undef, undef, undef, undef, undef, undef, undef, undef, undef, undef, undef, undef, undef, undef, undef, undef, undef, undef, undef, undef, undef, undef, undef, undef, undef, undef, undef, undef, undef, undef, undef, undef, undef, undef, undef, undef, undef, undef, undef, undef, undef, undef, undef, undef, undef, undef, undef, undef, undef, undef, undef, undef, undef, undef, undef, undef, undef, undef, undef, undef, undef, undef, undef, undef, undef, undef, undef, undef, undef, undef, undef, undef, undef, undef, undef, undef, undef, undef, undef, undef, undef, undef, undef, undef, undef, undef, undef], defers := [] })
      (fun x s A B row hs hg hr => by
        obtain ⟨PB, h1, h2, h3⟩ := hs
        exact ⟨PB, h1, ownFrom_cells _ _ _ () _ _ _ h2 hg hr, h3⟩)
      ?assign ?body ?done ?stop
    case assign =>
      rintro pre x V K hV ⟨g0, g1, g2, g3, g4⟩ hK
      unfold encA
      gi_wp2
      refine hK _ _ ((KeepsOthers.alloc _ _).from _) trivial ⟨g0, g1.below ((Below.refl _ V).alloc (Nat.le_refl _) _), (Below.heap_alloc _ _ _ (hlt g2)).trans g2, (Below.heap_alloc _ _ _ (hlt g3)).trans g3, (Below.heap_alloc _ _ _ (hlt g4)).trans g4⟩ ⟨V.heap.size, hV, World.alloc_heap_new V _, rfl⟩
    case body =>
      rintro pre x a' V hV hr ⟨g0, g1, g2, g3, g4⟩ ⟨PB, hPB, gp, rfl⟩ hlen
      have k1 : V.cell? ⟨w1.heap.size + 1 + 1, 0, none⟩ = some (.int .i64 (pre.length : Int)) := cellOf g4 0
      have k2 : V.cell? ⟨w.heap.size + 1, 0, none⟩ = some (.int .i64 stop) := cellOf g1.b1 0
      have k3 : V.cell? ⟨PB, 0, none⟩ = some (.int .u64 ((x : Nat) : Int)) := cellOf gp 0
      have k4 : V.cell? ⟨PB, 1, none⟩ = some (.int .i64 (-1)) := cellOf gp 1
      have k5 : V.cell? ⟨PB, 2, none⟩ = some (.int .i64 0) := cellOf gp 2
      have k6 : V.cell? ⟨w1.heap.size + 1, 0, none⟩ = some (.int .u64 (pre.length : Int)) := cellOf g3 0
      have k7 : V.cell? ⟨w.heap.size + 1 + 1 + 1, 0, none⟩ = some (.bool false) := cellOf g2 0
      have f2 := frozenOf g2 0
      have f3 := frozenOf g3 0
      have f4 := frozenOf g4 0
      obtain ⟨L, hL⟩ : ∃ L, L = pre.length := ⟨_, rfl⟩
      rw [← hL] at g0 g3 g4 k1 k6 hlen
      have G0 := Lib.hid g0
      have G1 := Lib.hid g1
      have G2 := Lib.hid g2
      have G3 := Lib.hid g3
      have G4 := Lib.hid g4
      have HL := Lib.hid hL
      clear g0 g1 g2 g3 g4 gp hr hL
      by_cases hst : (L : Int) = stop
      · have e1 : ((L : Int) == stop) = true := by simpa using hst
        have HS := Lib.hid hst
        clear hst
        gi_wp2
        exact ⟨KeepsFrom.refl _ _, trivial, .inr ⟨rfl, G1.out, G2.out, L, by omega, HS.out, G4.out⟩⟩
      · have e1 : ((L : Int) == stop) = false := by simpa using hst
        by_cases hx : x = L
        · subst hx
          have l1 : (x : Int) ≤ 1024 := by omega
          have l0 : (0 : Int) ≤ (x : Int) := by omega
          gi_wp2
          refine ⟨((KeepsOthers.setCell _ _ _).trans (KeepsOthers.setCell _ _ _)).from _, trivial, ?_, (G1.out.set (by omega) (by omega) _).set (by omega) (by omega) _, keep_blk (keep_blk G2.out (by omega)) (by omega), ?_, ?_⟩
          · rw [List.length_append, ← HL.out, List.length_singleton, List.range_succ, ← G0.out]
          · rw [List.length_append, ← HL.out]
            exact keep_blk (set_blk G3.out) (by omega)
          · rw [List.length_append, ← HL.out]
            exact set_blk (keep_blk G4.out (by omega))
        · have x1 : ¬ (x : Int) = (L : Int) := by omega
          have x2 : ((x : Int) == (L : Int)) = false := by simp; omega
          have x3 : ((x : Int) != (L : Int)) = true := by simp; omega
          have HX := Lib.hid hx
          clear hx hst
          gi_wp2
          refine ⟨(KeepsOthers.setCell _ _ _).from _, trivial, .inl ⟨rfl, ?_⟩⟩
          rw [G0.out]
          exact bad_prefix HX.out
    case done =>
      rintro xs V rfl ⟨-, g1, g2, -, g4⟩ hK
      rw [List.length_range] at g4
      exact ⟨.inl rfl, rfl, g1, g2, hK, _, Nat.le_refl _, .inl rfl, g4⟩
    case stop =>
      rintro code pre V hp2 (⟨rfl, h⟩ | ⟨rfl, h1, h2, m, h3, h4, h5⟩) hK
      · exact absurd hp2 h
      · have H := Lib.hid (And.intro h1 (And.intro h2 (And.intro hK (And.intro h3 (And.intro h4 h5)))))
        clear h1 h2 h3 h4 h5 hK hp2
        gi_wp2
        obtain ⟨h1, h2, hK, h3, h4, h5⟩ := H.out
        exact ⟨h1, h2, by rw [← ps]; exact hK, m, h3, .inr h4, h5⟩
  case rest1 =>
    rintro a' V ⟨rfl, g1, g2, gD, m, hm1, hm2, g3⟩
    have k1 : V.cell? ⟨w1.heap.size + 1 + 1, 0, none⟩ = some (.int .i64 (m : Int)) := cellOf g3 0
    have k2 : V.cell? ⟨w.heap.size + 1, 0, none⟩ = some (.int .i64 stop) := cellOf g1.b1 0
    have k3 : V.cell? ⟨w1.heap.size, 0, none⟩ = some (.int .i64 (c : Int)) := cellOf g1.p0 0
    have e0 : ((2 : Int) ^ c) = ((2 ^ c : Nat) : Int) := by push_cast; rfl
    obtain ⟨N, hN⟩ : ∃ N, N = 2 ^ c := ⟨_, rfl⟩
    have hw : IntKind.i64.wrap (2 ^ c) = (N : Int) := by
      rw [e0, ← hN]
      exact IntWalk.i64_in _ (by omega)
    have c0 : (0 : Int) ≤ (c : Int) := by omega
    have c1 : (c : Int) ≤ 10 := by omega
    rw [← hN] at hm1 hm2
    have G1 := Lib.hid g1
    have G2 := Lib.hid g2
    rw [ps] at gD
    have GD := Lib.hid gD
    clear g1 g2 gD g3 e0 hN
    have h3 := fun (v1 v2 v4 v5 v8 v12 v13 v14 v15 v16 v17 v18 v19 v20 v21 v22 v23 v24 v25 v26 v27 v28 v29 v30 v31 v32 v33 v34 v35 v36 v37 v38 v39 v40 v41 v42 v43 v44 v45 v46 v47 v48 v49 v50 v51 v52 v53 v54 v55 v56 v57 v58 v59 v60 v61 v62 v63 v64 v65 v66 v67 v68 v69 v70 v71 v72 v73 v74 v75 v76 v77 v78 v79 v80 v81 v82 v83 v84 v85 v86 v87 v88 v89 v90 v91 v92 v93 v94 v95 v96 v97 v98 v99 v100 v101 v102 v103 v104 v105 v106 v107 v108 v109 v110 v111 v112 v113 v114 v115 : Value) (q : Nat) => rest2_ok v1 v2 v4 v5 v8 v12 v13 v14 v15 v16 v17 v18 v19 v20 v21 v22 v23 v24 v25 v26 v27 v28 v29 v30 v31 v32 v33 v34 v35 v36 v37 v38 v39 v40 v41 v42 v43 v44 v45 v46 v47 v48 v49 v50 v51 v52 v53 v54 v55 v56 v57 v58 v59 v60 v61 v62 v63 v64 v65 v66 v67 v68 v69 v70 v71 v72 v73 v74 v75 v76 v77 v78 v79 v80 v81 v82 v83 v84 v85 v86 v87 v88 v89 v90 v91 v92 v93 v94 v95 v96 v97 v98 v99 v100 v101 v102 v103 v104 v105 v106 v107 v108 v109 v110 v111 v112 v113 v114 v115 w (V.drewN q) w.heap.size w1.heap.size (w1.heap.size + 1 + 1 + 1 + 1) c (c : Int) cut stop i k t u hc HCL.out HK.out.1 HK.out.2 rfl (by omega) (G1.out.drewN q) G2.out GD.out (by omega) _ rfl
    simp only [Try.f4, Option.getD_some, sndC] at h3
    have H3 := Lib.hid h3
    clear h3
    by_cases hmN : m = N
    · have e1 : ((m : Int) == (N : Int)) = true := by simp; omega
      clear hm2
      simp only [Exit.then]
      apply_assumption
      refine wpIn_wide.2 ?_
      go_upto_region 14 with (fail)
      go_quiet (fail)
      simp only [Exit.then]
      apply_assumption
      go_simp
      refine wp_cond_false rfl (wp_skip ?_)
      simp only [Exit.then]
      apply_assumption
      exact wpIn_wide.1 (H3.out _ _ _ _ _ _ _ _ _ _ _ _ _ _ _ _ _ _ _ _ _ _ _ _ _ _ _ _ _ _ _ _ _ _ _ _ _ _ _ _ _ _ _ _ _ _ _ _ _ _ _ _ _ _ _ _ _ _ _ _ _ _ _ _ _ _ _ _ _ _ _ _ _ _ _ _ _ _ _ _ _ _ _ _ _ _ _ _ _ _ _ _ _ _ _ _ _ _ _ _ _ _ _ _ _ _ _ _ _ nq)
    · have e1 : ((m : Int) == (N : Int)) = false := by simp; omega
      have e2 : ((m : Int) == stop) = true := by simp; omega
      have e3 : ((m : Int) != (N : Int)) = true := by simp; omega
      have e4 : ((m : Int) != stop) = false := by simp; omega
      simp only [Exit.then]
      apply_assumption
      refine wpIn_wide.2 ?_
      go_upto_region 14 with (fail)
      go_quiet (fail)
      simp only [Exit.then]
      apply_assumption
      go_simp
      refine wp_cond_false rfl (wp_skip ?_)
      simp only [Exit.then]
      apply_assumption
      exact wpIn_wide.1 (H3.out _ _ _ _ _ _ _ _ _ _ _ _ _ _ _ _ _ _ _ _ _ _ _ _ _ _ _ _ _ _ _ _ _ _ _ _ _ _ _ _ _ _ _ _ _ _ _ _ _ _ _ _ _ _ _ _ _ _ _ _ _ _ _ _ _ _ _ _ _ _ _ _ _ _ _ _ _ _ _ _ _ _ _ _ _ _ _ _ _ _ _ _ _ _ _ _ _ _ _ _ _ _ _ _ _ _ _ _ _ nq)
set_option maxRecDepth 100000 in
set_option maxHeartbeats 8000000 in
theorem CrashAll_low (c : Nat) (hc : c ≤ 10) (n cut stop i k t u : Int) (hcl : clamp n = c) (hn : n < 0) (hz : c = 0) (hk0 : 0 ≤ k) (hk1 : k < 18446744073709551616) (w : World) :
    Calls Try.prog 4 #[.int .i64 n, .int .i64 cut, .int .i64 stop, .int .i64 i, .agg #[.int .u64 k, .int .i64 t, .int .i64 u]] w fun e w' => e = .returned (.bool true) ∧ Below w.heap.size w w' := by
  have hp := pow_le hc
  refine (callsIn_wide (n := 20)).1 ?_
  refine callsIn_of_wp_marks Try.func4 rfl trivial ?_ rfl
  simp only [Try.ntmps4, List.size_toArray, List.length_cons, List.length_nil, Nat.reduceAdd, Nat.reduceSub, Array.replicate_succ, Array.replicate_zero, List.push_toArray, List.append_toArray, List.nil_append, List.cons_append]
  have HCL := Lib.hid hcl
  have HK := Lib.hid (And.intro hk0 hk1)
  have HV := Lib.hid (show ((0 : Int)) = (c : Int) from by omega)
  clear hcl hk0 hk1 hz
  gi_wp2_with (first
    | (refine ⟨trivial, ?_⟩; gi_at_call 21; refine (callsIn_wide.2 (keeps_four _)).mono ?_; rintro e w1 ⟨rfl, hb⟩; have HB1 := Lib.hid hb; clear hb)
    | (refine ⟨trivial, ?_⟩; gi_at_call 22; refine (all_in Fence.wide _ trivial rfl _ _).mono ?_; rintro e w' ⟨rfl, rfl⟩))
  obtain ⟨w0, hw0⟩ : ∃ w0, w0 = (((w.alloc (.cells #[.int .i64 cut] TI)).alloc (.cells #[.int .i64 stop] TI)).alloc (.cells #[.int .u64 k, .int .i64 t, .int .i64 u] 31)).alloc (.cells #[.bool false] 4) := ⟨_, rfl⟩
  obtain ⟨q0, q1, q2, q3, qs, qb⟩ := boxes4 w (.cells #[.int .i64 cut] TI) (.cells #[.int .i64 stop] TI) (.cells #[.int .u64 k, .int .i64 t, .int .i64 u] 31) (.cells #[.bool false] 4)
  rw [← hw0] at q0 q1 q2 q3 qs qb
  have hb1 : Below w0.heap.size w0 w1 := by rw [hw0]; exact HB1.out
  obtain ⟨WA, hWA⟩ : ∃ WA, WA = (((w1.alloc (.cells #[.int .i64 0] TI)).alloc (.cells #[.int .u64 0] 29)).alloc (.cells #[.int .i64 0] TI)).alloc (.cells #[.int .i64 ((clamp n : Nat) : Int)] TI) := ⟨_, rfl⟩
  obtain ⟨p0, p1, p2, p3, ps, pb⟩ := boxes4 w1 (.cells #[.int .i64 0] TI) (.cells #[.int .u64 0] 29) (.cells #[.int .i64 0] TI) (.cells #[.int .i64 ((clamp n : Nat) : Int)] TI)
  rw [← hWA] at p0 p1 p2 p3 ps pb
  rw [HCL.out] at p3
  try rw [HV.out] at p0
  rw [← hWA]
  have hw1s := hb1.size
  have b0 := (pb.block _ (by omega)).trans ((hb1.block _ (hlt q0)).trans q0)
  have b1 := (pb.block _ (by omega)).trans ((hb1.block _ (hlt q1)).trans q1)
  have b2 := (pb.block _ (by omega)).trans ((hb1.block _ (hlt q2)).trans q2)
  have b3 := (pb.block _ (by omega)).trans ((hb1.block _ (hlt q3)).trans q3)
  have bb : Below w.heap.size w WA := (qb.trans (hb1.mono qb.size)).trans (pb.mono (Nat.le_trans qb.size hb1.size))
  have z1 : w.heap.size + 1 + 1 + 1 < w1.heap.size := by omega
  have P3 := Lib.hid p3
  have BASE := Lib.hid (Base.mk b0 b1 b2 p0 bb)
  have B3 := Lib.hid b3
  have P1 := Lib.hid p1
  have P2 := Lib.hid p2
  clear hWA hw0 HB1 q0 q1 q2 q3 qs qb hb1 p0 p1 p2 p3 pb b0 b1 b2 b3 bb hw1s
  refine range_block (G := fun a' V => a' = { tmps := #[.int .i64 n, .int .i64 cut, .int .i64 stop, .int .i64 i, .agg #[.int .u64 k, .int .i64 t, .int .i64 u], undef, .pointer (some ⟨w.heap.size, 0, none⟩), .pointer (some ⟨w.heap.size + 1, 0, none⟩), undef, .pointer (some ⟨w.heap.size + 1 + 1, 0, none⟩), .pointer (some ⟨w.heap.size + 1 + 1 + 1, 0, none⟩), .pointer (some ⟨w1.heap.size, 0, none⟩), .pointer (some ⟨w1.heap.size + 1, 0, none⟩), .pointer (some ⟨w1.heap.size + 1 + 1, 0, none⟩), undef, undef, undef, undef, .bool true, .bool false, .int .i64 n, .int .i64 0, .int .i64 0, .int .i64 n, .func (.func 71) #[] #[.pointer (some ⟨w1.heap.size + 1 + 1 + 1, 0, none⟩)], undef, undef, undef, undef, undef, undef, undef, undef, undef, undef, undef, undef, undef, undef, undef, undef, undef, undef, undef, undef, undef, undef, undef, undef, undef, undef, undef, undef, undef, undef, undef, undef, undef, undef, undef, undef, undef, undef, undef, undef, undef, undef, undef, undef, undef, undef, undef, undef, undef, undef, undef, undef, undef, undef, undef, undef, undef, undef, undef, undef, undef, undef, undef, undef, undef, undef, undef, undef, undef, undef, undef, undef, undef, undef, undef, undef, undef, undef, undef, undef, undef, undef, undef, undef, undef, undef, undef, undef, undef, undef, undef], defers := [{ target := .collected WA.heap.size, args := #[] }] } ∧ Base w w1.heap.size cut stop k t u c V ∧ V.heap[w.heap.size + 1 + 1 + 1]? = some (.cells #[.bool false] 4 (0, 0)) ∧ V.heap[WA.heap.size]? = some (.deferred (some [])) ∧ ∃ m : Nat, m ≤ 2 ^ c ∧ (m = 2 ^ c ∨ (m : Int) = stop) ∧ V.heap[w1.heap.size + 1 + 1]? = some (.cells #[.int .i64 (m : Int)] TI (0, 0))) ?loop1 ?rest1
  case loop1 =>
    refine range_law (by rfl) (by omega) (gf := 71) (lb := #[.pointer (some ⟨w1.heap.size + 1 + 1 + 1, 0, none⟩)]) rfl trivial (enters_of Try.func71 (by kernel_rfl) rfl)
      (all_gives Fence.wide _ trivial rfl (by omega) (w1.heap.size + 1 + 1 + 1) c hc (fun _ _ _ => True) WA (cellOf P3.out 0)) (Below.refl _ _) (fun _ => rfl) (fun _ _ => trivial) (fun _ _ _ _ => trivial)
      (fun pre V => pre = List.range pre.length ∧ Base w w1.heap.size cut stop k t u c V ∧ V.heap[w.heap.size + 1 + 1 + 1]? = some (.cells #[.bool false] 4 (0, 0)) ∧ V.heap[w1.heap.size + 1]? = some (.cells #[.int .u64 (pre.length : Int)] 29 (0, 0)) ∧ V.heap[w1.heap.size + 1 + 1]? = some (.cells #[.int .i64 (pre.length : Int)] TI (0, 0)))
      (fun code pre V => (code = .ret ∧ ¬ pre <+: List.range (2 ^ c)) ∨ (code = .exit 0 ∧ Base w w1.heap.size cut stop k t u c V ∧ V.heap[w.heap.size + 1 + 1 + 1]? = some (.cells #[.bool false] 4 (0, 0)) ∧ ∃ m : Nat, m ≤ 2 ^ c ∧ (m : Int) = stop ∧ V.heap[w1.heap.size + 1 + 1]? = some (.cells #[.int .i64 (m : Int)] TI (0, 0))))
      (fun s A B row hs hg hr => ⟨hs.1, hs.2.1.grown hg hr (by omega), ownFrom_cells _ _ _ () _ _ _ hs.2.2.1 hg hr, ownFrom_cells _ _ _ () _ _ _ hs.2.2.2.1 hg hr, ownFrom_cells _ _ _ () _ _ _ hs.2.2.2.2 hg hr⟩)
      (fun code s A B row hs hg hr => by
        rcases hs with hs | ⟨e, h1, h2, m, h3, h4, h5⟩
        · exact .inl hs
        · exact .inr ⟨e, h1.grown hg hr (by omega), ownFrom_cells _ _ _ () _ _ _ h2 hg hr, m, h3, h4, ownFrom_cells _ _ _ () _ _ _ h5 hg hr⟩)
      ⟨rfl, BASE.out, B3.out, P1.out, P2.out⟩
      (fun x a' V => ∃ PB, WA.heap.size + 1 < PB ∧ V.heap[PB]? = some (.cells #[.int .u64 ((x : Nat) : Int), .int .i64 (-1), .int .i64 0] 31 (0, 0)) ∧ a' = { tmps := #[.int .i64 n, .int .i64 cut, .int .i64 stop, .int .i64 i, .agg #[.int .u64 k, .int .i64 t, .int .i64 u], undef, .pointer (some ⟨w.heap.size, 0, none⟩), .pointer (some ⟨w.heap.size + 1, 0, none⟩), undef, .pointer (some ⟨w.heap.size + 1 + 1, 0, none⟩), .pointer (some ⟨w.heap.size + 1 + 1 + 1, 0, none⟩), .pointer (some ⟨w1.heap.size, 0, none⟩), .pointer (some ⟨w1.heap.size + 1, 0, none⟩), .pointer (some ⟨w1.heap.size + 1 + 1, 0, none⟩), .pointer (some ⟨PB, 0, none⟩), undef, undef, undef, .bool true, .bool false, .int .i64 n, .int .i64 0, .int .i64 0, .int .i64 n, .func (.func 71) #[] #[.pointer (some ⟨w1.heap.size + 1 + 1 + 1, 0, none⟩)], .agg #[.int .u64 ((x : Nat) : Int), .int .i64 (-1), .int .i64 0], undef, undef, undef, undef, undef, undef, undef, undef, undef, undef, undef, undef, undef, undef, undef, undef, undef, undef, undef, undef, undef, undef, undef, undef, undef, undef, undef, undef, undef, undef, undef, undef, undef, undef, undef, undef, undef, undef, undef, undef, undef, undef, undef, undef, undef, undef, undef, undef, undef, undef, undef, undef, undef, undef, undef, undef, undef, undef, undef, undef, undef, undef, undef, undef, undef, undef, undef, undef, undef, undef, undef, undef, undef, undef, undef, undef, undef, undef, undef, undef, undef, undef, undef, undef, undef, undef, undef, undef, undef, undef], defers := [] })
      (fun x s A B row hs hg hr => by
        obtain ⟨PB, h1, h2, h3⟩ := hs
        exact ⟨PB, h1, ownFrom_cells _ _ _ () _ _ _ h2 hg hr, h3⟩)
      ?assign ?body ?done ?stop
    case assign =>
      rintro pre x V K hV ⟨g0, g1, g2, g3, g4⟩ hK
      unfold encA
      gi_wp2
      refine hK _ _ ((KeepsOthers.alloc _ _).from _) trivial ⟨g0, g1.below ((Below.refl _ V).alloc (Nat.le_refl _) _), (Below.heap_alloc _ _ _ (hlt g2)).trans g2, (Below.heap_alloc _ _ _ (hlt g3)).trans g3, (Below.heap_alloc _ _ _ (hlt g4)).trans g4⟩ ⟨V.heap.size, hV, World.alloc_heap_new V _, rfl⟩
    case body =>
      rintro pre x a' V hV hr ⟨g0, g1, g2, g3, g4⟩ ⟨PB, hPB, gp, rfl⟩ hlen
      have k1 : V.cell? ⟨w1.heap.size + 1 + 1, 0, none⟩ = some (.int .i64 (pre.length : Int)) := cellOf g4 0
      have k2 : V.cell? ⟨w.heap.size + 1, 0, none⟩ = some (.int .i64 stop) := cellOf g1.b1 0
      have k3 : V.cell? ⟨PB, 0, none⟩ = some (.int .u64 ((x : Nat) : Int)) := cellOf gp 0
      have k4 : V.cell? ⟨PB, 1, none⟩ = some (.int .i64 (-1)) := cellOf gp 1
      have k5 : V.cell? ⟨PB, 2, none⟩ = some (.int .i64 0) := cellOf gp 2
      have k6 : V.cell? ⟨w1.heap.size + 1, 0, none⟩ = some (.int .u64 (pre.length : Int)) := cellOf g3 0
      have k7 : V.cell? ⟨w.heap.size + 1 + 1 + 1, 0, none⟩ = some (.bool false) := cellOf g2 0
      have f2 := frozenOf g2 0
      have f3 := frozenOf g3 0
      have f4 := frozenOf g4 0
      obtain ⟨L, hL⟩ : ∃ L, L = pre.length := ⟨_, rfl⟩
      rw [← hL] at g0 g3 g4 k1 k6 hlen
      have G0 := Lib.hid g0
      have G1 := Lib.hid g1
      have G2 := Lib.hid g2
      have G3 := Lib.hid g3
      have G4 := Lib.hid g4
      have HL := Lib.hid hL
      clear g0 g1 g2 g3 g4 gp hr hL
      by_cases hst : (L : Int) = stop
      · have e1 : ((L : Int) == stop) = true := by simpa using hst
        have HS := Lib.hid hst
        clear hst
        gi_wp2
        exact ⟨KeepsFrom.refl _ _, trivial, .inr ⟨rfl, G1.out, G2.out, L, by omega, HS.out, G4.out⟩⟩
      · have e1 : ((L : Int) == stop) = false := by simpa using hst
        by_cases hx : x = L
        · subst hx
          have l1 : (x : Int) ≤ 1024 := by omega
          have l0 : (0 : Int) ≤ (x : Int) := by omega
          gi_wp2
          refine ⟨((KeepsOthers.setCell _ _ _).trans (KeepsOthers.setCell _ _ _)).from _, trivial, ?_, (G1.out.set (by omega) (by omega) _).set (by omega) (by omega) _, keep_blk (keep_blk G2.out (by omega)) (by omega), ?_, ?_⟩
          · rw [List.length_append, ← HL.out, List.length_singleton, List.range_succ, ← G0.out]
          · rw [List.length_append, ← HL.out]
            exact keep_blk (set_blk G3.out) (by omega)
          · rw [List.length_append, ← HL.out]
            exact set_blk (keep_blk G4.out (by omega))
        · have x1 : ¬ (x : Int) = (L : Int) := by omega
          have x2 : ((x : Int) == (L : Int)) = false := by simp; omega
          have x3 : ((x : Int) != (L : Int)) = true := by simp; omega
          have HX := Lib.hid hx
          clear hx hst
          gi_wp2
          refine ⟨(KeepsOthers.setCell _ _ _).from _, trivial, .inl ⟨rfl, ?_⟩⟩
          rw [G0.out]
          exact bad_prefix HX.out
    case done =>
      rintro xs V rfl ⟨-, g1, g2, -, g4⟩ hK
      rw [List.length_range] at g4
      exact ⟨.inl rfl, rfl, g1, g2, hK, _, Nat.le_refl _, .inl rfl, g4⟩
    case stop =>
      rintro code pre V hp2 (⟨rfl, h⟩ | ⟨rfl, h1, h2, m, h3, h4, h5⟩) hK
      · exact absurd hp2 h
      · have H := Lib.hid (And.intro h1 (And.intro h2 (And.intro hK (And.intro h3 (And.intro h4 h5)))))
        clear h1 h2 h3 h4 h5 hK hp2
        gi_wp2
        obtain ⟨h1, h2, hK, h3, h4, h5⟩ := H.out
        exact ⟨h1, h2, by rw [← ps]; exact hK, m, h3, .inr h4, h5⟩
  case rest1 =>
    rintro a' V ⟨rfl, g1, g2, gD, m, hm1, hm2, g3⟩
    have k1 : V.cell? ⟨w1.heap.size + 1 + 1, 0, none⟩ = some (.int .i64 (m : Int)) := cellOf g3 0
    have k2 : V.cell? ⟨w.heap.size + 1, 0, none⟩ = some (.int .i64 stop) := cellOf g1.b1 0
    have k3 : V.cell? ⟨w1.heap.size, 0, none⟩ = some (.int .i64 (c : Int)) := cellOf g1.p0 0
    have e0 : ((2 : Int) ^ c) = ((2 ^ c : Nat) : Int) := by push_cast; rfl
    obtain ⟨N, hN⟩ : ∃ N, N = 2 ^ c := ⟨_, rfl⟩
    have hw : IntKind.i64.wrap (2 ^ c) = (N : Int) := by
      rw [e0, ← hN]
      exact IntWalk.i64_in _ (by omega)
    have c0 : (0 : Int) ≤ (c : Int) := by omega
    have c1 : (c : Int) ≤ 10 := by omega
    rw [← hN] at hm1 hm2
    have G1 := Lib.hid g1
    have G2 := Lib.hid g2
    rw [ps] at gD
    have GD := Lib.hid gD
    clear g1 g2 gD g3 e0 hN
    have h3 := fun (v1 v2 v4 v5 v8 v12 v13 v14 v15 v16 v17 v18 v19 v20 v21 v22 v23 v24 v25 v26 v27 v28 v29 v30 v31 v32 v33 v34 v35 v36 v37 v38 v39 v40 v41 v42 v43 v44 v45 v46 v47 v48 v49 v50 v51 v52 v53 v54 v55 v56 v57 v58 v59 v60 v61 v62 v63 v64 v65 v66 v67 v68 v69 v70 v71 v72 v73 v74 v75 v76 v77 v78 v79 v80 v81 v82 v83 v84 v85 v86 v87 v88 v89 v90 v91 v92 v93 v94 v95 v96 v97 v98 v99 v100 v101 v102 v103 v104 v105 v106 v107 v108 v109 v110 v111 v112 v113 v114 v115 : Value) (q : Nat) => rest2_ok v1 v2 v4 v5 v8 v12 v13 v14 v15 v16 v17 v18 v19 v20 v21 v22 v23 v24 v25 v26 v27 v28 v29 v30 v31 v32 v33 v34 v35 v36 v37 v38 v39 v40 v41 v42 v43 v44 v45 v46 v47 v48 v49 v50 v51 v52 v53 v54 v55 v56 v57 v58 v59 v60 v61 v62 v63 v64 v65 v66 v67 v68 v69 v70 v71 v72 v73 v74 v75 v76 v77 v78 v79 v80 v81 v82 v83 v84 v85 v86 v87 v88 v89 v90 v91 v92 v93 v94 v95 v96 v97 v98 v99 v100 v101 v102 v103 v104 v105 v106 v107 v108 v109 v110 v111 v112 v113 v114 v115 w (V.drewN q) w.heap.size w1.heap.size (w1.heap.size + 1 + 1 + 1 + 1) c n cut stop i k t u hc HCL.out HK.out.1 HK.out.2 rfl (by omega) (G1.out.drewN q) G2.out GD.out (by omega) _ rfl
    simp only [Try.f4, Option.getD_some, sndC] at h3
    have H3 := Lib.hid h3
    clear h3
    by_cases hmN : m = N
    · have e1 : ((m : Int) == (N : Int)) = true := by simp; omega
      clear hm2
      simp only [Exit.then]
      apply_assumption
      refine wpIn_wide.2 ?_
      go_upto_region 14 with (fail)
      go_quiet (fail)
      simp only [Exit.then]
      apply_assumption
      go_simp
      refine wp_cond_false rfl (wp_skip ?_)
      simp only [Exit.then]
      apply_assumption
      exact wpIn_wide.1 (H3.out _ _ _ _ _ _ _ _ _ _ _ _ _ _ _ _ _ _ _ _ _ _ _ _ _ _ _ _ _ _ _ _ _ _ _ _ _ _ _ _ _ _ _ _ _ _ _ _ _ _ _ _ _ _ _ _ _ _ _ _ _ _ _ _ _ _ _ _ _ _ _ _ _ _ _ _ _ _ _ _ _ _ _ _ _ _ _ _ _ _ _ _ _ _ _ _ _ _ _ _ _ _ _ _ _ _ _ _ _ nq)
    · have e1 : ((m : Int) == (N : Int)) = false := by simp; omega
      have e2 : ((m : Int) == stop) = true := by simp; omega
      have e3 : ((m : Int) != (N : Int)) = true := by simp; omega
      have e4 : ((m : Int) != stop) = false := by simp; omega
      simp only [Exit.then]
      apply_assumption
      refine wpIn_wide.2 ?_
      go_upto_region 14 with (fail)
      go_quiet (fail)
      simp only [Exit.then]
      apply_assumption
      go_simp
      refine wp_cond_false rfl (wp_skip ?_)
      simp only [Exit.then]
      apply_assumption
      exact wpIn_wide.1 (H3.out _ _ _ _ _ _ _ _ _ _ _ _ _ _ _ _ _ _ _ _ _ _ _ _ _ _ _ _ _ _ _ _ _ _ _ _ _ _ _ _ _ _ _ _ _ _ _ _ _ _ _ _ _ _ _ _ _ _ _ _ _ _ _ _ _ _ _ _ _ _ _ _ _ _ _ _ _ _ _ _ _ _ _ _ _ _ _ _ _ _ _ _ _ _ _ _ _ _ _ _ _ _ _ _ _ _ _ _ _ nq)
set_option maxRecDepth 100000 in
set_option maxHeartbeats 8000000 in
theorem CrashAll_high (c : Nat) (hc : c ≤ 10) (n cut stop i k t u : Int) (hcl : clamp n = c) (hn : 0 ≤ n) (hn2 : 10 < n) (hz : c = 10) (hk0 : 0 ≤ k) (hk1 : k < 18446744073709551616) (w : World) :
    Calls Try.prog 4 #[.int .i64 n, .int .i64 cut, .int .i64 stop, .int .i64 i, .agg #[.int .u64 k, .int .i64 t, .int .i64 u]] w fun e w' => e = .returned (.bool true) ∧ Below w.heap.size w w' := by
  have hp := pow_le hc
  refine (callsIn_wide (n := 20)).1 ?_
  refine callsIn_of_wp_marks Try.func4 rfl trivial ?_ rfl
  simp only [Try.ntmps4, List.size_toArray, List.length_cons, List.length_nil, Nat.reduceAdd, Nat.reduceSub, Array.replicate_succ, Array.replicate_zero, List.push_toArray, List.append_toArray, List.nil_append, List.cons_append]
  have HCL := Lib.hid hcl
  have HK := Lib.hid (And.intro hk0 hk1)
  have HV := Lib.hid (show ((10 : Int)) = (c : Int) from by omega)
  clear hcl hk0 hk1 hz
  gi_wp2_with (first
    | (refine ⟨trivial, ?_⟩; gi_at_call 21; refine (callsIn_wide.2 (keeps_four _)).mono ?_; rintro e w1 ⟨rfl, hb⟩; have HB1 := Lib.hid hb; clear hb)
    | (refine ⟨trivial, ?_⟩; gi_at_call 22; refine (all_in Fence.wide _ trivial rfl _ _).mono ?_; rintro e w' ⟨rfl, rfl⟩))
  obtain ⟨w0, hw0⟩ : ∃ w0, w0 = (((w.alloc (.cells #[.int .i64 cut] TI)).alloc (.cells #[.int .i64 stop] TI)).alloc (.cells #[.int .u64 k, .int .i64 t, .int .i64 u] 31)).alloc (.cells #[.bool false] 4) := ⟨_, rfl⟩
  obtain ⟨q0, q1, q2, q3, qs, qb⟩ := boxes4 w (.cells #[.int .i64 cut] TI) (.cells #[.int .i64 stop] TI) (.cells #[.int .u64 k, .int .i64 t, .int .i64 u] 31) (.cells #[.bool false] 4)
  rw [← hw0] at q0 q1 q2 q3 qs qb
  have hb1 : Below w0.heap.size w0 w1 := by rw [hw0]; exact HB1.out
  obtain ⟨WA, hWA⟩ : ∃ WA, WA = (((w1.alloc (.cells #[.int .i64 10] TI)).alloc (.cells #[.int .u64 0] 29)).alloc (.cells #[.int .i64 0] TI)).alloc (.cells #[.int .i64 ((clamp n : Nat) : Int)] TI) := ⟨_, rfl⟩
  obtain ⟨p0, p1, p2, p3, ps, pb⟩ := boxes4 w1 (.cells #[.int .i64 10] TI) (.cells #[.int .u64 0] 29) (.cells #[.int .i64 0] TI) (.cells #[.int .i64 ((clamp n : Nat) : Int)] TI)
  rw [← hWA] at p0 p1 p2 p3 ps pb
  rw [HCL.out] at p3
  try rw [HV.out] at p0
  rw [← hWA]
  have hw1s := hb1.size
  have b0 := (pb.block _ (by omega)).trans ((hb1.block _ (hlt q0)).trans q0)
  have b1 := (pb.block _ (by omega)).trans ((hb1.block _ (hlt q1)).trans q1)
  have b2 := (pb.block _ (by omega)).trans ((hb1.block _ (hlt q2)).trans q2)
  have b3 := (pb.block _ (by omega)).trans ((hb1.block _ (hlt q3)).trans q3)
  have bb : Below w.heap.size w WA := (qb.trans (hb1.mono qb.size)).trans (pb.mono (Nat.le_trans qb.size hb1.size))
  have z1 : w.heap.size + 1 + 1 + 1 < w1.heap.size := by omega
  have P3 := Lib.hid p3
  have BASE := Lib.hid (Base.mk b0 b1 b2 p0 bb)
  have B3 := Lib.hid b3
  have P1 := Lib.hid p1
  have P2 := Lib.hid p2
  clear hWA hw0 HB1 q0 q1 q2 q3 qs qb hb1 p0 p1 p2 p3 pb b0 b1 b2 b3 bb hw1s
  refine range_block (G := fun a' V => a' = { tmps := #[.int .i64 n, .int .i64 cut, .int .i64 stop, .int .i64 i, .agg #[.int .u64 k, .int .i64 t, .int .i64 u], undef, .pointer (some ⟨w.heap.size, 0, none⟩), .pointer (some ⟨w.heap.size + 1, 0, none⟩), undef, .pointer (some ⟨w.heap.size + 1 + 1, 0, none⟩), .pointer (some ⟨w.heap.size + 1 + 1 + 1, 0, none⟩), .pointer (some ⟨w1.heap.size, 0, none⟩), .pointer (some ⟨w1.heap.size + 1, 0, none⟩), .pointer (some ⟨w1.heap.size + 1 + 1, 0, none⟩), undef, undef, undef, undef, .bool true, .bool false, .int .i64 n, .int .i64 n, .int .i64 10, .int .i64 n, .func (.func 71) #[] #[.pointer (some ⟨w1.heap.size + 1 + 1 + 1, 0, none⟩)], undef, undef, undef, undef, undef, undef, undef, undef, undef, undef, undef, undef, undef, undef, undef, undef, undef, undef, undef, undef, undef, undef, undef, undef, undef, undef, undef, undef, undef, undef, undef, undef, undef, undef, undef, undef, undef, undef, undef, undef, undef, undef, undef, undef, undef, undef, undef, undef, undef, undef, undef, undef, undef, undef, undef, undef, undef, undef, undef, undef, undef, undef, undef, undef, undef, undef, undef, undef, undef, undef, undef, undef, undef, undef, undef, undef, undef, undef, undef, undef, undef, undef, undef, undef, undef, undef, undef, undef, undef, undef, undef], defers := [{ target := .collected WA.heap.size, args := #[] }] } ∧ Base w w1.heap.size cut stop k t u c V ∧ V.heap[w.heap.size + 1 + 1 + 1]? = some (.cells #[.bool false] 4 (0, 0)) ∧ V.heap[WA.heap.size]? = some (.deferred (some [])) ∧ ∃ m : Nat, m ≤ 2 ^ c ∧ (m = 2 ^ c ∨ (m : Int) = stop) ∧ V.heap[w1.heap.size + 1 + 1]? = some (.cells #[.int .i64 (m : Int)] TI (0, 0))) ?loop1 ?rest1
  case loop1 =>
    refine range_law (by rfl) (by omega) (gf := 71) (lb := #[.pointer (some ⟨w1.heap.size + 1 + 1 + 1, 0, none⟩)]) rfl trivial (enters_of Try.func71 (by kernel_rfl) rfl)
      (all_gives Fence.wide _ trivial rfl (by omega) (w1.heap.size + 1 + 1 + 1) c hc (fun _ _ _ => True) WA (cellOf P3.out 0)) (Below.refl _ _) (fun _ => rfl) (fun _ _ => trivial) (fun _ _ _ _ => trivial)
      (fun pre V => pre = List.range pre.length ∧ Base w w1.heap.size cut stop k t u c V ∧ V.heap[w.heap.size + 1 + 1 + 1]? = some (.cells #[.bool false] 4 (0, 0)) ∧ V.heap[w1.heap.size + 1]? = some (.cells #[.int .u64 (pre.length : Int)] 29 (0, 0)) ∧ V.heap[w1.heap.size + 1 + 1]? = some (.cells #[.int .i64 (pre.length : Int)] TI (0, 0)))
      (fun code pre V => (code = .ret ∧ ¬ pre <+: List.range (2 ^ c)) ∨ (code = .exit 0 ∧ Base w w1.heap.size cut stop k t u c V ∧ V.heap[w.heap.size + 1 + 1 + 1]? = some (.cells #[.bool false] 4 (0, 0)) ∧ ∃ m : Nat, m ≤ 2 ^ c ∧ (m : Int) = stop ∧ V.heap[w1.heap.size + 1 + 1]? = some (.cells #[.int .i64 (m : Int)] TI (0, 0))))
      (fun s A B row hs hg hr => ⟨hs.1, hs.2.1.grown hg hr (by omega), ownFrom_cells _ _ _ () _ _ _ hs.2.2.1 hg hr, ownFrom_cells _ _ _ () _ _ _ hs.2.2.2.1 hg hr, ownFrom_cells _ _ _ () _ _ _ hs.2.2.2.2 hg hr⟩)
      (fun code s A B row hs hg hr => by
        rcases hs with hs | ⟨e, h1, h2, m, h3, h4, h5⟩
        · exact .inl hs
        · exact .inr ⟨e, h1.grown hg hr (by omega), ownFrom_cells _ _ _ () _ _ _ h2 hg hr, m, h3, h4, ownFrom_cells _ _ _ () _ _ _ h5 hg hr⟩)
      ⟨rfl, BASE.out, B3.out, P1.out, P2.out⟩
      (fun x a' V => ∃ PB, WA.heap.size + 1 < PB ∧ V.heap[PB]? = some (.cells #[.int .u64 ((x : Nat) : Int), .int .i64 (-1), .int .i64 0] 31 (0, 0)) ∧ a' = { tmps := #[.int .i64 n, .int .i64 cut, .int .i64 stop, .int .i64 i, .agg #[.int .u64 k, .int .i64 t, .int .i64 u], undef, .pointer (some ⟨w.heap.size, 0, none⟩), .pointer (some ⟨w.heap.size + 1, 0, none⟩), undef, .pointer (some ⟨w.heap.size + 1 + 1, 0, none⟩), .pointer (some ⟨w.heap.size + 1 + 1 + 1, 0, none⟩), .pointer (some ⟨w1.heap.size, 0, none⟩), .pointer (some ⟨w1.heap.size + 1, 0, none⟩), .pointer (some ⟨w1.heap.size + 1 + 1, 0, none⟩), .pointer (some ⟨PB, 0, none⟩), undef, undef, undef, .bool true, .bool false, .int .i64 n, .int .i64 n, .int .i64 10, .int .i64 n, .func (.func 71) #[] #[.pointer (some ⟨w1.heap.size + 1 + 1 + 1, 0, none⟩)], .agg #[.int .u64 ((x : Nat) : Int), .int .i64 (-1), .int .i64 0], undef, undef, undef, undef, undef, undef, undef, undef, undef, undef, undef, undef, undef, undef, undef, undef, undef, undef, undef, undef, undef, undef, undef, undef, undef, undef, undef, undef, undef, undef, undef, undef, undef, undef, undef, undef, undef, undef, undef, undef, undef, undef, undef, undef, undef, undef, undef, undef, undef, undef, undef, undef, undef, undef, undef, undef, undef, undef, undef, undef, undef, undef, undef, undef, undef, undef, undef, undef, undef, undef, undef, undef, undef, undef, undef, undef, undef, undef, undef, undef, undef, undef, undef, undef, undef, undef, undef, undef, undef, undef], defers := [] })
      (fun x s A B row hs hg hr => by
        obtain ⟨PB, h1, h2, h3⟩ := hs
        exact ⟨PB, h1, ownFrom_cells _ _ _ () _ _ _ h2 hg hr, h3⟩)
      ?assign ?body ?done ?stop
    case assign =>
      rintro pre x V K hV ⟨g0, g1, g2, g3, g4⟩ hK
      unfold encA
      gi_wp2
      refine hK _ _ ((KeepsOthers.alloc _ _).from _) trivial ⟨g0, g1.below ((Below.refl _ V).alloc (Nat.le_refl _) _), (Below.heap_alloc _ _ _ (hlt g2)).trans g2, (Below.heap_alloc _ _ _ (hlt g3)).trans g3, (Below.heap_alloc _ _ _ (hlt g4)).trans g4⟩ ⟨V.heap.size, hV, World.alloc_heap_new V _, rfl⟩
    case body =>
      rintro pre x a' V hV hr ⟨g0, g1, g2, g3, g4⟩ ⟨PB, hPB, gp, rfl⟩ hlen
      have k1 : V.cell? ⟨w1.heap.size + 1 + 1, 0, none⟩ = some (.int .i64 (pre.length : Int)) := cellOf g4 0
      have k2 : V.cell? ⟨w.heap.size + 1, 0, none⟩ = some (.int .i64 stop) := cellOf g1.b1 0
      have k3 : V.cell? ⟨PB, 0, none⟩ = some (.int .u64 ((x : Nat) : Int)) := cellOf gp 0
      have k4 : V.cell? ⟨PB, 1, none⟩ = some (.int .i64 (-1)) := cellOf gp 1
      have k5 : V.cell? ⟨PB, 2, none⟩ = some (.int .i64 0) := cellOf gp 2
      have k6 : V.cell? ⟨w1.heap.size + 1, 0, none⟩ = some (.int .u64 (pre.length : Int)) := cellOf g3 0
      have k7 : V.cell? ⟨w.heap.size + 1 + 1 + 1, 0, none⟩ = some (.bool false) := cellOf g2 0
      have f2 := frozenOf g2 0
      have f3 := frozenOf g3 0
      have f4 := frozenOf g4 0
      obtain ⟨L, hL⟩ : ∃ L, L = pre.length := ⟨_, rfl⟩
      rw [← hL] at g0 g3 g4 k1 k6 hlen
      have G0 := Lib.hid g0
      have G1 := Lib.hid g1
      have G2 := Lib.hid g2
      have G3 := Lib.hid g3
      have G4 := Lib.hid g4
      have HL := Lib.hid hL
      clear g0 g1 g2 g3 g4 gp hr hL
      by_cases hst : (L : Int) = stop
      · have e1 : ((L : Int) == stop) = true := by simpa using hst
        have HS := Lib.hid hst
        clear hst
        gi_wp2
        exact ⟨KeepsFrom.refl _ _, trivial, .inr ⟨rfl, G1.out, G2.out, L, by omega, HS.out, G4.out⟩⟩
      · have e1 : ((L : Int) == stop) = false := by simpa using hst
        by_cases hx : x = L
        · subst hx
          have l1 : (x : Int) ≤ 1024 := by omega
          have l0 : (0 : Int) ≤ (x : Int) := by omega
          gi_wp2
          refine ⟨((KeepsOthers.setCell _ _ _).trans (KeepsOthers.setCell _ _ _)).from _, trivial, ?_, (G1.out.set (by omega) (by omega) _).set (by omega) (by omega) _, keep_blk (keep_blk G2.out (by omega)) (by omega), ?_, ?_⟩
          · rw [List.length_append, ← HL.out, List.length_singleton, List.range_succ, ← G0.out]
          · rw [List.length_append, ← HL.out]
            exact keep_blk (set_blk G3.out) (by omega)
          · rw [List.length_append, ← HL.out]
            exact set_blk (keep_blk G4.out (by omega))
        · have x1 : ¬ (x : Int) = (L : Int) := by omega
          have x2 : ((x : Int) == (L : Int)) = false := by simp; omega
          have x3 : ((x : Int) != (L : Int)) = true := by simp; omega
          have HX := Lib.hid hx
          clear hx hst
          gi_wp2
          refine ⟨(KeepsOthers.setCell _ _ _).from _, trivial, .inl ⟨rfl, ?_⟩⟩
          rw [G0.out]
          exact bad_prefix HX.out
    case done =>
      rintro xs V rfl ⟨-, g1, g2, -, g4⟩ hK
      rw [List.length_range] at g4
      exact ⟨.inl rfl, rfl, g1, g2, hK, _, Nat.le_refl _, .inl rfl, g4⟩
    case stop =>
      rintro code pre V hp2 (⟨rfl, h⟩ | ⟨rfl, h1, h2, m, h3, h4, h5⟩) hK
      · exact absurd hp2 h
      · have H := Lib.hid (And.intro h1 (And.intro h2 (And.intro hK (And.intro h3 (And.intro h4 h5)))))
        clear h1 h2 h3 h4 h5 hK hp2
        gi_wp2
        obtain ⟨h1, h2, hK, h3, h4, h5⟩ := H.out
        exact ⟨h1, h2, by rw [← ps]; exact hK, m, h3, .inr h4, h5⟩
  case rest1 =>
    rintro a' V ⟨rfl, g1, g2, gD, m, hm1, hm2, g3⟩
    have k1 : V.cell? ⟨w1.heap.size + 1 + 1, 0, none⟩ = some (.int .i64 (m : Int)) := cellOf g3 0
    have k2 : V.cell? ⟨w.heap.size + 1, 0, none⟩ = some (.int .i64 stop) := cellOf g1.b1 0
    have k3 : V.cell? ⟨w1.heap.size, 0, none⟩ = some (.int .i64 (c : Int)) := cellOf g1.p0 0
    have e0 : ((2 : Int) ^ c) = ((2 ^ c : Nat) : Int) := by push_cast; rfl
    obtain ⟨N, hN⟩ : ∃ N, N = 2 ^ c := ⟨_, rfl⟩
    have hw : IntKind.i64.wrap (2 ^ c) = (N : Int) := by
      rw [e0, ← hN]
      exact IntWalk.i64_in _ (by omega)
    have c0 : (0 : Int) ≤ (c : Int) := by omega
    have c1 : (c : Int) ≤ 10 := by omega
    rw [← hN] at hm1 hm2
    have G1 := Lib.hid g1
    have G2 := Lib.hid g2
    rw [ps] at gD
    have GD := Lib.hid gD
    clear g1 g2 gD g3 e0 hN
    have h3 := fun (v1 v2 v4 v5 v8 v12 v13 v14 v15 v16 v17 v18 v19 v20 v21 v22 v23 v24 v25 v26 v27 v28 v29 v30 v31 v32 v33 v34 v35 v36 v37 v38 v39 v40 v41 v42 v43 v44 v45 v46 v47 v48 v49 v50 v51 v52 v53 v54 v55 v56 v57 v58 v59 v60 v61 v62 v63 v64 v65 v66 v67 v68 v69 v70 v71 v72 v73 v74 v75 v76 v77 v78 v79 v80 v81 v82 v83 v84 v85 v86 v87 v88 v89 v90 v91 v92 v93 v94 v95 v96 v97 v98 v99 v100 v101 v102 v103 v104 v105 v106 v107 v108 v109 v110 v111 v112 v113 v114 v115 : Value) (q : Nat) => rest2_ok v1 v2 v4 v5 v8 v12 v13 v14 v15 v16 v17 v18 v19 v20 v21 v22 v23 v24 v25 v26 v27 v28 v29 v30 v31 v32 v33 v34 v35 v36 v37 v38 v39 v40 v41 v42 v43 v44 v45 v46 v47 v48 v49 v50 v51 v52 v53 v54 v55 v56 v57 v58 v59 v60 v61 v62 v63 v64 v65 v66 v67 v68 v69 v70 v71 v72 v73 v74 v75 v76 v77 v78 v79 v80 v81 v82 v83 v84 v85 v86 v87 v88 v89 v90 v91 v92 v93 v94 v95 v96 v97 v98 v99 v100 v101 v102 v103 v104 v105 v106 v107 v108 v109 v110 v111 v112 v113 v114 v115 w (V.drewN q) w.heap.size w1.heap.size (w1.heap.size + 1 + 1 + 1 + 1) c n cut stop i k t u hc HCL.out HK.out.1 HK.out.2 rfl (by omega) (G1.out.drewN q) G2.out GD.out (by omega) _ rfl
    simp only [Try.f4, Option.getD_some, sndC] at h3
    have H3 := Lib.hid h3
    clear h3
    by_cases hmN : m = N
    · have e1 : ((m : Int) == (N : Int)) = true := by simp; omega
      clear hm2
      simp only [Exit.then]
      apply_assumption
      refine wpIn_wide.2 ?_
      go_upto_region 14 with (fail)
      go_quiet (fail)
      simp only [Exit.then]
      apply_assumption
      go_simp
      refine wp_cond_false rfl (wp_skip ?_)
      simp only [Exit.then]
      apply_assumption
      exact wpIn_wide.1 (H3.out _ _ _ _ _ _ _ _ _ _ _ _ _ _ _ _ _ _ _ _ _ _ _ _ _ _ _ _ _ _ _ _ _ _ _ _ _ _ _ _ _ _ _ _ _ _ _ _ _ _ _ _ _ _ _ _ _ _ _ _ _ _ _ _ _ _ _ _ _ _ _ _ _ _ _ _ _ _ _ _ _ _ _ _ _ _ _ _ _ _ _ _ _ _ _ _ _ _ _ _ _ _ _ _ _ _ _ _ _ nq)
    · have e1 : ((m : Int) == (N : Int)) = false := by simp; omega
      have e2 : ((m : Int) == stop) = true := by simp; omega
      have e3 : ((m : Int) != (N : Int)) = true := by simp; omega
      have e4 : ((m : Int) != stop) = false := by simp; omega
      simp only [Exit.then]
      apply_assumption
      refine wpIn_wide.2 ?_
      go_upto_region 14 with (fail)
      go_quiet (fail)
      simp only [Exit.then]
      apply_assumption
      go_simp
      refine wp_cond_false rfl (wp_skip ?_)
      simp only [Exit.then]
      apply_assumption
      exact wpIn_wide.1 (H3.out _ _ _ _ _ _ _ _ _ _ _ _ _ _ _ _ _ _ _ _ _ _ _ _ _ _ _ _ _ _ _ _ _ _ _ _ _ _ _ _ _ _ _ _ _ _ _ _ _ _ _ _ _ _ _ _ _ _ _ _ _ _ _ _ _ _ _ _ _ _ _ _ _ _ _ _ _ _ _ _ _ _ _ _ _ _ _ _ _ _ _ _ _ _ _ _ _ _ _ _ _ _ _ _ _ _ _ _ _ nq)
end Go.Proofs.Ytkbialmlddhclaa.Ca

/- CrashAll, whatever its arguments. No condition. -/
namespace Go.Proofs.Ytkbialmlddhclaa.Ca
open Go.RowKit Go.Shelf
theorem crash_all_walk (n cut stop i k t u : Int) (W : World) (_ : (Lit.int .i64 n).wf = true) (_ : (Lit.int .i64 cut).wf = true) (_ : (Lit.int .i64 stop).wf = true) (_ : (Lit.int .i64 i).wf = true) (hk : (Lit.int .u64 k).wf = true) (_ : (Lit.int .i64 t).wf = true) (_ : (Lit.int .i64 u).wf = true) :
    Calls Try.prog 4 #[.int .i64 n, .int .i64 cut, .int .i64 stop, .int .i64 i, .agg #[.int .u64 k, .int .i64 t, .int .i64 u]] W fun e w' => e = .returned (.bool true) ∧ Below W.heap.size W w' := by
  unfold Lit.wf at hk
  rw [Bool.and_eq_true, decide_eq_true_eq, decide_eq_true_eq] at hk
  have e1 : IntKind.min .u64 = 0 := by decide
  have e2 : IntKind.max .u64 = 18446744073709551615 := by decide
  rw [e1, e2] at hk
  have h0 : 0 ≤ k := hk.1
  have h1 : k < 18446744073709551616 := by omega
  rcases Int.lt_or_le n 0 with hn | hn
  · exact CrashAll_low 0 (by omega) n cut stop i k t u (by unfold clamp; rw [if_pos hn]) hn rfl h0 h1 W
  · rcases Int.lt_or_le 10 n with h | h
    · exact CrashAll_high 10 (by omega) n cut stop i k t u (by unfold clamp; rw [if_neg (by omega), if_pos h]) hn h rfl h0 h1 W
    · obtain ⟨c, rfl⟩ : ∃ c : Nat, n = (c : Int) := ⟨n.toNat, by omega⟩
      exact CrashAll_mid c (by omega) (c : Int) cut stop i k t u (by unfold clamp; rw [if_neg (by omega), if_neg (by omega)]; omega) h0 h1 W
end Go.Proofs.Ytkbialmlddhclaa.Ca

