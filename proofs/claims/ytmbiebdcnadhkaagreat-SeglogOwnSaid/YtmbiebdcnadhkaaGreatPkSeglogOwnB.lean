/- The parts of this proof, one after the other (wip/tools/packall.py, shake.py). -/
import Derived.Test.YtmbiebdcnadhkaaGreatPkSeglogOwnA
import Derived.OrdersHeld
import Derived.Deep.RegionHeld3
import Derived.Laws.BitsLemmas
import Derived.RowKit
import Derived.Test.YtmbiebdcnadhkaaGreatProg
import Derived.WalkKit
import Derived.WalkSpells
import Derived.DataElems
import Derived.Maps.Keyed
import Derived.DeepKeys4
import Derived.Deep.QuietTactic
import Derived.BigQuiet
import Derived.Lib.Hide
import Derived.Lib.MakeNoZero
import Derived.Laws.CopyOwn
import Derived.Laws.Externs
import Derived.Deep.RegionLaw
set_option linter.unusedVariables false
set_option linter.unusedSimpArgs false
namespace Go.Proofs.YtmbiebdcnadhkaaGreatW.PrintLast
section
variable {P : Program} {ops : Array Oper} {Q : Exit → Act → World → Prop} {md : Region.Mode} {S : World → Prop} {ds : List Nat}
def Region.reachB (md : Region.Mode) (ops : Array Oper) (i : Nat) : Nat → Nat → Bool
 | 0, _ => false
 | fuel + 1, d => match ops[d]? with
  | some o => o.after.any fun e => Region.binds md e && (e.on == i || Region.reachB md ops i fuel e.on)
  | none => false
def Region.lastB (md : Region.Mode) (ops : Array Oper) (listed : Array Bool) (ds : List Nat) (i : Nat) : Bool :=
 ds.all fun d => listed.getD d true || Region.reachB md ops i ops.size d
def ListedClosed (md : Region.Mode) (ops : Array Oper) (listed : Array Bool) : Prop :=
 ∀ j oj, ops[j]? = some oj → listed.getD j false = true → ∀ e ∈ oj.after, Region.binds md e = true → listed.getD e.on false = true
theorem ListedClosed.set {listed : Array Bool} {i : Nat} (h : ListedClosed md ops listed) (hi : i ∈ Region.ready md ops listed) : ListedClosed md ops (listed.setIfInBounds i true) := by
 obtain ⟨_, oi, hoi, hall⟩ := mem_ready.1 hi
 intro j oj hj hl e he hb
 by_cases hij : i = j
 ·subst hij
  have : oj = oi := Option.some.inj (hj.symm.trans hoi)
  subst this
  exact getD_set_true (hall e he hb)
 ·rw [getD_set_ne false hij] at hl
  exact getD_set_true (h j oj hj hl e he hb)
def wpAnyLast (P : Program) (md : Region.Mode) (ops : Array Oper) (Q : Exit → Act → World → Prop) (S : World → Prop) (ds : List Nat) : Nat → Array Bool → Act → World → Prop
 | 0, listed, a, w => Region.ready md ops listed = [] ∧ Q .normal a w
 | fuel + 1, listed, a, w =>
  (Region.ready md ops listed = [] → Q .normal a w) ∧
  ∀ i ∈ Region.ready md ops listed, wpOp P ops Q i (fun a' w' => (i ∉ ds → S w → S w') ∧ wpAnyLast P md ops Q S ds fuel (listed.setIfInBounds i true) a' w') a w
end
section
variable {P : Program} {ops : Array Oper} {Q : Exit → Act → World → Prop} {md : Region.Mode} {S : World → Prop} {ds : List Nat}
def AllReadyL (P : Program) (md : Region.Mode) (ops : Array Oper) (Q : Exit → Act → World → Prop) (S : World → Prop) (ds : List Nat) (fuel : Nat) (listed : Array Bool) (a : Act) (w : World) (rs : List Nat) : Prop :=
 ∀ i ∈ rs, wpOp P ops Q i (fun a' w' => (i ∉ ds → S w → S w') ∧ wpAnyLast P md ops Q S ds fuel (listed.setIfInBounds i true) a' w') a w
theorem AllReadyL.cons {fuel : Nat} {listed : Array Bool} {a : Act} {w : World} {i : Nat} {o : Oper} {rs : List Nat} (ho : ops[i]? = some o) (hd : i ∉ ds)
  (h : ∀ K' : Act → World → Prop, Shut (∀ a w, S w → (S w → wpAnyLast P md ops Q S ds fuel (listed.setIfInBounds i true) a w) → K' a w) → if Region.wanted o (yielded ops a.tmps) = true then Oper.wp P o a w K' Q else K' (a.put o.dst undef) w)
  (hs : AllReadyL P md ops Q S ds fuel listed a w rs) : AllReadyL P md ops Q S ds fuel listed a w (i :: rs) := fun j hj => by
 rcases List.mem_cons.1 hj with rfl | hj
 ·exact wpOp_step ho (fun K' hK => h K' (fun a w hS hW => hK a w ⟨fun _ _ => hS, hW hS⟩))
 ·exact hs j hj
theorem call_ {oi : Oper} {N : Option Tmp} {a : Act} {w : World} {K : Act → World → Prop} (f : FuncId) (args : Array Value) (hw : Region.wanted oi (yielded ops a.tmps) = true) (hN : oi.dst = N) (hrun : (execOp a.eval oi).run P w = .ok (.enter f args) w)
  (h : Calls P f args w fun e w' => ∃ v, e = .returned v ∧ K (a.put N v) w') : if Region.wanted oi (yielded ops a.tmps) = true then Oper.wp P oi a w K Q else K (a.put N undef) w := by
 rw [if_pos hw]
 subst hN
 unfold Oper.wp
 rw [hrun, Oper.upon_enter]
 refine h.mono fun e w'' hh => ?_
 obtain ⟨v, rfl, hk⟩ := hh
 exact hk
theorem enters_ {f : FuncId} {fn : Func} (hf : P.funcs[f]? = some fn) (hname : (fn.name == "runtime.NumGoroutine") = false) (hb : fn.body.isSome = true) (args : Array Value) (w : World) : (callFunc f args).run P w = .ok (.enter f args) w := by
 have h1 : fn.name ≠ "runtime.NumGoroutine" := by simpa using hname
 obtain ⟨c, hc⟩ := Option.isSome_iff_exists.1 hb
 simp [callFunc, hf, h1, hc]
theorem goes_ {oi : Oper} {N : Option Tmp} {a : Act} {w : World} {K : Act → World → Prop} {f : FuncId} {fn : Func} {as1 : Array Operand} {ts : Array TypeId} (hf : P.funcs[f]? = some fn) (hname : (fn.name == "runtime.NumGoroutine") = false) (hb : fn.body.isSome = true) (args : Array Value)
  (hw : Region.wanted oi (yielded ops a.tmps) = true) (hN : oi.dst = N) (hop : oi.op = .call { callee := .value (.func f), args := as1, argTypes := ts }) (hargs : as1.map a.eval = args)
  (h : Calls P f args w fun e w' => ∃ v, e = .returned v ∧ K (a.put N v) w') : if Region.wanted oi (yielded ops a.tmps) = true then Oper.wp P oi a w K Q else K (a.put N undef) w := by
 refine call_ f args hw hN ?_ h
 have he := enters_ hf hname hb args w
 unfold execOp
 simp [hop, resolve, Deferred.ofValue, invoke, Act.eval, hargs, he]
theorem goesL_ {rest : List Oper} {oi : Oper} {a : Act} {w : World} (N : Option Tmp) (hd : oi.dst = N) (hg : oi.guard = none) {f : FuncId} {fn : Func} {as1 : Array Operand} {ts : Array TypeId} (hf : P.funcs[f]? = some fn) (hname : (fn.name == "runtime.NumGoroutine") = false) (hb : fn.body.isSome = true) (args : Array Value)
  (hop : oi.op = .call { callee := .value (.func f), args := as1, argTypes := ts }) (hargs : as1.map a.eval = args)
  (h : Calls P f args w fun e w' => ∃ v, e = .returned v ∧ wpList P ops Q rest (a.put N v) w') : wpList P ops Q (oi :: rest) a w := by
 refine wpList_plain hg fun K hK => ?_
 have he := enters_ hf hname hb args w
 have hrun : (execOp a.eval oi).run P w = .ok (.enter f args) w := by
  unfold execOp
  simp [hop, resolve, Deferred.ofValue, invoke, Act.eval, hargs, he]
 unfold Oper.wp
 rw [hrun, Oper.upon_enter]
 refine h.mono fun e w'' hh => ?_
 obtain ⟨v, rfl, hk⟩ := hh
 subst hd
 exact hK _ _ hk
theorem i64_w (n : Int) : IntKind.i64.wrap n = Go.RowKit.wrap64 n := by unfold Go.RowKit.wrap64; exact IntKind.wrap_i64 n
end
end Go.Proofs.YtmbiebdcnadhkaaGreatW.PrintLast
namespace Go.Proofs.YtmbiebdcnadhkaaGreatW.PrintWords
open Go.RowKit
namespace Kd
section
variable {α : Type} {d : Kd α} {e base g o n cap : Nat} {ok okp : Nat → Prop} {w W : World} {v : Value} {xs : List α}
theorem Q_form (h : d.Q e w base ok v xs) (hp : 0 < xs.length) : ∃ g o cap, v = .slice (some ⟨g, o, none⟩) xs.length cap ∧ base ≤ g ∧ g < w.heap.size ∧ ∃ cells, w.heap[g]? = some (.cells cells e (0, 0)) := by
 obtain ⟨h0, inner, hq, hr⟩ := h
 rcases hq.2 with ⟨h1, _⟩ | ⟨g, off, cap, cur, rfl, hb, hh, r⟩
 ·omega
 ·exact ⟨g, off * d.sz, cap, rfl, hb, blk_lt hh, cur, hh⟩
theorem Q_elem (h : d.Q e W base ok (.slice (some ⟨g, o, none⟩) n cap) xs) (z : α) (i : Int) (h0 : 0 ≤ i) (h1 : i < n) :
  ∃ c, c.length = d.sz ∧ d.M W base (fun k => ok k ∧ k ≠ g) (xs.getD i.toNat z) c ∧ (∀ j u, c[j]? = some u → W.cell? ⟨g, o + i.toNat * d.sz + j, none⟩ = some u) ∧ ∀ j, W.frozen? ⟨g, o + i.toNat * d.sz + j, none⟩ = false := by
 obtain ⟨hn, hnc, hC⟩ := Q_reads' h
 obtain ⟨_, inner, ho, hr⟩ := h
 have hil : i.toNat < xs.length := by omega
 have hseg : i.toNat * d.sz + d.sz ≤ inner.length := by rw [hr.1, ← Nat.succ_mul]; exact Nat.mul_le_mul_right _ hil
 have hM := hr.2 i.toNat _ (List.getElem?_eq_getElem hil)
 refine ⟨(inner.drop (i.toNat * d.sz)).take d.sz, by rw [List.length_take, List.length_drop]; omega, ?_, fun j u hu => ?_, fun j => ?_⟩
 ·rw [List.getD_eq_getElem?_getD, List.getElem?_eq_getElem hil]
  exact d.M_mono (fun k hk => ⟨hk.1, fun he => hk.2 (by rw [he]; simp [Value.ownBlock])⟩) hM
 ·rw [List.getElem?_take] at hu
  split at hu
  ·rw [List.getElem?_drop] at hu
   subst hn
   obtain ⟨ad, he, hc⟩ := q_cells ho (by omega)
   injection he with he
   subst he
   have := hc _ u hu
   rwa [add_at, ← Nat.add_assoc] at this
  ·cases hu
 ·obtain ⟨_, cells, hc⟩ := q_typed ho g (by simp [Value.ownBlock])
  exact blk_frozen hc _
end
section
variable {α : Type} {enc : α → Value} {h1 : ∀ x, (enc x).oneCell' = true} {e base g o n cap : Nat} {ok : Nat → Prop} {W : World} {xs : List α}
theorem Q_cell (d : α) (h : (scalar enc h1).Q e W base ok (.slice (some ⟨g, o, none⟩) n cap) xs) (i : Int) (h0 : 0 ≤ i) (hi : i < n) : W.cell? ⟨g, o + i.toNat, none⟩ = some (enc (rdOf d xs i)) ∧ W.frozen? ⟨g, o + i.toNat, none⟩ = false := by
 obtain ⟨c, _, hM, hcc, hf⟩ := Q_elem h d i h0 hi
 have hM' : c = [enc (xs.getD i.toNat d)] := hM
 subst hM'
 have h2 := hcc 0 _ rfl
 have h3 := hf 0
 rw [show (scalar enc h1).sz = 1 from rfl, Nat.mul_one, Nat.add_zero] at h2 h3
 exact ⟨h2, h3⟩
end
end Kd
end Go.Proofs.YtmbiebdcnadhkaaGreatW.PrintWords
namespace Go.Proofs.YtmbiebdcnadhkaaGreatW.PrintWords
open Go.RowKit
namespace Kd
def tag {α : Type} (f : Nat → Nat) (d : Kd α) : Kd (α × Nat) where
 sz := d.sz
 E := d.E
 K := fun w x cs => d.K w x.1 cs
 M := fun w base ok x cs => d.M w base (fun k => ok k ∧ f k = x.2) x.1 cs
 K_len := fun h => d.K_len h
 K_one := fun h => d.K_one h
 K_below := fun hb h => d.K_below hb h
 K_of_M := fun h => d.K_of_M h
 M_mono := fun hok h => d.M_mono (fun k hk => ⟨hok k hk.1, hk.2⟩) h
 M_bound := fun h => d.M_mono (fun _ hk => ⟨⟨hk.1.1, hk.2⟩, hk.1.2⟩) (d.M_bound h)
 M_move := fun hm h => d.M_move (fun k hk => hm k hk.1) h
 M_lower := fun hb h => d.M_lower hb h
def bare {α : Type} (d : Kd α) : Kd α where
 sz := d.sz
 E := d.E
 K := d.K
 M := fun w base _ x cs => d.M w base (fun _ => False) x cs
 K_len := fun h => d.K_len h
 K_one := fun h => d.K_one h
 K_below := fun hb h => d.K_below hb h
 K_of_M := fun h => d.K_of_M h
 M_mono := fun _ h => h
 M_bound := fun h => h
 M_move := fun _ h => d.M_move (fun _ hk => hk.elim) h
 M_lower := fun hb h => d.M_lower hb h
def raw (sz : Nat) : Kd (List Value) where
 sz := sz
 E := []
 K := fun _ x cs => cs = x ∧ cs.length = sz ∧ ∀ u ∈ cs, u.oneCell' = true
 M := fun _ _ _ x cs => cs = x ∧ cs.length = sz ∧ ∀ u ∈ cs, u.oneCell' = true
 K_len := fun h => h.2.1
 K_one := fun h => h.2.2
 K_below := fun _ h => h
 K_of_M := fun h => h
 M_mono := fun _ h => h
 M_bound := fun h => h
 M_move := fun _ h => h
 M_lower := fun _ h => h
def S {α : Type} (d : Kd α) (e : Nat) (w : World) (base : Nat) (ok : Nat → Prop) (v : Value) (xs : List α) : Prop := ∃ f, (tag f d).R e w base ok v xs.zipIdx
section
variable {α β : Type} {d : Kd α} {d' : Kd β} {e e' : Nat} {w w1 W : World} {base b : Nat} {ok ok' okv oku : Nat → Prop} {u v : Value} {xs : List α} {ys : List β}
theorem S_nil (d : Kd α) (e : Nat) (w : World) (base : Nat) (ok : Nat → Prop) : S d e w base ok (.slice none 0 0) [] := ⟨fun _ => 0, R_nil _ _ _ _ _⟩
end
section
variable {α β : Type} {d : Kd α} {d' : Kd β} {e e' g : Nat} {w w1 W : World} {base b : Nat} {ok ok' okv oku : Nat → Prop} {u v : Value} {xs : List α} {ys : List β}
end
section
open Classical in
variable {P : Program} {ops : Array Oper} {rest : List Oper} {o : Oper} {a : Act} {Q : Exit → Act → World → Prop} {Kc : Act → World → Prop} {α : Type}
end
def gap {α : Type} (f : Nat → Nat) (d : Kd α) (i : Nat) (c : List Value) : Kd (α × Nat) where
 sz := d.sz
 E := d.E
 K := fun w x cs => (x.2 = i → cs = c ∧ cs.length = d.sz ∧ ∀ u ∈ cs, u.oneCell' = true) ∧ (x.2 ≠ i → d.K w x.1 cs)
 M := fun w base ok x cs => (x.2 = i → cs = c ∧ cs.length = d.sz ∧ ∀ u ∈ cs, u.oneCell' = true) ∧ (x.2 ≠ i → d.M w base (fun k => ok k ∧ f k = x.2) x.1 cs)
 K_len := fun {w x cs} h => by
  by_cases hx : x.2 = i
  ·exact (h.1 hx).2.1
  ·exact d.K_len (h.2 hx)
 K_one := fun {w x cs} h => by
  by_cases hx : x.2 = i
  ·exact (h.1 hx).2.2
  ·exact d.K_one (h.2 hx)
 K_below := fun hb h => ⟨h.1, fun hx => d.K_below hb (h.2 hx)⟩
 K_of_M := fun h => ⟨h.1, fun hx => d.K_of_M (h.2 hx)⟩
 M_mono := fun hok h => ⟨h.1, fun hx => d.M_mono (fun k hk => ⟨hok k hk.1, hk.2⟩) (h.2 hx)⟩
 M_bound := fun h => ⟨h.1, fun hx => d.M_mono (fun _ hk => ⟨⟨hk.1.1, hk.2⟩, hk.1.2⟩) (d.M_bound (h.2 hx))⟩
 M_move := fun hm h => ⟨h.1, fun hx => d.M_move (fun k hk => hm k hk.1) (h.2 hx)⟩
 M_lower := fun hb h => ⟨h.1, fun hx => d.M_lower hb (h.2 hx)⟩
def H {α : Type} (d : Kd α) (e : Nat) (w : World) (base : Nat) (ok : Nat → Prop) (v : Value) (xs : List α) (i : Int) (oki : Nat → Prop) (c : List Value) : Prop :=
 (∀ k, oki k → ok k) ∧ ∃ f, (gap f d i.toNat c).R e w base (fun k => ok k ∧ ¬ oki k) v xs.zipIdx
section
variable {α β : Type} {d : Kd α} {e e' g n cap : Nat} {w w1 W : World} {base : Nat} {ok ok' oki okp : Nat → Prop} {u v : Value} {xs : List α} {i : Int} {c : List Value}
open Classical in
end
section
variable {P : Program} {ops : Array Oper} {rest : List Oper} {o : Oper} {a : Act} {Q : Exit → Act → World → Prop} {α : Type}
end
end Kd
end Go.Proofs.YtmbiebdcnadhkaaGreatW.PrintWords
namespace Go.Proofs.YtmbiebdcnadhkaaGreatW.PrintWords
open Go.RowKit
namespace Kd
theorem reps_one {α : Type} {R : α → List Value → Prop} {size : Nat} {ps : List α} {cs : List Value} (h : Reps R size ps cs) (hs0 : 0 < size) (hR : ∀ p c, R p c → ∀ u ∈ c, u.oneCell' = true) : ∀ u ∈ cs, u.oneCell' = true := by
 intro u hu
 obtain ⟨q, hq, rfl⟩ := List.mem_iff_getElem.1 hu
 have hql : q / size < ps.length := by
  rw [Nat.div_lt_iff_lt_mul hs0, ← h.1]
  exact hq
 refine hR _ _ (h.2 (q / size) _ (List.getElem?_eq_getElem hql)) _ ?_
 rw [List.mem_iff_getElem?]
 refine ⟨q % size, ?_⟩
 rw [List.getElem?_take, if_pos (Nat.mod_lt _ hs0), List.getElem?_drop, Nat.mul_comm, Nat.div_add_mod, List.getElem?_eq_getElem hq]
section
variable {α : Type} {n : Nat} {d : Kd α} {hs : 0 < d.sz} {w : World} {base : Nat} {ok : Nat → Prop} {xs : List α} {cs : List Value}
end
section
variable {α : Type} {n : Nat} {enc : α → Value} {h1 : ∀ x, (enc x).oneCell' = true} {hs : 0 < (scalar enc h1).sz} {w : World} {base : Nat} {ok : Nat → Prop} {xs : List α} {cs : List Value}
end
end Kd
end Go.Proofs.YtmbiebdcnadhkaaGreatW.PrintWords
namespace Go.Proofs.YtmbiebdcnadhkaaGreatW.PrintWords
open Go.RowKit
section
variable {P : Program}
theorem run_append_zeros (w : World) (base : Nat) (t ti ty e : TypeId) (i : TypeInfo) (z : Value) (size bytes : Nat) (ht : P.underlying t = some (.slice e)) {k : IntKind} (hti : P.underlying ti = some (.int k)) (hi : P.info? e = some i) (hz : i.zero = some z)
  (hsize : i.size = size) (hby : i.bytes = bytes) (hzs : z.cells.size = size) (hsz : 0 < size) (hb0 : 0 < bytes)
  (v : Value) (n : Nat) (xs : List Value) (hown : w.ownsRow base e size v n xs) (kx : IntKind) (m : Nat) (h1 : ∀ u ∈ (Builtin.zeroCells z.cells m).toList, u.oneCell' = true)
  (hbytes : (n + m) * bytes ≤ 140737488355328) (hbase : base ≤ w.heap.size) :
  ∃ v' w', (Builtin.append_ #[t, ti] ty #[v, .int kx m]).run P w = .ok v' w' ∧ w'.ownsRow base e size v' (n + m) (xs ++ (Builtin.zeroCells z.cells m).toList) ∧ w.grownBy w' v.ownBlock ∧
   (v'.ownBlock = v.ownBlock ∨ v'.ownBlock = some w.heap.size) := by
 subst hsize
 subst hby
 have hle : n + m ≤ 140737488355328 := Nat.le_trans (Nat.le_mul_of_pos_right _ hb0) hbytes
 have h63 : n + m ≤ maxLen := by simp only [maxLen]; omega
 have hw : IntKind.i64.wrap (m : Int) = m := by rw [IntKind.wrap_i64]; omega
 have hw0 : IntKind.i64.wrap 0 = 0 := by rw [IntKind.wrap_i64]; rfl
 have hneg : ¬ ((m : Int) < 0) := by omega
 have hmb : m * i.bytes ≤ 140737488355328 := Nat.le_trans (Nat.mul_le_mul_right _ (Nat.le_add_left m n)) hbytes
 have hbig : ¬ (281474976710656 < (m : Int) * (i.bytes : Int)) := by
  rw [← Int.natCast_mul]
  omega
 have hsn : i.size ≠ 0 := by omega
 obtain ⟨news, hnews⟩ : ∃ news, news = (Builtin.zeroCells z.cells m).toList := ⟨_, rfl⟩
 rw [← hnews] at h1 ⊢
 have hl : news.length = m * i.size := by rw [hnews, Array.length_toList, size_zeroCells, hzs]
 have hna : Builtin.zeroCells z.cells m = news.toArray := by rw [hnews]
 have hlen : (xs ++ news).length = (n + m) * i.size := by rw [List.length_append, hown.1, hl, Nat.add_mul]
 have hnil : m = 0 → news = [] := fun h => List.eq_nil_of_length_eq_zero (by rw [hl, h, Nat.zero_mul])
 have grown : ∀ (old : Nat), old < n + m → ∀ (row : Option Nat),
   (w.drew.alloc (.cells (xs.toArray ++ news.toArray ++ Builtin.zeroCells z.cells (grownCap w (n + m) old e - (n + m))) e)).ownsRow base e i.size
    (.slice (some ⟨w.heap.size, 0, none⟩) (n + m) (grownCap w (n + m) old e)) (n + m) (xs ++ news) ∧
   w.grownBy (w.drew.alloc (.cells (xs.toArray ++ news.toArray ++ Builtin.zeroCells z.cells (grownCap w (n + m) old e - (n + m))) e)) row := by
  intro old ho row
  have hge := grownCap_ge w (n + m) old e
  have hcm : grownCap w (n + m) old e ≤ maxLen := grownCap_le_maxLen w (n + m) old e h63
  refine ⟨⟨hlen, .inr ⟨w.heap.size, _, _, rfl, hbase, heap_alloc_new w.drew _, hge, hcm, ?_, ?_⟩⟩, ⟨rfl, rfl, rfl, by simp, fun k hk _ => heap_alloc_old w.drew _ hk⟩⟩
  ·simp only [Array.size_append, List.size_toArray, size_zeroCells, hzs, hown.1, hl, ← Nat.add_mul]
   congr 1
   omega
  ·simp only [Array.toList_append, List.append_assoc]
   rw [← List.append_assoc, ← hlen]
   exact List.take_left
 have runs : ∀ (A : Option Addr) (cap : Nat), cap < n + m → (Builtin.firstCells i.size n (.slice A n cap)).run P w.drew = .ok xs.toArray w.drew → (Builtin.append_ #[t, ti] ty #[.slice A n cap, .int kx m]).run P w =
   .ok (.slice (some ⟨w.heap.size, 0, none⟩) (n + m) (grownCap w (n + m) cap e)) (w.drew.alloc (.cells (xs.toArray ++ news.toArray ++ Builtin.zeroCells z.cells (grownCap w (n + m) cap e - (n + m))) e)) := by
  intro A cap hcap hfo
  have hn : ¬ (n + m ≤ cap) := by omega
  have h63' : ¬ (9223372036854775807 < ((n : Int) + (m : Int))) := by omega
  have hfit := growslice_fits hcap hbytes
  have h48' : ¬ (281474976710656 < Builtin.nextslicecap (n + m) cap * i.bytes) := by omega
  by_cases hm : m = 0
  ·have hnl := hnil hm
   subst hm
   rw [hnl]
   simp only [Nat.add_zero] at hn h63' h48' ⊢
   have h63'' : ¬ (9223372036854775807 < (n : Int)) := by omega
   simp [Builtin.append_, run_underlying ht, run_underlying hti, sizeOf, typeInfo, zeroValue, hi, hz, asInt, asIntOf, hw0, hn, h63'', h48', Question.forced, hfo, newRow, grownCap]
  ·have hmz : ¬ (m * i.size = 0) := Nat.mul_ne_zero hm hsn
   simp [Builtin.append_, run_underlying ht, run_underlying hti, sizeOf, typeInfo, zeroValue, hi, hz, asInt, asIntOf, hw, hneg, hbig, hn, h63', h48', Question.forced, hfo, newRow, grownCap, hmz, hna]
   congr 2
   apply Array.ext'
   simp [List.append_assoc]
 rcases hown.2 with ⟨rfl, rfl⟩ | ⟨g, cap, cur, rfl, hbg, hg, hnc, hcm, hcs, htake⟩
 ·have hx : xs = [] := List.eq_nil_of_length_eq_zero (by simpa using hown.1)
  subst hx
  by_cases hm : m = 0
  ·have hnl := hnil hm
   subst hm
   rw [hnl]
   refine ⟨.slice none 0 0, w, ?_, World.ownsRow_nil w base e i.size, ⟨rfl, rfl, rfl, Nat.le_refl _, fun _ _ _ => rfl⟩, Or.inl rfl⟩
   simp [Builtin.append_, run_underlying ht, run_underlying hti, sizeOf, typeInfo, hi, asInt, asIntOf, hw0]
  ·have hgr := grown 0 (by omega) (Value.ownBlock (.slice none 0 0))
   exact ⟨_, _, runs none 0 (by omega) (by simp [Builtin.firstCells]), hgr.1, hgr.2, Or.inr rfl⟩
 ·by_cases hroom : n + m ≤ cap
  ·have hfit : n * i.size + news.length ≤ cur.size := by rw [hl, hcs, ← Nat.add_mul]; exact Nat.mul_le_mul_right _ hroom
   obtain ⟨cur', h3, h4, h5⟩ := setCells_row news (n * i.size) w cur hg hfit
   obtain ⟨s1, s2, s3, s4⟩ := setCells_same g news (n * i.size) w
   have hst := run_storeCells_cells (P := P) g (n * i.size) news 0 w (fun j hj => by rw [cell_of_row w g _ cur e (0, 0) hg]; simp; omega) (fun j _ => blk_frozen hg _) h1
   simp only [Nat.add_zero] at hst
   refine ⟨.slice (some ⟨g, 0, none⟩) (n + m) cap, w.setCells g (n * i.size) news, ?_, ⟨hlen, .inr ⟨g, cap, cur', rfl, hbg, h3, hroom, hcm, by rw [h4, hcs], ?_⟩⟩, ⟨s1, s2, s3, by rw [s4]; exact Nat.le_refl _, fun k _ hk => setCells_far news _ k (fun e => hk (by simp [Value.ownBlock, e]))⟩, Or.inl rfl⟩
   ·by_cases hm : m = 0
    ·have hnl := hnil hm
     subst hm
     rw [hnl] at hst ⊢
     simp [Builtin.append_, run_underlying ht, run_underlying hti, sizeOf, typeInfo, hi, asInt, asIntOf, hw0, hnc, add_plain, hst]
    ·have hmz : ¬ (m * i.size = 0) := Nat.mul_ne_zero hm hsn
     simp [Builtin.append_, run_underlying ht, run_underlying hti, sizeOf, typeInfo, zeroValue, hi, hz, asInt, asIntOf, hw, hneg, hbig, hroom, hmz, hna, add_plain, hst]
   ·rw [h5]
    have h6 : cur.toList.take (n * i.size) = xs := htake
    rw [h6, ← hlen]
    exact List.take_left
  ·have holds : ∀ j u, xs[j]? = some u → w.cell? ((⟨g, 0, none⟩ : Addr).add j) = some u := hown.cells (g := g) rfl
   have hgr := grown cap (by omega) (Value.ownBlock (.slice (some ⟨g, 0, none⟩) n cap))
   exact ⟨_, _, runs (some ⟨g, 0, none⟩) cap (by omega) (run_firstCells_some (P := P) w.drew i.size n _ n cap xs hown.1 (by simpa using holds)), hgr.1, hgr.2, Or.inr rfl⟩
end
namespace Kd
theorem reps_zeros {α : Type} {R : α → List Value → Prop} {z : Value} {size : Nat} {z0 : α} (hz : z.cells.size = size) (hs : 0 < size) (h0 : R z0 z.cells.toList) (m : Nat) : Reps R size (List.replicate m z0) (Builtin.zeroCells z.cells m).toList := by
 have h := reps_made hz hs h0 m
 rw [show Builtin.zeroCells z.cells m = madeCells z.cells (m * size) by unfold Builtin.zeroCells madeCells; rw [hz]]
 exact h
section
variable {P : Program} {ops : Array Oper} {rest : List Oper} {o : Oper} {a : Act} {Q : Exit → Act → World → Prop} {Kc : Act → World → Prop} {α : Type}
theorem R_zeros_run (d : Kd α) {W : World} (base : Nat) (t ti ty e : TypeId) (z : Value) (bytes : Nat) (ht : P.underlying t = some (.slice e)) {k : IntKind} (hti : P.underlying ti = some (.int k)) (hinfo : (P.info? e).map (fun i => (i.zero, i.size, i.bytes)) = some (some z, d.sz, bytes)) (hz : z.cells.size = d.sz) (hs0 : 0 < d.sz) (hb0 : 0 < bytes)
  (v : Value) (xs : List α) (z0 : α) {ok : Nat → Prop} (hzero : d.M W base (fun _ => False) z0 z.cells.toList) (hfresh : ∀ k, W.heap.size ≤ k → ok k) (HO : d.R e W base ok v xs) (kx : IntKind) (n : Int) (h0 : 0 ≤ n) (hl : (xs.length + n.toNat) * bytes ≤ 140737488355328) (hbase : base ≤ W.heap.size) :
  ∃ v1 w1, (Builtin.append_ #[t, ti] ty #[v, .int kx n]).run P W = .ok v1 w1 ∧ d.R e w1 base ok v1 (xs ++ List.replicate n.toNat z0) ∧ W.grownBy w1 v.ownBlock ∧ (v1.ownBlock = v.ownBlock ∨ ∃ b, v1.ownBlock = some b ∧ W.heap.size ≤ b) := by
 obtain ⟨m, rfl⟩ := Int.eq_ofNat_of_zero_le h0
 simp only [Int.toNat_natCast] at hl ⊢
 obtain ⟨i0, hi, hzz⟩ := Option.map_eq_some_iff.1 hinfo
 simp only [Prod.mk.injEq] at hzz
 obtain ⟨hz0, hz1, hz2⟩ := hzz
 obtain ⟨hok, inner, hown, hr⟩ := HO
 have hnM : Reps (d.M W base (fun _ => False)) d.sz (List.replicate m z0) (Builtin.zeroCells z.cells m).toList := reps_zeros hz hs0 hzero m
 obtain ⟨v1, w1, hrun, h2, hg, hat⟩ := run_append_zeros (P := P) W base t ti ty e i0 z d.sz bytes ht hti hi hz0 hz1 hz2 hz hs0 hb0 v xs.length inner hown kx m (reps_one hnM hs0 (fun _ _ hp => d.K_one (d.K_of_M hp))) hl hbase
 have hat' : v1.ownBlock = v.ownBlock ∨ ∃ b, v1.ownBlock = some b ∧ W.heap.size ≤ b := by
  rcases hat with hat | hat
  ·exact .inl hat
  ·exact .inr ⟨_, hat, Nat.le_refl _⟩
 have hne : ∀ k, some k ≠ v.ownBlock → k < W.heap.size → some k ≠ v1.ownBlock := by
  intro k hk hlt
  rcases hat' with hat | ⟨b, hb, hle⟩
  ·rw [hat]; exact hk
  ·rw [hb]
   intro he
   injection he with he
   omega
 have step : ∀ {q : α} {c : List Value} {o : Nat → Prop}, d.M W base o q c → (∀ k, o k → ok k ∧ some k ≠ v.ownBlock) → d.M w1 base (fun k => ok k ∧ some k ≠ v1.ownBlock) q c := by
  intro q c o hq ho
  have h1 := d.M_move (w1 := w1) (fun k hk => hg.block k hk.2.2.1 (ho k hk.1).2) (d.M_bound hq)
  exact d.M_mono (fun k hk => ⟨(ho k hk.1).1, hne k (ho k hk.1).2 hk.2.2.1⟩) h1
 refine ⟨v1, w1, hrun, ⟨fun k hk => ?_, inner ++ (Builtin.zeroCells z.cells m).toList, by rw [List.length_append, List.length_replicate]; exact h2, reps_append (hr.imp_ (fun _ _ hq => step hq (fun _ hk => hk))) (hnM.imp_ (fun _ _ hq => step hq (fun _ hk => hk.elim)))⟩, hg, hat'⟩
 rcases hat' with hat | ⟨b, hb, hle⟩
 ·exact hok k (hat ▸ hk)
 ·rw [hb] at hk
  injection hk with hk
  exact hfresh k (by omega)
theorem R_append_zeros (d : Kd α) {w0 W : World} (base : Nat) (hgd : o.guard = none) (s x : Operand) (t ti e : TypeId) (z : Value) (bytes : Nat)
  (ho : o.op = .call { callee := .builtin .append, args := #[s, x], argTypes := #[t, ti] })
  (ht : P.underlying t = some (.slice e)) {k : IntKind} (hti : P.underlying ti = some (.int k)) (hinfo : (P.info? e).map (fun i => (i.zero, i.size, i.bytes)) = some (some z, d.sz, bytes)) (hz : z.cells.size = d.sz) (hs0 : 0 < d.sz) (hb0 : 0 < bytes)
  (v : Value) (xs : List α) (z0 : α) {kx : IntKind} (n : Int) (ok : Nat → Prop) (hs : a.eval s = v) (hx : a.eval x = .int kx n) (hzero : d.M W base (fun _ => False) z0 z.cells.toList) (hfresh : ∀ k, W.heap.size ≤ k → ok k)
  (HO : d.R e W base ok v xs) (h0 : 0 ≤ n) (HB : Below base w0 W) (hbase : base ≤ W.heap.size) (hl : (xs.length + n.toNat) * bytes ≤ 140737488355328)
  (h : ∀ v1 w1, d.R e w1 base ok v1 (xs ++ List.replicate n.toNat z0) → Below base w0 w1 → W.grownBy w1 v.ownBlock → (v1.ownBlock = v.ownBlock ∨ ∃ b, v1.ownBlock = some b ∧ W.heap.size ≤ b) → wpList P ops Q rest (a.put o.dst v1) w1) :
  wpList P ops Q (o :: rest) a W := by
 obtain ⟨v1, w1, hr1, h1, hg, hat⟩ := R_zeros_run (P := P) d base t ti o.type e z bytes ht hti hinfo hz hs0 hb0 v xs z0 hzero hfresh HO kx n h0 hl hbase
 refine wpList_plain hgd fun K hK => ?_
 unfold Oper.wp execOp
 simp only [ho, resolve, invoke, builtin, Sem.run_bind, Sem.run_pure, Result.andThen_ok, List.map_toArray, List.map_cons, List.map_nil, hs, hx, hr1]
 exact hK _ _ (h v1 w1 h1 (HB.grown hg hbase (R_base HO)) hg hat)
end
section
variable {α : Type} {d : Kd α} {e : Nat} {w : World} {base : Nat} {ok : Nat → Prop} {v : Value} {xs : List α}
end
section
variable {P : Program} {ops : Array Oper} {rest : List Oper} {o : Oper} {a : Act} {Q : Exit → Act → World → Prop} {Kc : Act → World → Prop} {α : Type}
end
end Kd
end Go.Proofs.YtmbiebdcnadhkaaGreatW.PrintWords
namespace Go.Proofs.YtmbiebdcnadhkaaGreatW.PrintWords
open Go.RowKit
namespace Kd
structure Heap {α : Type} (d : Kd α) : Prop where
 K : ∀ {w w1 : World} {x : α} {cs : List Value}, (∀ k, k < w.heap.size → w1.heap[k]? = w.heap[k]?) → d.K w x cs → d.K w1 x cs
theorem cell_heap {w w1 : World} (hb : ∀ k, k < w.heap.size → w1.heap[k]? = w.heap[k]?) {a : Addr} {v : Value} (h : w.cell? a = some v) : w1.cell? a = some v := by
 have := hb a.block (World.block_lt_of_cell? w a h)
 simpa [World.cell?, this] using h
theorem Heap.C {α : Type} {d : Kd α} (hd : Heap d) {w w1 : World} {A : Option Addr} {n : Nat} {xs : List α} (hb : ∀ k, k < w.heap.size → w1.heap[k]? = w.heap[k]?) (h : d.C w A n xs) : d.C w1 A n xs :=
 ⟨h.1, h.2.1, fun hn => by
  obtain ⟨ad, e, hc⟩ := h.2.2 hn
  refine ⟨ad, e, fun j p hj => ?_⟩
  obtain ⟨c, hs, hr, hcell⟩ := hc j p hj
  exact ⟨c, hs, hd.K hb hr, fun i u hu => cell_heap hb (hcell i u hu)⟩⟩
section
variable {α : Type} {d : Kd α} {e base g n c : Nat} {ok : Nat → Prop} {w w0 W : World} {A : Option Addr} {xs : List α}
end
end Kd
end Go.Proofs.YtmbiebdcnadhkaaGreatW.PrintWords
namespace Go.Proofs.YtmbiebdcnadhkaaGreatW.PrintWords
open Go.RowKit
def Kept (w W : World) (S : Nat → Prop) : Prop := w.heap.size ≤ W.heap.size ∧ ∀ i, i < w.heap.size → ¬ S i → W.heap[i]? = w.heap[i]?
section
variable {w W W2 : World} {S S2 S' : Nat → Prop}
theorem Kept.refl (w : World) (S : Nat → Prop) : Kept w w S := ⟨Nat.le_refl _, fun _ _ _ => rfl⟩
theorem Kept.of_below (h : Below w.heap.size w W) (S : Nat → Prop) : Kept w W S := ⟨h.size, fun i hi _ => h.block i hi⟩
theorem Kept.mono (h : Kept w W S) (hs : ∀ k, S k → S' k) : Kept w W S' := ⟨h.1, fun i hi hn => h.2 i hi (fun hk => hn (hs i hk))⟩
theorem Kept.then_ (h : Kept w W S) (k : Kept W W2 S2) (hs : ∀ k, S2 k → S k ∨ w.heap.size ≤ k) : Kept w W2 S :=
 ⟨Nat.le_trans h.1 k.1, fun i hi hn => (k.2 i (Nat.lt_of_lt_of_le hi h.1) (fun h2 => (hs i h2).elim hn (fun h3 => by omega))).trans (h.2 i hi hn)⟩
theorem Kept.below (h : Kept w W S) (hb : Below W.heap.size W W2) : Kept w W2 S := h.then_ (Kept.of_below hb (fun _ => False)) (fun _ hk => hk.elim)
theorem Kept.alloc (h : Kept w W S) (o : Obj) : Kept w (W.alloc o) S := h.below (below_alloc (Below.refl _ _) o)
theorem Kept.drew (h : Kept w W S) : Kept w W.drew S := h
theorem Kept.drewN (h : Kept w W S) (m : Nat) : Kept w (W.drewN m) S := h
theorem Kept.setCell (h : Kept w W S) {p : Addr} (hp : S p.block ∨ w.heap.size ≤ p.block) (u : Value) : Kept w (W.setCell p u) S :=
 h.then_ (S2 := fun k => k = p.block) ⟨by simp [World.setCell], fun i _ hn => Below.heap_setCell W p u i hn⟩ (fun k hk => by rw [hk]; exact hp)
theorem Kept.keep {g : Nat} (h : KeepBut w W g none) (k : Kept W W2 S2) (hs : ∀ k, S2 k → w.heap.size ≤ k) : KeepBut w W2 g none :=
 ⟨Nat.le_trans h.1 k.1, fun i hi hg hr => (k.2 i (Nat.lt_of_lt_of_le hi h.1) (fun h2 => by have := hs i h2; omega)).trans (h.2 i hi hg hr)⟩
end
namespace Kd
section
variable {α : Type} {d : Kd α} {e base n c : Nat} {ok oki S S2 : Nat → Prop} {w w0 W W1 W2 : World} {v : Value} {A : Option Addr} {xs : List α} {i : Int} {cs : List Value}
end
end Kd
end Go.Proofs.YtmbiebdcnadhkaaGreatW.PrintWords
namespace Go.Proofs.YtmbiebdcnadhkaaGreatW.PrintWords
open Go.RowKit
def Foot (P : World → Prop) (W : World) (ok : Nat → Prop) : Prop := ∀ W' : World, (∀ k, ok k → k < W.heap.size → W'.heap[k]? = W.heap[k]?) → P W'
theorem heap_lt {W W1 : World} {k : Nat} (h : W1.heap[k]? = W.heap[k]?) (hlt : k < W.heap.size) : k < W1.heap.size := by
 rw [Array.getElem?_eq_getElem hlt] at h
 exact (Array.getElem?_eq_some_iff.1 h).1
namespace Foot
variable {P Q : World → Prop} {W W1 : World} {ok ok' : Nat → Prop}
theorem mono (h : Foot P W ok) (hok : ∀ k, ok k → ok' k) : Foot P W ok' := fun W' hW => h W' (fun k hk hlt => hW k (hok k hk) hlt)
theorem bound (h : Foot P W ok) : Foot P W (fun k => ok k ∧ k < W.heap.size) := fun W' hW => h W' (fun k hk hlt => hW k ⟨hk, hlt⟩ hlt)
theorem step (h : Foot P W ok) (hm : ∀ k, ok k → k < W.heap.size → W1.heap[k]? = W.heap[k]?) : Foot P W1 ok := fun W' hW => h W' (fun k hk hlt => (hW k hk (heap_lt (hm k hk hlt) hlt)).trans (hm k hk hlt))
theorem imp (h : Foot P W ok) (hi : ∀ W', P W' → Q W') : Foot Q W ok := fun W' hW => hi W' (h W' hW)
theorem old (h : Foot P W ok) (hb : Below W.heap.size W W1) : Foot P W1 (fun k => ok k ∧ k < W.heap.size) := (h.bound).step (fun k _ hlt => hb.block k hlt)
end Foot
namespace Kd
def F {α : Type} (d : Kd α) (W : World) (ok : Nat → Prop) (A : Option Addr) (n : Nat) (xs : List α) : Prop := Foot (fun W => d.C W A n xs) W ok
def FK {α : Type} (d : Kd α) (W : World) (ok : Nat → Prop) (x : α) (c : List Value) : Prop := Foot (fun W => d.K W x c) W ok
section
variable {α β : Type} {d : Kd α} {e base n n' cc g N : Nat} {ok ok' okp S : Nat → Prop} {w w0 w1 W W1 : World} {A A' : Option Addr} {u v v1 : Value} {xs : List α} {xs' : List β} {d' : Kd β} {x : α} {c : List Value}
theorem F_nil (d : Kd α) (W : World) (ok : Nat → Prop) : F d W ok none ([] : List α).length [] := fun W' _ => C_nil d W'
theorem FK_of_M (h : d.M W base ok x c) : FK d W ok x c := fun _ hW => d.K_of_M (M_step h hW)
end
end Kd
end Go.Proofs.YtmbiebdcnadhkaaGreatW.PrintWords
namespace Go.Proofs.YtmbiebdcnadhkaaGreatW.PrintWords
open Go.RowKit
namespace Kd
def chunks (sz : Nat) (n : Nat) (inner : List Value) : List (List Value) := (List.range n).map fun j => (inner.drop (j * sz)).take sz
theorem chunks_length (sz n : Nat) (inner : List Value) : (chunks sz n inner).length = n := by simp [chunks]
theorem chunks_at {sz n : Nat} {inner : List Value} {j : Nat} (hj : j < n) : (chunks sz n inner)[j]? = some ((inner.drop (j * sz)).take sz) := by simp [chunks, hj]
theorem chunks_get {sz n : Nat} {inner : List Value} {j : Nat} {c : List Value} (h : (chunks sz n inner)[j]? = some c) : c = (inner.drop (j * sz)).take sz := by
 have hj : j < n := by have := (List.getElem?_eq_some_iff.1 h).1; rwa [chunks_length] at this
 rw [chunks_at hj] at h
 injection h with h
 exact h.symm
theorem reps_raw {α : Type} {Rr : α → List Value → Prop} {sz : Nat} {xs : List α} {inner : List Value} (h : Reps Rr sz xs inner) (hR : ∀ x c, Rr x c → c.length = sz ∧ ∀ u ∈ c, u.oneCell' = true) : Reps (fun x cs => cs = x ∧ cs.length = sz ∧ ∀ u ∈ cs, u.oneCell' = true) sz (chunks sz xs.length inner) inner := by
 refine ⟨by rw [chunks_length]; exact h.1, fun j p hj => ?_⟩
 have hjl : j < xs.length := by have := (List.getElem?_eq_some_iff.1 hj).1; rwa [chunks_length] at this
 have hp := chunks_get hj
 exact ⟨hp.symm, hR _ _ (h.2 j _ (List.getElem?_eq_getElem hjl))⟩
section
variable {α : Type} {d : Kd α} {e base n cc g : Nat} {ok ok' okp S : Nat → Prop} {w w1 W W1 : World} {A : Option Addr} {u v v1 : Value} {xs : List α} {x : α} {c : List Value}
def N {α : Type} (d : Kd α) (e : Nat) (w : World) (base : Nat) (ok : Nat → Prop) (v : Value) (xs : List α) : Prop :=
 (∀ k, v.ownBlock = some k → ok k) ∧ ∃ rows : List (List Value), rows.length = xs.length ∧ (raw d.sz).R e w base (fun k => some k = v.ownBlock) v rows ∧ ∀ (j : Nat) (x : α) (c : List Value), xs[j]? = some x → rows[j]? = some c → FK d w (fun k => ok k ∧ some k ≠ v.ownBlock) x c
theorem R_N (h : d.R e w base ok v xs) : N d e w base ok v xs := by
 obtain ⟨h0, inner, ho, hr⟩ := h
 refine ⟨h0, chunks d.sz xs.length inner, chunks_length _ _ _, ⟨fun k hk => hk.symm, inner, by rw [chunks_length]; exact ho, reps_raw hr (fun x c hp => ⟨d.K_len (d.K_of_M hp), d.K_one (d.K_of_M hp)⟩)⟩, fun j x c hx hc => ?_⟩
 rw [chunks_get hc]
 exact FK_of_M (hr.2 j x hx)
theorem N_nil (d : Kd α) (e : Nat) (w : World) (base : Nat) (ok : Nat → Prop) : N d e w base ok (.slice none 0 0) [] := R_N (R_nil _ _ _ _ _)
end
end Kd
end Go.Proofs.YtmbiebdcnadhkaaGreatW.PrintWords
namespace Go.Proofs.YtmbiebdcnadhkaaGreatW.PrintWords
open Go.RowKit
namespace Kd
section
variable {α : Type} {d : Kd α} {e base n cap g : Nat} {ok ok' okp : Nat → Prop} {w w1 W : World} {v v1 : Value} {xs ys : List α}
end
section
variable {P : Program} {ops : Array Oper} {rest : List Oper} {o : Oper} {a : Act} {Q : Exit → Act → World → Prop} {Kc : Act → World → Prop} {α : Type}
end
end Kd
end Go.Proofs.YtmbiebdcnadhkaaGreatW.PrintWords
namespace Go.Proofs.YtmbiebdcnadhkaaGreatW.PrintMore
open Go.RowKit Go.Proofs.YtmbiebdcnadhkaaGreatW.PrintWords
namespace Kd
open Go.Proofs.YtmbiebdcnadhkaaGreatW.PrintWords.Kd
end Kd
namespace Kd
open Go.Proofs.YtmbiebdcnadhkaaGreatW.PrintWords.Kd
section
variable {α : Type} {d : Kd α} {e base g N : Nat} {ok : Nat → Prop} {W w1 : World} {u v : Value} {xs : List α}
end
end Kd
theorem max2_int (k k' : IntKind) (x y : Int) : Builtin.max2 (.int k x) (.int k' y) = pure (.int k (if x < y then y else x)) := by simp only [Builtin.max2, gt_iff_lt]
theorem min2_int (k k' : IntKind) (x y : Int) : Builtin.min2 (.int k x) (.int k' y) = pure (.int k (if y < x then y else x)) := by simp only [Builtin.min2]
theorem max_two (ats : Array TypeId) (ty : TypeId) (a b : Value) : Builtin.max_ ats ty #[a, b] = (Builtin.max2 a b >>= fun s => pure s) := by simp only [Builtin.max_, List.foldlM_cons, List.foldlM_nil]
theorem min_two (ats : Array TypeId) (ty : TypeId) (a b : Value) : Builtin.min_ ats ty #[a, b] = (Builtin.min2 a b >>= fun s => pure s) := by simp only [Builtin.min_, List.foldlM_cons, List.foldlM_nil]
theorem max_three (ats : Array TypeId) (ty : TypeId) (a b c : Value) : Builtin.max_ ats ty #[a, b, c] = (Builtin.max2 a b >>= fun s => Builtin.max2 s c >>= fun s => pure s) := by simp only [Builtin.max_, List.foldlM_cons, List.foldlM_nil]
theorem min_three (ats : Array TypeId) (ty : TypeId) (a b c : Value) : Builtin.min_ ats ty #[a, b, c] = (Builtin.min2 a b >>= fun s => Builtin.min2 s c >>= fun s => pure s) := by simp only [Builtin.min_, List.foldlM_cons, List.foldlM_nil]
theorem max_four (ats : Array TypeId) (ty : TypeId) (a b c d : Value) : Builtin.max_ ats ty #[a, b, c, d] = (Builtin.max2 a b >>= fun s => Builtin.max2 s c >>= fun s => Builtin.max2 s d >>= fun s => pure s) := by simp only [Builtin.max_, List.foldlM_cons, List.foldlM_nil]
theorem min_four (ats : Array TypeId) (ty : TypeId) (a b c d : Value) : Builtin.min_ ats ty #[a, b, c, d] = (Builtin.min2 a b >>= fun s => Builtin.min2 s c >>= fun s => Builtin.min2 s d >>= fun s => pure s) := by simp only [Builtin.min_, List.foldlM_cons, List.foldlM_nil]
end Go.Proofs.YtmbiebdcnadhkaaGreatW.PrintMore
namespace Go.Proofs.YtmbiebdcnadhkaaGreatW.PrintWords
open Go.RowKit
section
variable {P : Program} {ops : Array Oper} {rest : List Oper} {o : Oper} {a : Act} {Q : Exit → Act → World → Prop} {W : World}
theorem gate_callee {f : FuncId} {as1 : Array Operand} {ts : Array TypeId} (_ho : o.op = .call { callee := .value (.func f), args := as1, argTypes := ts }) (h : wpList P ops Q (o :: rest) a W) : wpList P ops Q (o :: rest) a W := h
theorem gate_builtin {b : Builtin} {xs : Array Operand} {ts : Array TypeId} (_ho : o.op = .call { callee := .builtin b, args := xs, argTypes := ts }) (h : wpList P ops Q (o :: rest) a W) : wpList P ops Q (o :: rest) a W := h
end
def mx (a b : Int) : Int := if a < b then b else a
def mn (a b : Int) : Int := if b < a then b else a
def shl (k : IntKind) (x y : Int) : Int := k.wrap (x * 2 ^ min y.toNat k.bits)
def shr (k : IntKind) (x y : Int) : Int := x / 2 ^ min y.toNat k.bits
theorem shr_small {k : IntKind} {x y j : Int} (h : shr k x y = j) (hy : y ≤ k.bits) : x / 2 ^ y.toNat = j := by rw [← h]; unfold shr; rw [Nat.min_eq_left (by omega)]
namespace Kd
section
variable {α : Type} {d : Kd α} {e base : Nat} {ok : Nat → Prop} {W w1 : World} {v : Value} {xs : List α}
end
section
variable {α : Type} {d : Kd α} {e base g n cap : Nat} {ok oki okp : Nat → Prop} {W : World} {xs : List α} {i : Int} {c : List Value}
end
section
variable {α : Type} {d : Kd α} {e base b b' g N : Nat} {ok ok1 : Nat → Prop} {W W2 w1 : World} {u v : Value} {xs ys : List α} {S : Nat → Prop}
end
end Kd
end Go.Proofs.YtmbiebdcnadhkaaGreatW.PrintWords
namespace Go.Proofs.YtmbiebdcnadhkaaGreatW.PrintWords
open Go.RowKit
namespace Kd
def V {α : Type} (d : Kd α) (_e : Nat) (W : World) (_base : Nat) (ok : Nat → Prop) (v : Value) (xs : List α) : Prop := ∃ A c, v = .slice A xs.length c ∧ xs.length ≤ c ∧ F d W ok A xs.length xs
section
variable {α β : Type} {d : Kd α} {e base base' n m c g N' lo hi : Nat} {ok ok' S : Nat → Prop} {w W w1 : World} {A : Option Addr} {ad : Addr} {u v v1 : Value} {xs : List α}
theorem V_nil (d : Kd α) (e : Nat) (W : World) (base : Nat) (ok : Nat → Prop) : V d e W base ok (.slice none 0 0) [] := ⟨none, 0, rfl, Nat.le_refl _, F_nil d W ok⟩
end
end Kd
end Go.Proofs.YtmbiebdcnadhkaaGreatW.PrintWords
namespace Go.Proofs.YtmbiebdcnadhkaaGreat.Fl
open Go.RowKit Go.Proofs.YtmbiebdcnadhkaaGreatW.PrintWords Go.Maps
abbrev Adr := Int × Int
def kv (a : Adr) : Value := .agg #[.int .i64 a.1, .int .i64 a.2]
def kAddr : Kd Adr := Kd.pair (Kd.int .i64) (Kd.int .i64)
abbrev kB : Kd Int := Kd.int .u8
abbrev TB : TypeId := 5
def Row (w : World) (base : Nat) (ok : Nat → Prop) (v : Value) (l : List Int) : Prop :=
 ∃ A c, v = .slice A l.length c ∧ l.length ≤ c ∧ l.length ≤ 9223372036854775807 ∧ ((A = none ∧ l = []) ∨ ∃ g off cs, A = some ⟨g, off, none⟩ ∧ base ≤ g ∧ ok g ∧ w.heap[g]? = some (.cells cs TB (0, 0)) ∧ ∀ j x, l[j]? = some x → cs[off + j]? = some (.int .u8 x))
section
variable {w w' : World} {base base' : Nat} {ok ok' : Nat → Prop} {v : Value} {l : List Int}
theorem Row.nil (w : World) (base : Nat) (ok : Nat → Prop) : Row w base ok (.slice none 0 0) [] := ⟨none, 0, rfl, Nat.le_refl _, by simp, .inl ⟨rfl, rfl⟩⟩
theorem Row.move (h : Row w base ok v l) (hm : ∀ k, ok k → w'.heap[k]? = w.heap[k]?) : Row w' base ok v l := by
 obtain ⟨A, c, h1, h2, h3, h4⟩ := h
 refine ⟨A, c, h1, h2, h3, h4.imp id ?_⟩
 rintro ⟨g, off, cs, e, hb, ho, hh, hc⟩
 exact ⟨g, off, cs, e, hb, ho, (hm g ho).trans hh, hc⟩
theorem Row.mono (h : Row w base ok v l) (hk : ∀ k, ok k → ok' k) : Row w base ok' v l := by
 obtain ⟨A, c, h1, h2, h3, h4⟩ := h
 refine ⟨A, c, h1, h2, h3, h4.imp id ?_⟩
 rintro ⟨g, off, cs, e, hb, ho, hh, hc⟩
 exact ⟨g, off, cs, e, hb, hk g ho, hh, hc⟩
theorem Row.lower (h : Row w base ok v l) (hb : base' ≤ base) : Row w base' ok v l := by
 obtain ⟨A, c, h1, h2, h3, h4⟩ := h
 refine ⟨A, c, h1, h2, h3, h4.imp id ?_⟩
 rintro ⟨g, off, cs, e, hg, ho, hh, hc⟩
 exact ⟨g, off, cs, e, by omega, ho, hh, hc⟩
theorem Row.bound (h : Row w base ok v l) : Row w base (fun k => ok k ∧ base ≤ k ∧ k < w.heap.size ∧ ∃ q, q ∈ [TB] ∧ ∃ cells, w.heap[k]? = some (.cells cells q (0, 0))) v l := by
 obtain ⟨A, c, h1, h2, h3, h4⟩ := h
 refine ⟨A, c, h1, h2, h3, h4.imp id ?_⟩
 rintro ⟨g, off, cs, e, hg, ho, hh, hc⟩
 exact ⟨g, off, cs, e, hg, ⟨ho, hg, (Array.getElem?_eq_some_iff.1 hh).1, TB, by simp, cs, hh⟩, hh, hc⟩
theorem Row.step (h : Row w base ok v l) (hm : ∀ k, ok k → k < w.heap.size → w'.heap[k]? = w.heap[k]?) : Row w' base ok v l :=
 Row.mono (Row.move (Row.bound h) (fun k hk => hm k hk.1 hk.2.2.1)) (fun _ hk => hk.1)
theorem Row.below (h : Row w base ok v l) (hb : Below w.heap.size w w') : Row w' base ok v l := h.step (fun k _ hlt => hb.block k hlt)
theorem Row.reads (h : Row w base ok v l) : ∃ A c, v = .slice A l.length c ∧ l.length ≤ c ∧ kB.C w A l.length l := by
 obtain ⟨A, c, h1, h2, h3, h4⟩ := h
 refine ⟨A, c, h1, h2, Kd.C_of_reads (d := 0) ⟨rfl, h3, fun hn => ?_⟩⟩
 rcases h4 with ⟨_, rfl⟩ | ⟨g, off, cs, e, hg, ho, hh, hc⟩
 ·simp at hn
 ·refine ⟨_, e, fun j hj => ?_⟩
  have ha : (⟨g, off, none⟩ : Addr).add j = ⟨g, off + j, none⟩ := Addr.add_lit _ _ _
  rw [ha]
  have := hc j _ (List.getElem?_eq_getElem hj)
  simp [World.cell?, hh, this, List.getD_eq_getElem?_getD, hj]
theorem Row.ofR (h : kB.R TB w base ok v l) : Row w base ok v l := by
 obtain ⟨h0, inner, ho, hr⟩ := h
 have hl := ho.1
 rcases ho.2 with ⟨rfl, h2⟩ | ⟨g, cap, cur, rfl, hg, hh, hle, hm, hs, ht⟩
 ·have : l = [] := by
   exact List.eq_nil_of_length_eq_zero h2
  subst this
  exact Row.nil _ _ _
 ·refine ⟨some ⟨g, 0, none⟩, cap, rfl, hle, Nat.le_trans hle hm, .inr ⟨g, 0, cur, rfl, hg, h0 g (by simp [Value.ownBlock]), hh, fun j x hj => ?_⟩⟩
  have h3 := hr.2 j x hj
  have h4 : (inner.drop (j * 1)).take 1 = [.int .u8 x] := h3
  have h5 : inner[j]? = some (.int .u8 x) := by
   have := congrArg (fun l => l[0]?) h4
   simpa using this
  rw [← ht, List.getElem?_take] at h5
  split at h5
  ·rw [Nat.zero_add]
   simpa using h5
  ·cases h5
end
def kData : Kd (List Int) where
 sz := 1
 E := [TB]
 K := fun w xs cs => ∃ A c, cs = [.slice A xs.length c] ∧ xs.length ≤ c ∧ kB.C w A xs.length xs
 M := fun w base ok xs cs => ∃ v, cs = [v] ∧ Row w base ok v xs
 K_len := by
  rintro w x cs ⟨A, c, rfl, _⟩
  rfl
 K_one := by
  rintro w x cs ⟨A, c, rfl, _⟩ u hu
  rw [List.mem_singleton.1 hu]
  rfl
 K_below := by
  rintro w w1 x cs hb ⟨A, c, rfl, hl, hr⟩
  exact ⟨A, c, rfl, hl, Kd.C_below hr hb⟩
 K_of_M := by
  rintro w base ok x cs ⟨v, rfl, h⟩
  obtain ⟨A, c, rfl, hl, hr⟩ := h.reads
  exact ⟨A, c, rfl, hl, hr⟩
 M_mono := by
  rintro w base ok ok' x cs hok ⟨v, rfl, h⟩
  exact ⟨v, rfl, h.mono hok⟩
 M_bound := by
  rintro w base ok x cs ⟨v, rfl, h⟩
  exact ⟨v, rfl, h.bound⟩
 M_move := by
  rintro w w1 base ok x cs hm ⟨v, rfl, h⟩
  exact ⟨v, rfl, h.move hm⟩
 M_lower := by
  rintro w base base' ok x cs hb ⟨v, rfl, h⟩
  exact ⟨v, rfl, h.lower hb⟩
abbrev Pg := Adr × List Int × Bool
def kPage : Kd Pg := Kd.pair kAddr (Kd.pair kData Kd.bool)
structure InR (a : Adr) : Prop where
 a0 : 0 ≤ a.1
 a1 : a.1 < 4096
 b0 : 0 ≤ a.2
 b1 : a.2 < 4096
structure ShapeOk (s : Int × Int × Int) : Prop where
 a0 : 1 ≤ s.1
 a1 : s.1 ≤ 16
 b0 : 1 ≤ s.2.1
 b1 : s.2.1 ≤ 64
 c0 : 16 ≤ s.2.2
 c1 : s.2.2 ≤ 256
structure Upd (S : Nat → Prop) (w w' : World) : Prop where
 os : w'.os = w.os
 tape : w'.tape = w.tape
 output : w'.output = w.output
 size : w.heap.size ≤ w'.heap.size
 block : ∀ k, k < w.heap.size → ¬ S k → w'.heap[k]? = w.heap[k]?
section
variable {S S' S2 : Nat → Prop} {w w1 w2 : World}
theorem Upd.refl (S : Nat → Prop) (w : World) : Upd S w w := ⟨rfl, rfl, rfl, Nat.le_refl _, fun _ _ _ => rfl⟩
theorem Upd.mono (h : Upd S w w1) (hs : ∀ k, S k → k < w.heap.size → S' k) : Upd S' w w1 := ⟨h.os, h.tape, h.output, h.size, fun k hk hn => h.block k hk (fun hS => hn (hs k hS hk))⟩
theorem Upd.trans (h : Upd S w w1) (k : Upd S2 w1 w2) (hs : ∀ k, S2 k → k < w.heap.size → S k) : Upd S w w2 :=
 ⟨k.os.trans h.os, k.tape.trans h.tape, k.output.trans h.output, Nat.le_trans h.size k.size, fun i hi hn => (k.block i (Nat.lt_of_lt_of_le hi h.size) (fun h2 => hn (hs i h2 hi))).trans (h.block i hi hn)⟩
theorem Upd.of_below {B : Nat} (h : Below B w w1) (S : Nat → Prop) (hS : ∀ k, ¬ S k → k < w.heap.size → k < B) : Upd S w w1 := ⟨h.os, h.tape, h.output, h.size, fun k hk hn => h.block k (hS k hn hk)⟩
theorem Upd.ofBelow (h : Below w.heap.size w w1) (S : Nat → Prop) : Upd S w w1 := ⟨h.os, h.tape, h.output, h.size, fun k hk _ => h.block k hk⟩
theorem Upd.below {B : Nat} (h : Upd S w w1) (hB : B ≤ w.heap.size) (hS : ∀ k, S k → B ≤ k) : Below B w w1 := ⟨h.os, h.tape, h.output, h.size, fun k hk => h.block k (by omega) (fun hk' => by have := hS k hk'; omega)⟩
theorem Upd.grown {row : Option Nat} (h : w.grownBy w1 row) (hr : ∀ k, row = some k → S k) : Upd S w w1 := ⟨h.os, h.tape, h.output, h.size, fun k hk hn => h.block k hk (fun e => hn (hr k e.symm))⟩
theorem Upd.setCell (w : World) {p : Addr} (hp : S p.block) (u : Value) : Upd S w (w.setCell p u) := ⟨rfl, rfl, rfl, by simp [World.setCell], fun k _ hn => Below.heap_setCell w p u k (fun e => hn (e ▸ hp))⟩
theorem Upd.alloc (S : Nat → Prop) (w : World) (o : Obj) : Upd S w (w.alloc o) := Upd.ofBelow (below_alloc (Below.refl _ _) o) S
theorem Upd.drewN (S : Nat → Prop) (w : World) (n : Nat) : Upd S w (w.drewN n) := Upd.ofBelow (pw_below_drewN (Below.refl _ _) n) S
theorem Upd.blk (h : Upd S w w1) {g : Nat} {o : Obj} (hb : w.heap[g]? = some o) (hn : ¬ S g) : w1.heap[g]? = some o := (h.block g (Array.getElem?_eq_some_iff.1 hb).1 hn).trans hb
end
theorem blt {w : World} {g : Nat} {o : Obj} (hb : w.heap[g]? = some o) : g < w.heap.size := (Array.getElem?_eq_some_iff.1 hb).1
theorem bcell {w : World} {g : Nat} {cs : Array Value} {t : TypeId} {fr : Nat × Nat} (h : w.heap[g]? = some (.cells cs t fr)) (i : Nat) : w.cell? ⟨g, i, none⟩ = cs[i]? := by
 unfold World.cell?
 simp [h]
theorem bfrozen {w : World} {g : Nat} {cs : Array Value} {t : TypeId} (h : w.heap[g]? = some (.cells cs t (0, 0))) (i : Nat) : w.frozen? ⟨g, i, none⟩ = false := by
 unfold World.frozen?
 simp [h]
theorem bset {w : World} {g : Nat} {cs : Array Value} {t : TypeId} (h : w.heap[g]? = some (.cells cs t (0, 0))) (i : Nat) (u : Value) : (w.setCell ⟨g, i, none⟩ u).heap[g]? = some (.cells (cs.setIfInBounds i u) t (0, 0)) := by
 simp [World.setCell, Array.getElem?_modify, h]
theorem typ_ne {w : World} {g g' : Nat} {cs cs' : Array Value} {t t' : TypeId} {fr fr' : Nat × Nat} (h : w.heap[g]? = some (.cells cs t fr)) (h' : w.heap[g']? = some (.cells cs' t' fr')) (ht : t ≠ t') : g ≠ g' := by
 rintro rfl
 rw [h] at h'
 injection h' with h'
 injection h' with _ h2
 exact ht h2
theorem map_ne {w : World} {g g' : Nat} {cs : Array Value} {t : TypeId} {fr : Nat × Nat} {es : Array MapEntry} {c : Nat} (h : w.heap[g]? = some (.cells cs t fr)) (h' : w.heap[g']? = some (.map es c)) : g ≠ g' := by
 rintro rfl
 rw [h] at h'
 injection h' with h'
 cases h'
structure PD where
 s : Int × Int × Int
 mp : List (Adr × List Int)
 dirty : List Adr
abbrev TA : TypeId := 30
abbrev TP : TypeId := 145
abbrev TD : TypeId := 116
abbrev TX : TypeId := 62
abbrev TM : TypeId := 113
def Ents (N0 : Nat) (ok : Nat → Prop) (w : World) : List MapEntry → List (Adr × List Int) → Prop
 | [], [] => True
 | e :: es, q :: qs => (e.key = kv q.1 ∧ InR q.1 ∧ Row w N0 ok e.val q.2) ∧ Ents N0 ok w es qs
 | _, _ => False
structure DevAt (N0 : Nat) (p : Nat) (D : PD) (ok : Nat → Prop) (w : World) (m : Nat) (v : Value) (es : Array MapEntry) (ck : Nat) : Prop where
 base : N0 ≤ p
 okp : ok p
 blk : w.heap[p]? = some (.cells #[.int .i64 D.s.1, .int .i64 D.s.2.1, .int .i64 D.s.2.2, .map (some m), v] TD (0, 0))
 okm : ok m
 basem : N0 ≤ m
 map : w.heap[m]? = some (.map es ck)
 ents : Ents N0 ok w es.toList D.mp
 dirty : kAddr.R TA w N0 ok v D.dirty
 shape : ShapeOk D.s
 inr : ∀ a ∈ D.dirty, InR a
 nodup : D.mp.Pairwise (fun x y => x.1 ≠ y.1)
 lens : ∀ q ∈ D.mp, q.2.length = D.s.2.2.toNat
def DevIs (N0 : Nat) (p : Nat) (D : PD) (ok : Nat → Prop) (w : World) : Prop := ∃ m v es ck, DevAt N0 p D ok w m v es ck
structure RefIs (N0 : Nat) (x : Nat) (s : Int × Int × Int) (ps : List Pg) (ok : Nat → Prop) (w : World) : Prop where
 base : N0 ≤ x
 okx : ok x
 blk : ∃ v, w.heap[x]? = some (.cells #[.int .i64 s.1, .int .i64 s.2.1, .int .i64 s.2.2, v] TX (0, 0)) ∧ kPage.R TP w N0 ok v ps
section
variable {N0 p x : Nat} {D : PD} {s : Int × Int × Int} {ps : List Pg} {ok ok' : Nat → Prop} {w w' : World}
theorem Ents.imp {N0 : Nat} {ok ok' : Nat → Prop} {w w' : World} (hR : ∀ v xs, Row w N0 ok v xs → Row w' N0 ok' v xs) : ∀ {es : List MapEntry} {qs : List (Adr × List Int)}, Ents N0 ok w es qs → Ents N0 ok' w' es qs
 | [], [], _ => trivial
 | _ :: _, _ :: _, ⟨⟨h1, h2, h3⟩, h4⟩ => ⟨⟨h1, h2, hR _ _ h3⟩, Ents.imp hR h4⟩
 | [], _ :: _, h => h.elim
 | _ :: _, [], h => h.elim
theorem DevIs.step (h : DevIs N0 p D ok w) (hm : ∀ k, ok k → k < w.heap.size → w'.heap[k]? = w.heap[k]?) : DevIs N0 p D ok w' := by
 obtain ⟨m, v, es, ck, h⟩ := h
 exact ⟨m, v, es, ck, h.base, h.okp, (hm p h.okp (blt h.blk)).trans h.blk, h.okm, h.basem, (hm m h.okm (blt h.map)).trans h.map, h.ents.imp (fun _ _ hr => hr.step hm), Kd.R_step h.dirty hm, h.shape, h.inr, h.nodup, h.lens⟩
theorem DevIs.mono (h : DevIs N0 p D ok w) (hk : ∀ k, ok k → ok' k) : DevIs N0 p D ok' w := by
 obtain ⟨m, v, es, ck, h⟩ := h
 exact ⟨m, v, es, ck, h.base, hk _ h.okp, h.blk, hk _ h.okm, h.basem, h.map, h.ents.imp (fun _ _ hr => hr.mono hk), Kd.R_mono h.dirty hk, h.shape, h.inr, h.nodup, h.lens⟩
theorem DevIs.bound (h : DevIs N0 p D ok w) : DevIs N0 p D (fun k => ok k ∧ N0 ≤ k ∧ k < w.heap.size) w := by
 obtain ⟨m, v, es, ck, h⟩ := h
 exact ⟨m, v, es, ck, h.base, ⟨h.okp, h.base, blt h.blk⟩, h.blk, ⟨h.okm, h.basem, blt h.map⟩, h.basem, h.map,
  h.ents.imp (fun _ _ hr => hr.bound.mono (fun _ hk => ⟨hk.1, hk.2.1, hk.2.2.1⟩)), Kd.R_mono (Kd.R_bound h.dirty) (fun _ hk => ⟨hk.1, hk.2.1, hk.2.2.1⟩), h.shape, h.inr, h.nodup, h.lens⟩
theorem DevIs.below (h : DevIs N0 p D ok w) (hb : Below w.heap.size w w') : DevIs N0 p D ok w' := h.step (fun k _ hlt => hb.block k hlt)
theorem DevIs.upd {S : Nat → Prop} (h : DevIs N0 p D ok w) (hu : Upd S w w') (hd : ∀ k, ok k → ¬ S k) : DevIs N0 p D ok w' := h.step (fun k hk hlt => hu.block k hlt (hd k hk))
theorem RefIs.step (h : RefIs N0 x s ps ok w) (hm : ∀ k, ok k → k < w.heap.size → w'.heap[k]? = w.heap[k]?) : RefIs N0 x s ps ok w' := by
 obtain ⟨h1, h2, v, h3, h4⟩ := h
 exact ⟨h1, h2, v, (hm x h2 (blt h3)).trans h3, Kd.R_step h4 hm⟩
theorem RefIs.mono (h : RefIs N0 x s ps ok w) (hk : ∀ k, ok k → ok' k) : RefIs N0 x s ps ok' w := by
 obtain ⟨h1, h2, v, h3, h4⟩ := h
 exact ⟨h1, hk _ h2, v, h3, Kd.R_mono h4 hk⟩
theorem RefIs.bound (h : RefIs N0 x s ps ok w) : RefIs N0 x s ps (fun k => ok k ∧ N0 ≤ k ∧ k < w.heap.size) w := by
 obtain ⟨h1, h2, v, h3, h4⟩ := h
 exact ⟨h1, ⟨h2, h1, blt h3⟩, v, h3, Kd.R_mono (Kd.R_bound h4) (fun _ hk => ⟨hk.1, hk.2.1, hk.2.2.1⟩)⟩
theorem RefIs.below (h : RefIs N0 x s ps ok w) (hb : Below w.heap.size w w') : RefIs N0 x s ps ok w' := h.step (fun k _ hlt => hb.block k hlt)
theorem RefIs.upd {S : Nat → Prop} (h : RefIs N0 x s ps ok w) (hu : Upd S w w') (hd : ∀ k, ok k → ¬ S k) : RefIs N0 x s ps ok w' := h.step (fun k hk hlt => hu.block k hlt (hd k hk))
end
theorem Row.typed {w w' : World} {base : Nat} {ok : Nat → Prop} {v : Value} {l : List Int} (h : Row w base ok v l) (hm : ∀ k cs, w.heap[k]? = some (.cells cs TB (0, 0)) → ok k → w'.heap[k]? = w.heap[k]?) : Row w' base ok v l :=
 Row.mono (Row.move (Row.bound h) (fun k hk => by
  obtain ⟨h1, _, _, q, hq, cs, hc⟩ := hk
  obtain rfl : q = TB := by simpa using hq
  exact hm k cs hc h1)) (fun _ hk => hk.1)
theorem R_typed {α : Type} {d : Kd α} {e base : Nat} {w w' : World} {ok : Nat → Prop} {v : Value} {xs : List α} (h : d.R e w base ok v xs) (hm : ∀ k cs q, q ∈ e :: d.E → w.heap[k]? = some (.cells cs q (0, 0)) → ok k → w'.heap[k]? = w.heap[k]?) : d.R e w' base ok v xs :=
 Kd.R_mono (Kd.R_move (Kd.R_bound h) (fun k hk => by
  obtain ⟨h1, _, _, q, hq, cs, hc⟩ := hk
  exact hm k cs q hq hc h1)) (fun _ hk => hk.1)
theorem A_typed {base : Nat} {w w' : World} {ok : Nat → Prop} {v : Value} {xs : List Adr} (h : kAddr.R TA w base ok v xs) (hm : ∀ k cs, w.heap[k]? = some (.cells cs TA (0, 0)) → ok k → w'.heap[k]? = w.heap[k]?) : kAddr.R TA w' base ok v xs :=
 R_typed h (fun k cs q hq hc ho => by
  have : q = TA := by simpa [kAddr, Kd.pair, Kd.int, Kd.scalar] using hq
  subst this
  exact hm k cs hc ho)
theorem not_typ {w : World} {g k : Nat} {cs cs' : Array Value} {t t' : TypeId} {fr fr' : Nat × Nat} (h : w.heap[g]? = some (.cells cs t fr)) (ht : t' ≠ t) (h' : w.heap[k]? = some (.cells cs' t' fr')) : k ≠ g := typ_ne h' h ht
def Mut (ok : Nat → Prop) (w : World) : Nat → Prop := fun k => ok k ∧ ∀ cs fr, w.heap[k]? ≠ some (.cells cs TB fr)
theorem mut_of {ok : Nat → Prop} {w : World} {k : Nat} {cs : Array Value} {t : TypeId} {fr : Nat × Nat} (ho : ok k) (h : w.heap[k]? = some (.cells cs t fr)) (ht : t ≠ TB) : Mut ok w k := ⟨ho, fun cs' fr' e => by
 rw [h] at e
 injection e with e
 injection e with _ e2
 exact ht e2⟩
theorem mut_map {ok : Nat → Prop} {w : World} {k : Nat} {es : Array MapEntry} {ck : Nat} (ho : ok k) (h : w.heap[k]? = some (.map es ck)) : Mut ok w k := ⟨ho, fun cs' fr' e => by
 rw [h] at e
 cases e⟩
theorem DevAt.mutp {N0 p : Nat} {D : PD} {ok : Nat → Prop} {w : World} {m : Nat} {v : Value} {es : Array MapEntry} {ck : Nat} (h : DevAt N0 p D ok w m v es ck) : Mut ok w p := mut_of h.okp h.blk (by decide)
theorem DevAt.mutm {N0 p : Nat} {D : PD} {ok : Nat → Prop} {w : World} {m : Nat} {v : Value} {es : Array MapEntry} {ck : Nat} (h : DevAt N0 p D ok w m v es ck) : Mut ok w m := mut_map h.okm h.map
theorem laidOut : laidOutB Tryz.prog = true := by kernel_rfl
theorem addr_law : Keyed Tryz.prog TA := Keyed.of_law (deep_law_laid laidOut (m := 2) (by omega) (of_decide_eq_true (by kernel_rfl)) (by kernel_rfl) (by rw [Tryz.underlying30]))
end Go.Proofs.YtmbiebdcnadhkaaGreat.Fl
namespace Go.Proofs.YtmbiebdcnadhkaaGreat.Fl
open Go.RowKit Go.Proofs.YtmbiebdcnadhkaaGreatW.PrintWords Go.Maps
theorem wf_i64 {a : Int} (h0 : 0 ≤ a) (h1 : a < 4096) : (Lit.int .i64 a).wf = true := by
 have h2 : IntKind.i64.min = -9223372036854775808 := by decide
 have h3 : IntKind.i64.max = 9223372036854775807 := by decide
 simp only [Lit.wf, h2, h3, Bool.and_eq_true, decide_eq_true_eq]
 omega
theorem keyOf_two {P : Program} {k i : TypeId} {fs : Array Field} (hk : P.keyType k = true) (hu : P.underlying k = some (.struct fs)) (h1 : fs.all (·.name != "_") = true) (h2 : fs.toList.map (fun f => (f.type, f.offset)) = [(i, 0), (i, 1)])
  (hi : P.underlying i = some (.int .i64)) (hc : P.cellsOf k = 2) (hci : P.cellsOf i = 1) (d : Nat) (hd : P.types.size = d + 1) {a : Adr} (h : InR a) : ∃ l, keyOf P k (kv a) = some l := by
 have w1 := wf_i64 h.a0 h.a1
 have w2 := wf_i64 h.b0 h.b1
 obtain ⟨f1, f2, hf⟩ : ∃ f1 f2, fs.toList = [f1, f2] := by
  match hl : fs.toList, h2 with
  | [f1, f2], _ => exact ⟨f1, f2, rfl⟩
  | [], h2 => simp at h2
  | [_], h2 => simp at h2
  | _ :: _ :: _ :: _, h2 => simp at h2
 rw [hf] at h2
 simp at h2
 obtain ⟨⟨e1, e2⟩, e3, e4⟩ := h2
 unfold keyOf kv
 rw [hu]
 simp [hk, Value.formed, hu, hc, Value.cells, hd, Program.keyLits, hf, e1, e2, e3, e4, hci, hi, w1, w2, List.mapM_cons, h1]
theorem size_pos : ∃ d, Tryz.prog.types.size = d + 1 := by
 cases h : Tryz.prog.types.size with
 | zero => exact absurd h (by have : (0 < Tryz.prog.types.size) := of_decide_eq_true (by kernel_rfl); omega)
 | succ d => exact ⟨d, rfl⟩
theorem keyOf_addr {a : Adr} (h : InR a) : ∃ l, keyOf Tryz.prog TA (kv a) = some l := by
 obtain ⟨d, hd⟩ := size_pos
 exact keyOf_two (by kernel_rfl) Tryz.underlying30 (by simp) (by rfl) Tryz.underlying3 (by kernel_rfl) (by kernel_rfl) d hd h
theorem kv_inj {a b : Adr} (h : kv a = kv b) : a = b := by
 obtain ⟨a1, a2⟩ := a
 obtain ⟨b1, b2⟩ := b
 simp only [kv, Value.agg.injEq] at h
 have := congrArg Array.toList h
 simp at this
 rw [this.1, this.2]
def look (a : Adr) : List (Adr × List Int) → Option (List Int)
 | [] => none
 | q :: qs => if q.1 = a then some q.2 else look a qs
theorem ents_keys {N0 : Nat} {ok : Nat → Prop} {w : World} : ∀ {es : List MapEntry} {qs : List (Adr × List Int)}, Ents N0 ok w es qs → ∀ e ∈ es, ∃ l, keyOf Tryz.prog TA e.key = some l
 | [], [], _, _, he => by cases he
 | x :: es, q :: qs, ⟨⟨h1, h2, _⟩, h4⟩, e, he => by
  rcases List.mem_cons.1 he with rfl | he
  ·rw [h1]; exact keyOf_addr h2
  ·exact ents_keys h4 e he
 | [], _ :: _, h, _, _ => h.elim
 | _ :: _, [], h, _, _ => h.elim
theorem ents_none {N0 : Nat} {ok : Nat → Prop} {w : World} {a : Adr} : ∀ {es : List MapEntry} {qs : List (Adr × List Int)}, Ents N0 ok w es qs → (∀ e ∈ es, e.key ≠ kv a) → look a qs = none
 | [], [], _, _ => rfl
 | x :: es, q :: qs, ⟨⟨h1, _, _⟩, h4⟩, h => by
  unfold look
  rw [if_neg (fun e => h x (by simp) (by rw [h1, e]))]
  exact ents_none h4 (fun e he => h e (by simp [he]))
 | [], _ :: _, h, _ => h.elim
 | _ :: _, [], h, _ => h.elim
def Nodup (qs : List (Adr × List Int)) : Prop := qs.Pairwise (fun x y => x.1 ≠ y.1)
theorem look_mem {a : Adr} : ∀ {qs : List (Adr × List Int)} {b : List Int}, look a qs = some b → (a, b) ∈ qs
 | [], _, h => by cases h
 | q :: qs, b, h => by
  unfold look at h
  split at h
  ·rename_i he
   cases h
   subst he
   simp
  ·simp [look_mem h]
theorem look_of_mem {a : Adr} {b : List Int} : ∀ {qs : List (Adr × List Int)}, Nodup qs → (a, b) ∈ qs → look a qs = some b
 | [], _, h => by cases h
 | q :: qs, hn, h => by
  obtain ⟨h1, h2⟩ := List.pairwise_cons.1 hn
  unfold look
  rcases List.mem_cons.1 h with rfl | h
  ·simp
  ·rw [if_neg (fun e => h1 _ h (by rw [e]))]
   exact look_of_mem h2 h
theorem ents_at {N0 : Nat} {ok : Nat → Prop} {w : World} : ∀ {es : List MapEntry} {qs : List (Adr × List Int)}, Ents N0 ok w es qs → ∀ {j : Nat} {e : MapEntry}, es[j]? = some e → ∃ q, qs[j]? = some q ∧ e.key = kv q.1 ∧ InR q.1 ∧ Row w N0 ok e.val q.2
 | [], [], _, j, e, h => by simp at h
 | x :: es, q :: qs, ⟨h1, h4⟩, 0, e, h => by
  simp at h
  subst h
  exact ⟨q, rfl, h1⟩
 | x :: es, q :: qs, ⟨h1, h4⟩, j + 1, e, h => by
  rw [List.getElem?_cons_succ] at h ⊢
  exact ents_at h4 h
 | [], _ :: _, h, _, _, _ => h.elim
 | _ :: _, [], h, _, _, _ => h.elim
theorem run_find {N0 : Nat} {ok : Nat → Prop} {w : World} {es : List MapEntry} {qs : List (Adr × List Int)} (h : Ents N0 ok w es qs) (hn : Nodup qs) {a : Adr} (ha : InR a) :
  ((Instr.findKey TA (kv a) es).run Tryz.prog w = .ok none w ∧ look a qs = none) ∨
  ∃ j e b, (Instr.findKey TA (kv a) es).run Tryz.prog w = .ok (some (j, e.val)) w ∧ es[j]? = some e ∧ e.key = kv a ∧ qs[j]? = some (a, b) ∧ look a qs = some b ∧ Row w N0 ok e.val b := by
 obtain ⟨l, hl⟩ := keyOf_addr ha
 rcases addr_law.find w hl es (ents_keys h) with ⟨h1, h2⟩ | ⟨j, e, h1, h2, h3⟩
 ·exact .inl ⟨h1, ents_none h h2⟩
 ·obtain ⟨q, hq, hk, hr, hR⟩ := ents_at h h2
  have : q.1 = a := kv_inj (by rw [← hk, h3])
  subst this
  refine .inr ⟨j, e, q.2, h1, h2, h3, hq, look_of_mem hn (List.mem_iff_getElem?.2 ⟨j, hq⟩), hR⟩
theorem run_check {w : World} {a : Adr} (ha : InR a) (em : Bool) : (Instr.checkKey em 10000 TA (kv a)).run Tryz.prog w = .ok () w := by
 obtain ⟨l, hl⟩ := keyOf_addr ha
 exact addr_law.check w em hl
theorem run_zero (w : World) : (zeroValue 25).run Tryz.prog w = .ok (.slice none 0 0) w := by kernel_rfl
theorem run_look {N0 : Nat} {ok : Nat → Prop} {w : World} {m : Nat} {es : Array MapEntry} {ck : Nat} {qs : List (Adr × List Int)} (hm : w.heap[m]? = some (.map es ck)) (h : Ents N0 ok w es.toList qs) (hn : Nodup qs) {a : Adr} (ha : InR a) (cm : Bool) :
  ∃ v, (Instr.lookup TM (.map (some m)) (kv a) cm).run Tryz.prog w = .ok (if cm then .tuple #[v, .bool (look a qs).isSome] else v) w ∧ Row w N0 ok v ((look a qs).getD []) := by
 have hk := run_check (w := w) ha es.isEmpty
 rcases run_find h hn ha with ⟨hf, hl⟩ | ⟨j, e, b, hf, h1, h2, h3, hl, hR⟩
 ·refine ⟨.slice none 0 0, ?_, ?_⟩
  ·simp [Instr.lookup, run_underlying Tryz.underlying113, MapKept.run_getObj_map hm, hk, hf, run_zero, hl, Result.andThen]
  ·rw [hl]; exact Row.nil _ _ _
 ·refine ⟨e.val, ?_, ?_⟩
  ·simp [Instr.lookup, run_underlying Tryz.underlying113, MapKept.run_getObj_map hm, hk, hf, hl, Result.andThen]
  ·rw [hl]; exact hR
def put (a : Adr) (b : List Int) : List (Adr × List Int) → List (Adr × List Int)
 | [] => [(a, b)]
 | q :: qs => if q.1 = a then (a, b) :: qs else q :: put a b qs
def del (a : Adr) : List (Adr × List Int) → List (Adr × List Int)
 | [] => []
 | q :: qs => if q.1 = a then qs else q :: del a qs
theorem look_put (a c : Adr) (b : List Int) : ∀ qs, look c (put a b qs) = if c = a then some b else look c qs
 | [] => by
  unfold put look
  by_cases h : c = a
  ·rw [if_pos h, if_pos h.symm]
  ·rw [if_neg h, if_neg (fun e => h e.symm)]
   rfl
 | q :: qs => by
  unfold put
  by_cases h : q.1 = a
  ·rw [if_pos h]
   unfold look
   by_cases h2 : c = a
   ·rw [if_pos h2, if_pos h2.symm]
   ·rw [if_neg h2, if_neg (fun e => h2 e.symm), if_neg (fun e => h2 (by rw [← h, e]))]
  ·rw [if_neg h]
   unfold look
   by_cases h2 : q.1 = c
   ·rw [if_pos h2, if_pos h2, if_neg (fun e => h (by rw [h2, e]))]
   ·rw [if_neg h2, if_neg h2]
    exact look_put a c b qs
theorem put_keys {a : Adr} {b : List Int} {q : Adr × List Int} : ∀ {qs : List (Adr × List Int)}, q ∈ put a b qs → q = (a, b) ∨ q ∈ qs
 | [], h => by
  unfold put at h
  simp at h
  exact .inl h
 | p :: qs, h => by
  unfold put at h
  split at h
  ·rcases List.mem_cons.1 h with h | h
   ·exact .inl h
   ·exact .inr (by simp [h])
  ·rcases List.mem_cons.1 h with h | h
   ·exact .inr (by simp [h])
   ·rcases put_keys h with h | h
    ·exact .inl h
    ·exact .inr (by simp [h])
theorem nodup_put {a : Adr} {b : List Int} : ∀ {qs : List (Adr × List Int)}, Nodup qs → Nodup (put a b qs)
 | [], _ => by unfold put Nodup; simp
 | q :: qs, h => by
  obtain ⟨h1, h2⟩ := List.pairwise_cons.1 h
  unfold put
  split
  ·rename_i he
   exact List.pairwise_cons.2 ⟨fun y hy => he ▸ h1 y hy, h2⟩
  ·rename_i he
   refine List.pairwise_cons.2 ⟨fun y hy => ?_, nodup_put h2⟩
   rcases put_keys hy with rfl | hy
   ·exact he
   ·exact h1 y hy
theorem del_mem {a : Adr} {q : Adr × List Int} : ∀ {qs : List (Adr × List Int)}, q ∈ del a qs → q ∈ qs
 | [], h => h
 | p :: qs, h => by
  unfold del at h
  split at h
  ·simp [h]
  ·rcases List.mem_cons.1 h with h | h
   ·simp [h]
   ·simp [del_mem h]
theorem nodup_del {a : Adr} : ∀ {qs : List (Adr × List Int)}, Nodup qs → Nodup (del a qs)
 | [], h => h
 | q :: qs, h => by
  obtain ⟨h1, h2⟩ := List.pairwise_cons.1 h
  unfold del
  split
  ·exact h2
  ·exact List.pairwise_cons.2 ⟨fun y hy => h1 y (del_mem hy), nodup_del h2⟩
theorem look_none_of {c : Adr} : ∀ {qs : List (Adr × List Int)}, (∀ q ∈ qs, q.1 ≠ c) → look c qs = none
 | [], _ => rfl
 | q :: qs, h => by
  unfold look
  rw [if_neg (h q (by simp))]
  exact look_none_of (fun y hy => h y (by simp [hy]))
theorem look_del (a c : Adr) : ∀ {qs : List (Adr × List Int)}, Nodup qs → look c (del a qs) = if c = a then none else look c qs
 | [], _ => by unfold del look; simp
 | q :: qs, h => by
  obtain ⟨h1, h2⟩ := List.pairwise_cons.1 h
  unfold del
  by_cases he : q.1 = a
  ·rw [if_pos he]
   by_cases hc : c = a
   ·rw [if_pos hc]
    exact look_none_of (fun y hy => by rw [hc, ← he]; exact (h1 y hy).symm)
   ·rw [if_neg hc]
    show _ = (if q.1 = c then some q.2 else look c qs)
    rw [if_neg (fun e => hc (by rw [← e, he]))]
  ·rw [if_neg he]
   unfold look
   by_cases hc : q.1 = c
   ·rw [if_pos hc, if_pos hc, if_neg (fun e => he (by rw [hc, e]))]
   ·rw [if_neg hc, if_neg hc]
    exact look_del a c h2
theorem ents_push {N0 : Nat} {ok : Nat → Prop} {w : World} {e : MapEntry} {q : Adr × List Int} (he : e.key = kv q.1 ∧ InR q.1 ∧ Row w N0 ok e.val q.2) : ∀ {es : List MapEntry} {qs : List (Adr × List Int)}, Ents N0 ok w es qs → Ents N0 ok w (es ++ [e]) (qs ++ [q])
 | [], [], _ => ⟨he, trivial⟩
 | _ :: _, _ :: _, ⟨h1, h4⟩ => ⟨h1, ents_push he h4⟩
 | [], _ :: _, h => h.elim
 | _ :: _, [], h => h.elim
theorem put_new {a : Adr} {b : List Int} : ∀ {qs : List (Adr × List Int)}, look a qs = none → put a b qs = qs ++ [(a, b)]
 | [], _ => rfl
 | q :: qs, h => by
  unfold look at h
  split at h
  ·cases h
  ·rename_i he
   unfold put
   rw [if_neg he, put_new h]
   rfl
theorem ents_set {N0 : Nat} {ok : Nat → Prop} {w : World} {e : MapEntry} {a : Adr} {b b0 : List Int} (he : e.key = kv a ∧ InR a ∧ Row w N0 ok e.val b) : ∀ {es : List MapEntry} {qs : List (Adr × List Int)}, Ents N0 ok w es qs → Nodup qs → ∀ {j : Nat}, qs[j]? = some (a, b0) → Ents N0 ok w (es.set j e) (put a b qs)
 | [], [], _, _, j, h => by simp at h
 | x :: es, q :: qs, ⟨_, h4⟩, _, 0, h => by
  simp at h
  subst h
  unfold put
  rw [if_pos rfl]
  exact ⟨he, h4⟩
 | x :: es, q :: qs, ⟨h1, h4⟩, hn, j + 1, h => by
  rw [List.getElem?_cons_succ] at h
  obtain ⟨n1, n2⟩ := List.pairwise_cons.1 hn
  unfold put
  rw [if_neg (n1 _ (List.mem_of_getElem? h))]
  exact ⟨h1, ents_set he h4 n2 h⟩
 | [], _ :: _, h, _, _, _ => h.elim
 | _ :: _, [], h, _, _, _ => h.elim
theorem ents_erase {N0 : Nat} {ok : Nat → Prop} {w : World} {a : Adr} {b0 : List Int} : ∀ {es : List MapEntry} {qs : List (Adr × List Int)}, Ents N0 ok w es qs → Nodup qs → ∀ {j : Nat}, qs[j]? = some (a, b0) → Ents N0 ok w (es.eraseIdx j) (del a qs)
 | [], [], _, _, j, h => by simp at h
 | x :: es, q :: qs, ⟨_, h4⟩, _, 0, h => by
  simp at h
  subst h
  unfold del
  rw [if_pos rfl]
  exact h4
 | x :: es, q :: qs, ⟨h1, h4⟩, hn, j + 1, h => by
  rw [List.getElem?_cons_succ] at h
  obtain ⟨n1, n2⟩ := List.pairwise_cons.1 hn
  unfold del
  rw [if_neg (n1 _ (List.mem_of_getElem? h))]
  exact ⟨h1, ents_erase h4 n2 h⟩
 | [], _ :: _, h, _, _, _ => h.elim
 | _ :: _, [], h, _, _, _ => h.elim
theorem del_none {a : Adr} : ∀ {qs : List (Adr × List Int)}, look a qs = none → del a qs = qs
 | [], _ => rfl
 | q :: qs, h => by
  unfold look at h
  split at h
  ·cases h
  ·rename_i he
   unfold del
   rw [if_neg he, del_none h]
def putMap (w : World) (m : Nat) (es : Array MapEntry) (ck : Nat) : World := ChangeMaps.setBlock w m (.map es ck)
theorem putMap_same {w : World} {m : Nat} {o : Obj} (h : w.heap[m]? = some o) (es : Array MapEntry) (ck : Nat) : (putMap w m es ck).heap[m]? = some (.map es ck) := by
 have := blt h
 simp [putMap, ChangeMaps.setBlock, this]
theorem putMap_other (w : World) {m k : Nat} (hk : k ≠ m) (es : Array MapEntry) (ck : Nat) : (putMap w m es ck).heap[k]? = w.heap[k]? := by
 simp [putMap, ChangeMaps.setBlock, Array.getElem?_setIfInBounds, Ne.symm hk]
theorem putMap_upd {S : Nat → Prop} (w : World) {m : Nat} (hm : S m) (es : Array MapEntry) (ck : Nat) : Upd S w (putMap w m es ck) :=
 ⟨rfl, rfl, rfl, by simp [putMap, ChangeMaps.setBlock], fun k _ hn => putMap_other w (fun e => hn (by rw [e]; exact hm)) es ck⟩
theorem putMap_size (w : World) (m : Nat) (es : Array MapEntry) (ck : Nat) : (putMap w m es ck).heap.size = w.heap.size := by simp [putMap, ChangeMaps.setBlock]
theorem R_putMap {w : World} {m N0 e : Nat} {ok : Nat → Prop} {α : Type} {d : Kd α} {v : Value} {xs : List α} (hm : ∃ es ck, w.heap[m]? = some (.map es ck)) (h : d.R e w N0 ok v xs) (es : Array MapEntry) (ck : Nat) : d.R e (putMap w m es ck) N0 ok v xs := by
 obtain ⟨es0, ck0, hm⟩ := hm
 refine Kd.R_mono (Kd.R_move (Kd.R_bound h) (fun k hk => putMap_other w ?_ es ck)) (fun _ hk => hk.1)
 rintro rfl
 obtain ⟨_, _, _, q, _, cs, hc⟩ := hk
 rw [hc] at hm
 cases hm
theorem Row_putMap {w : World} {m N0 : Nat} {ok : Nat → Prop} {v : Value} {xs : List Int} (hm : ∃ es ck, w.heap[m]? = some (.map es ck)) (h : Row w N0 ok v xs) (es : Array MapEntry) (ck : Nat) : Row (putMap w m es ck) N0 ok v xs := by
 obtain ⟨es0, ck0, hm⟩ := hm
 refine Row.mono (Row.move (Row.bound h) (fun k hk => putMap_other w ?_ es ck)) (fun _ hk => hk.1)
 rintro rfl
 obtain ⟨_, _, _, q, _, cs, hc⟩ := hk
 rw [hc] at hm
 cases hm
theorem run_update {N0 : Nat} {ok : Nat → Prop} {w : World} {m : Nat} {es : Array MapEntry} {ck : Nat} {qs : List (Adr × List Int)} (hm : w.heap[m]? = some (.map es ck)) (h : Ents N0 ok w es.toList qs) (hn : Nodup qs) {a : Adr} (ha : InR a)
  {v : Value} {b : List Int} (hv : Row w N0 ok v b) :
  ∃ es' ck', (Instr.mapUpdate TM (.map (some m)) (kv a) v).run Tryz.prog w = .ok () (putMap w m es' ck') ∧ Ents N0 ok (putMap w m es' ck') es'.toList (put a b qs) := by
 have hk := run_check (w := w) ha false
 obtain ⟨l, hl⟩ := keyOf_addr ha
 rcases run_find h hn ha with ⟨hf, hl⟩ | ⟨j, e, b0, hf, h1, h2, h3, _, hR⟩
 ·refine ⟨es.push ⟨kv a, v, ck⟩, ck + 1, ?_, ?_⟩
  ·simp [Instr.mapUpdate, run_underlying Tryz.underlying113, MapKept.run_getObj_map hm, hk, hf, MapKept.run_setObj_map _ hm, Result.andThen, putMap, ChangeMaps.setBlock]
  ·rw [put_new hl, Array.toList_push]
   exact Ents.imp (fun _ _ hr => Row_putMap ⟨_, _, hm⟩ hr _ _) (ents_push ⟨rfl, ha, hv⟩ h)
 ·have hj : es[j]? = some e := by simpa using h1
  have hst := addr_law.stays w hl
  refine ⟨es.modify j (fun e' => { e' with key := kv a, val := v }), ck, ?_, ?_⟩
  ·simp [Instr.mapUpdate, run_underlying Tryz.underlying113, MapKept.run_getObj_map hm, hk, hf, hj, h2, hst, MapKept.run_setObj_map _ hm, Result.andThen, putMap, ChangeMaps.setBlock]
  ·have hlist : (es.modify j (fun e' => { e' with key := kv a, val := v })).toList = es.toList.set j { e with key := kv a, val := v } := by rw [Array.toList_modify, ChangeMaps.modify_eq_set _ _ _ _ h1]
   rw [hlist]
   exact Ents.imp (fun _ _ hr => Row_putMap ⟨_, _, hm⟩ hr _ _) (ents_set ⟨rfl, ha, hv⟩ h hn h3)
theorem run_delete {N0 : Nat} {ok : Nat → Prop} {w : World} {m : Nat} {es : Array MapEntry} {ck : Nat} {qs : List (Adr × List Int)} (hm : w.heap[m]? = some (.map es ck)) (h : Ents N0 ok w es.toList qs) (hn : Nodup qs) {a : Adr} (ha : InR a) (ty : TypeId) :
  ∃ es' ck', (Builtin.delete_ #[TM, TA] ty #[.map (some m), kv a]).run Tryz.prog w = .ok (.tuple #[]) (putMap w m es' ck') ∧ Ents N0 ok (putMap w m es' ck') es'.toList (del a qs) := by
 have hk := run_check (w := w) ha es.isEmpty
 rcases run_find h hn ha with ⟨hf, hl⟩ | ⟨j, e, b0, hf, h1, h2, h3, _, hR⟩
 ·refine ⟨es, ck, ?_, ?_⟩
  ·simp [Builtin.delete_, run_underlying Tryz.underlying113, MapKept.run_getObj_map hm, hk, hf, MapKept.run_setObj_map _ hm, Result.andThen, putMap, ChangeMaps.setBlock]
  ·rw [del_none hl]
   exact Ents.imp (fun _ _ hr => Row_putMap ⟨_, _, hm⟩ hr _ _) h
 ·refine ⟨es.eraseIdxIfInBounds j, ck, ?_, ?_⟩
  ·simp [Builtin.delete_, run_underlying Tryz.underlying113, MapKept.run_getObj_map hm, hk, hf, MapKept.run_setObj_map _ hm, Result.andThen, putMap, ChangeMaps.setBlock]
  ·rw [Array.toList_eraseIdxIfInBounds]
   exact Ents.imp (fun _ _ hr => Row_putMap ⟨_, _, hm⟩ hr _ _) (ents_erase h hn h3)
end Go.Proofs.YtmbiebdcnadhkaaGreat.Fl
namespace Go.Proofs.YtmbiebdcnadhkaaGreat.Fl
open Go.RowKit Go.Proofs.YtmbiebdcnadhkaaGreatW.PrintWords Go.Maps
def fitsB (a b c : Int) : Bool := decide (b ≤ a ∧ a ≤ c)
set_option maxHeartbeats 400000 in
theorem Fits_any (a b c : Int) (w : World) : Calls Tryz.prog 91 #[.int .i64 a, .int .i64 b, .int .i64 c] w fun e w' => e = .returned (.bool (fitsB a b c)) ∧ w = w' := by
 by_cases h1 : b ≤ a
 ·go_enter Tryz.func91, Tryz.ntmps91
  go_wp2
  all_goals (try go_ret)
  exact ⟨by simp [fitsB, h1], rfl⟩
 ·have hd : decide (b ≤ a) = false := by simpa using h1
  go_enter Tryz.func91, Tryz.ntmps91
  go_wp2
  all_goals (try go_ret)
  exact ⟨by simp [fitsB]; omega, rfl⟩
set_option maxHeartbeats 400000 in
set_option maxRecDepth 100000 in
theorem ok_blk {w : World} {p : Nat} {c0 c1 c2 v : Value} {m : Nat} (hp : w.heap[p]? = some (.cells #[c0, c1, c2, .map (some m), v] TD (0, 0))) :
  Calls Tryz.prog 69 #[.pointer (some ⟨p, 0, none⟩)] w fun e w' => e = .returned (.bool true) ∧ w = w' := by
 have hc : w.cell? ⟨p, 3, none⟩ = some (.map (some m)) := bcell hp 3
 have nm := fun (w : World) (r : Option Nat) => run_neq_map_nil (P := Tryz.prog) w TM TA 25 r Tryz.underlying113
 clear hp
 go_enter Tryz.func69, Tryz.ntmps69
 go_wp2
 go_ret
 exact ⟨rfl, rfl⟩
set_option maxHeartbeats 400000 in
theorem ok_nil (w : World) : Calls Tryz.prog 69 #[.pointer none] w fun e w' => e = .returned (.bool false) ∧ w = w' := by
 go_enter Tryz.func69, Tryz.ntmps69
 go_wp2
 go_ret
 exact ⟨rfl, rfl⟩
def hasB (s : Int × Int × Int) (a b : Int) : Bool := fitsB a 0 (s.1 - 1) && fitsB b 0 (s.2.1 - 1)
def hasE (s : Int × Int × Int) (a b : Int) : Int := if hasB s a b then 0 else 6
theorem hasB_inr {s : Int × Int × Int} (hs : ShapeOk s) {a b : Int} (h : hasB s a b = true) : InR (a, b) := by
 have := hs.a1; have := hs.b1
 simp [hasB, fitsB] at h
 exact ⟨by simp; omega, by simp; omega, by simp; omega, by simp; omega⟩
set_option maxHeartbeats 400000 in
set_option maxRecDepth 100000 in
theorem has_blk {w : World} {p : Nat} {s : Int × Int × Int} {v : Value} {m : Nat} (hs : ShapeOk s) (hp : w.heap[p]? = some (.cells #[.int .i64 s.1, .int .i64 s.2.1, .int .i64 s.2.2, .map (some m), v] TD (0, 0))) (a b : Int) :
  Calls Tryz.prog 92 #[.pointer (some ⟨p, 0, none⟩), .int .i64 a, .int .i64 b] w fun e w' => e = .returned (.int .i64 (hasE s a b)) ∧ w = w' := by
 obtain ⟨s1, s2, s3⟩ := s
 have h1 := hs.a0; have h2 := hs.a1; have h3 := hs.b0; have h4 := hs.b1
 clear hs
 simp only at h1 h2 h3 h4
 have hc0 : w.cell? ⟨p, 0, none⟩ = some (.int .i64 s1) := bcell hp 0
 have hc1 : w.cell? ⟨p, 1, none⟩ = some (.int .i64 s2) := bcell hp 1
 have hP := Lib.hid hp
 clear hp
 cases e1 : fitsB a 0 (s1 - 1) with
 | true =>
  cases e2 : fitsB b 0 (s2 - 1) with
  | true =>
   have E3 := Lib.hid (show hasE (s1, s2, s3) a b = 0 by simp [hasE, hasB, e1, e2])
   go_enter Tryz.func92, Tryz.ntmps92
   go_wp2_with (first | (go_at_call 69; ((with_reducible refine (ok_blk hP.out).mono ?_); rintro e w' ⟨rfl, rfl⟩)) | (go_at_call 91; ((with_reducible refine (Fits_any _ _ _ _).mono ?_); rintro e w' ⟨rfl, rfl⟩)))
   go_ret
   exact ⟨by rw [E3.out]; rfl, rfl⟩
  | false =>
   have E3 := Lib.hid (show hasE (s1, s2, s3) a b = 6 by simp [hasE, hasB, e1, e2])
   go_enter Tryz.func92, Tryz.ntmps92
   go_wp2_with (first | (go_at_call 69; ((with_reducible refine (ok_blk hP.out).mono ?_); rintro e w' ⟨rfl, rfl⟩)) | (go_at_call 91; ((with_reducible refine (Fits_any _ _ _ _).mono ?_); rintro e w' ⟨rfl, rfl⟩)))
   go_ret
   exact ⟨by rw [E3.out]; rfl, rfl⟩
 | false =>
   have E3 := Lib.hid (show hasE (s1, s2, s3) a b = 6 by simp [hasE, hasB, e1])
   go_enter Tryz.func92, Tryz.ntmps92
   go_wp2_with (first | (go_at_call 69; ((with_reducible refine (ok_blk hP.out).mono ?_); rintro e w' ⟨rfl, rfl⟩)) | (go_at_call 91; ((with_reducible refine (Fits_any _ _ _ _).mono ?_); rintro e w' ⟨rfl, rfl⟩)))
   go_ret
   exact ⟨by rw [E3.out]; rfl, rfl⟩
theorem Shape_blk {w : World} {p : Nat} {s : Int × Int × Int} {v : Value} {m : Nat} (hp : w.heap[p]? = some (.cells #[.int .i64 s.1, .int .i64 s.2.1, .int .i64 s.2.2, .map (some m), v] TD (0, 0))) :
  Calls Tryz.prog 58 #[.pointer (some ⟨p, 0, none⟩)] w fun e w' => e = .returned (.agg #[.int .i64 s.1, .int .i64 s.2.1, .int .i64 s.2.2]) ∧ Below w.heap.size w w' := by
 have hc0 : w.cell? ⟨p, 0, none⟩ = some (.int .i64 s.1) := bcell hp 0
 have hc1 : w.cell? ⟨p, 1, none⟩ = some (.int .i64 s.2.1) := bcell hp 1
 have hc2 : w.cell? ⟨p, 2, none⟩ = some (.int .i64 s.2.2) := bcell hp 2
 have hl := blt hp
 have hP := Lib.hid hp
 clear hp
 go_enter Tryz.func58, Tryz.ntmps58
 go_wp2_with (first | (go_at_call 69; (refine (ok_blk ((Below.heap_alloc _ _ _ hl).trans hP.out)).mono ?_; rintro e w' ⟨rfl, rfl⟩)))
 exact bodyPost_ret (v := .agg #[.int .i64 s.1, .int .i64 s.2.1, .int .i64 s.2.2]) (by simp [results, Tryz.results58, go_sem]) rfl ⟨rfl, by repeat' (first | exact Below.refl _ _ | refine Below.setCell ?_ (Nat.le_refl _) _ | refine Below.alloc ?_ (Nat.le_refl _) _)⟩
end Go.Proofs.YtmbiebdcnadhkaaGreat.Fl
namespace Go.Proofs.YtmbiebdcnadhkaaGreat.Fl
open Go.RowKit Go.Proofs.YtmbiebdcnadhkaaGreatW.PrintWords Go.Proofs.YtmbiebdcnadhkaaGreatW.PrintMore Go.Maps
theorem and_mask (n : Nat) (h : n < 4294967296) : Go.bits .and .u64 (n : Int) 4294967295 = (n : Int) := by
 have h2 := bits_and_u64_nat n 4294967295 (by omega) (by omega)
 have h3 : n &&& 4294967295 = n := by
  have := Nat.and_two_pow_sub_one_eq_mod n 32
  rw [show (2 : Nat) ^ 32 - 1 = 4294967295 from rfl] at this
  exact this.trans (Nat.mod_eq_of_lt h)
 rw [h3] at h2
 exact h2
set_option maxHeartbeats 1000000 in
set_option maxRecDepth 100000 in
theorem Mul64_one (n : Nat) (h : n ≤ 8192) (w : World) : Calls Tryz.prog 140 #[.int .u64 1, .int .u64 (n : Int)] w fun e w' => e = .returned (.tuple #[.int .u64 0, .int .u64 (n : Int)]) ∧ w = w' := by
 have ha := and_mask n (by omega)
 have h0 : (n : Int) / 4294967296 = 0 := by omega
 have h1 : Go.bits .and .u64 1 4294967295 = 1 := by decide
 have h2 : Go.bits .and .u64 0 4294967295 = 0 := by decide
 have hz : (0 : Int) ≤ n := by omega
 have hn : (n : Int) ≤ 8192 := by omega
 go_enter Tryz.func140, Tryz.ntmps140
 go_wp2
 go_ret2
 exact ⟨rfl, rfl⟩
set_option maxHeartbeats 1000000 in
set_option maxRecDepth 100000 in
theorem Mul_one (n : Nat) (h : n ≤ 8192) (w : World) : Calls Tryz.prog 119 #[.int .u64 1, .int .u64 (n : Int)] w fun e w' => e = .returned (.tuple #[.int .u64 0, .int .u64 (n : Int)]) ∧ w = w' := by
 go_enter Tryz.func119, Tryz.ntmps119
 go_wp2_with (go_at_call 140; ((with_reducible refine (Mul64_one n h _).mono ?_); rintro e w' ⟨rfl, rfl⟩))
 go_ret2
 exact ⟨rfl, rfl⟩
theorem size_u8 : (Tryz.prog.info? TB).map (·.size) = some 1 := by kernel_rfl
def ff (k : Nat) : List Value := List.replicate k (.int .u8 255)
theorem ff_get {k j : Nat} {v : Value} (h : (ff k)[j]? = some v) : v = .int .u8 255 ∧ j < k := by
 unfold ff at h
 rw [List.getElem?_replicate] at h
 split at h
 ·exact ⟨(Option.some.inj h).symm, by assumption⟩
 ·cases h
theorem ff_one (k : Nat) : ∀ v ∈ ff k, v.oneCell' = true := by
 intro v hv
 rw [List.eq_of_mem_replicate hv]
 rfl
theorem splice_ff {cur : List Value} {k m : Nat} (hl : k + m ≤ cur.length) (h : cur.take k = ff k) : (splice cur k (ff m)).take (k + m) = ff (k + m) ∧ (splice cur k (ff m)).length = cur.length := by
 have hm : (ff m).length = m := by simp [ff]
 refine ⟨?_, length_splice _ _ _ (by rw [hm]; exact hl)⟩
 unfold splice
 rw [← List.append_assoc, List.take_append_of_le_length (by simp [hm]; omega), h, List.take_of_length_le (by simp [ff])]
 simp [ff]
theorem cells_ff {w : World} {g : Nat} {cur : List Value} {k : Nat} (hg : w.heap[g]? = some (.cells cur.toArray TB (0, 0))) (h : cur.take k = ff k) (m : Nat) (hm : m ≤ k) : ∀ j v, (ff m)[j]? = some v → w.cell? ((⟨g, 0, none⟩ : Addr).add j) = some v := by
 intro j v hv
 obtain ⟨rfl, hj⟩ := ff_get hv
 rw [Addr.add_lit, bcell hg]
 have h2 : (cur.take k)[j]? = some (.int .u8 255) := by rw [h, ff, List.getElem?_replicate, if_pos (by omega)]
 rw [List.getElem?_take, if_pos (by omega)] at h2
 simpa using h2
theorem blt_of_cell {w : World} {a : Addr} {v : Value} (h : w.cell? a = some v) : a.block < w.heap.size := World.block_lt_of_cell? w a h
attribute [local go_sem] min_two min2_int
set_option maxHeartbeats 1000000 in
set_option maxRecDepth 100000 in
theorem Repeat_any (b n : Nat) (w : World) (hb : w.cell? ⟨b, 0, none⟩ = some (.int .u8 255)) (h0 : 1 ≤ n) (h1 : n ≤ 8192) :
  Calls Tryz.prog 101 #[.slice (some ⟨b, 0, none⟩) 1 1, .int .i64 (n : Int)] w fun e w' => ∃ g cur, e = .returned (.slice (some ⟨g, 0, none⟩) n n) ∧ w.heap.size ≤ g ∧ w'.heap[g]? = some (.cells (cur : List Value).toArray TB (0, 0)) ∧ cur.take n = ff n ∧ n ≤ cur.length ∧ Below w.heap.size w w' := by
 obtain ⟨cs, hrunM, hle, hmax⟩ := Lib.run_makeNoZero (P := Tryz.prog) w #[3] 25 TB Tryz.underlying25 n (by omega)
 have hcall : (callFunc 120 #[.int .i64 (n : Int)]).run Tryz.prog w = .ok (.value (.slice (some ⟨w.heap.size, 0, none⟩) n cs.size)) ((w.alloc (.cells cs TB)).drewN 2) := by
  rw [run_callFunc_extern Tryz.func120 (by kernel_rfl) (by kernel_rfl) (by kernel_rfl) (e := Extern.BytealgMakeNoZero.makeNoZero #[3] #[25]) (by kernel_rfl), hrunM]
  rfl
 clear hrunM
 have i0 : (1 : Int) ≤ (n : Int) := by omega
 have i1 : (n : Int) ≤ 8192 := by omega
 have i2 : (n : Int) ≤ (cs.size : Int) := by omega
 have e1 : ((n : Int) == 0) = false := by simp; omega
 go_enter Tryz.func101, Tryz.ntmps101
 have hlt := blt_of_cell hb
 have HC0 : Hid ((((w.alloc (.cells cs TB)).drewN 2)).heap[w.heap.size]? = some (.cells cs.toList.toArray TB (0, 0))) := Lib.hid (by rw [Array.toArray_toList]; exact blk_new w _)
 have HS0 : Hid (∀ j v, (ff 1)[j]? = some v → ((w.alloc (.cells cs TB)).drewN 2).cell? ((⟨b, 0, none⟩ : Addr).add j) = some v) := Lib.hid (fun j v hv => by
  obtain ⟨rfl, hj⟩ := ff_get hv
  obtain rfl : j = 0 := by omega
  rw [Addr.add_lit]
  exact (World.cell?_alloc_lt w _ _ hlt).trans hb)
 have HB0 : Aside0 (Below w.heap.size w ((w.alloc (.cells cs TB)).drewN 2)) := Aside0.mk (pw_below_drewN (below_alloc (Below.refl _ _) _) 2)
 go_wp2_with (first | (go_at_call 119; ((with_reducible refine (Mul_one n h1 _).mono ?_); rintro e w' ⟨rfl, rfl⟩)) | ((with_reducible refine gate_builtin (b := .copy) rfl ?_); refine wpList_copy_splice rfl (.tmp 58) (.tmp 59) 25 25 rfl TB Tryz.underlying25 size_u8 _ _ _ _ _ _ rfl rfl w.heap.size 0 cs.toList TB HC0.out (ff 1) (by simp [ff, Nat.min_eq_left h0]) (fun _ => ⟨rfl, _, rfl, HS0.out⟩) (by simp [ff]; omega) (ff_one 1) w.heap.size w HB0.out (Nat.le_refl _) ?_; intro w2 hg2 hb2))
 clear HC0 HS0 HB0 hcall
 have hsp := splice_ff (cur := cs.toList) (k := 0) (m := 1) (by simp; omega) rfl
 have HB2 := Aside0.mk hb2
 have HG2 := Lib.hid (⟨_, hg2.out, hsp.1, by rw [hsp.2]; simpa using hle⟩ : ∃ cur, w2.heap[w.heap.size]? = some (.cells (cur : List Value).toArray TB (0, 0)) ∧ cur.take (0 + 1) = ff (0 + 1) ∧ n ≤ cur.length)
 clear hg2 hb2 hsp
 go_loopw [10, 11] (fun v10 v11 wr => ∃ k : Nat, v10 = .int .i64 (k : Int) ∧ 1 ≤ k ∧ k ≤ n ∧ (∃ cur, wr.heap[w.heap.size]? = some (.cells (cur : List Value).toArray TB (0, 0)) ∧ cur.take k = ff k ∧ n ≤ cur.length) ∧ Below w.heap.size w wr) (fun v10 _ _ => n - (intOf v10).toNat)
 case atStart => exact ⟨1, rfl, Nat.le_refl _, h0, HG2.out, HB2.out⟩
 case round =>
  obtain ⟨k, rfl, hk1, hk2, ⟨cur, hg, ht, hl⟩, hb3⟩ := hrel
  have HG := Lib.hid hg
  have HT := Lib.hid ht
  have HB3 := Aside0.mk hb3
  clear hg ht hb3
  have j0 : (1 : Int) ≤ (k : Int) := by omega
  have j1 : (k : Int) ≤ (n : Int) := by omega
  by_cases hlt : k < n
  ·have j2 : (k : Int) < (n : Int) := by omega
   have j3 : ¬ (n = k) := by omega
   have HD : Hid (∀ W : World, W.heap[w.heap.size]? = some (.cells cur.toArray TB (0, 0)) → ∀ j v, (ff (min k (n - k)))[j]? = some v → W.cell? ((⟨w.heap.size, 0, none⟩ : Addr).add j) = some v) := Lib.hid (fun W hW => cells_ff hW HT.out _ (Nat.min_le_left _ _))
   have hm : (ff (min k (n - k))).length = min k (n - k) := by simp [ff]
   have HM := Lib.hid hm
   obtain ⟨K2, hK2⟩ : ∃ K2, K2 = k + min k (n - k) := ⟨_, rfl⟩
   have hwr : IntKind.i64.wrap ((k : Int) + ((ff (min k (n - k))).length : Int)) = (K2 : Int) := by
    rw [hm, IntWalk.i64_in _ (by omega)]
    omega
   have HK2 := Lib.hid hK2
   clear hm hK2
   go_wp2
   go_region_law (refine step_copy_splice rfl (.tmp 70) (.tmp 73) 25 25 rfl TB Tryz.underlying25 size_u8 (some ⟨w.heap.size, k, none⟩) (some ⟨w.heap.size, 0, none⟩) (n - k) (n - k) k n (by simp [Act.eval, Act.put]) (by simp [Act.eval, Act.put]) w.heap.size k cur TB HG.out (ff (min k (n - k))) HM.out (fun _ => ⟨rfl, _, rfl, HD.out _ HG.out⟩) (by rw [HM.out]; omega) (ff_one _) w.heap.size w HB3.out.drew (Nat.le_refl _) ?_; intro w4 hg4 hb4)
   have hsp := splice_ff (cur := cur) (k := k) (m := min k (n - k)) (by omega) HT.out
   have HB4 := Aside0.mk hb4
   have HG4 := hg4
   clear hg4 hb4
   simp [Act.put, hwr]
   clear hwr
   go_wp2
   have hK2 := HK2.out
   go_roundw
   case rel => exact ⟨K2, rfl, by omega, by omega, ⟨_, HG4.out, by rw [hK2]; exact hsp.1, by rw [hsp.2]; exact hl⟩, HB4.out⟩
   case measure => simp [intOf]; omega
  ·obtain rfl : k = n := by omega
   go_wp2
   go_ret
   exact ⟨_, _, rfl, Nat.le_refl _, HG.out, HT.out, hl, HB3.out⟩
def full (n : Nat) (b : List Int) : List Int := b ++ List.replicate (n - b.length) 255
theorem splice_full {cur : List Value} {n : Nat} {b : List Int} (hl : n ≤ cur.length) (h : cur.take n = ff n) (hb : b.length ≤ n) :
  (splice cur 0 (b.map (Value.int .u8))).length = cur.length ∧ ∀ j x, (full n b)[j]? = some x → (splice cur 0 (b.map (Value.int .u8))).toArray[0 + j]? = some (.int .u8 x) := by
 refine ⟨length_splice _ _ _ (by simp; omega), fun j x hj => ?_⟩
 rw [Nat.zero_add]
 simp only [List.getElem?_toArray, splice, List.take_zero, List.nil_append, List.length_map, Nat.zero_add]
 unfold full at hj
 rcases Nat.lt_or_ge j b.length with hlt | hge
 ·rw [List.getElem?_append_left hlt] at hj
  rw [List.getElem?_append_left (by simpa using hlt), List.getElem?_map, hj]
  rfl
 ·rw [List.getElem?_append_right hge, List.getElem?_replicate] at hj
  split at hj
  ·rename_i h2
   rw [List.getElem?_append_right (by simpa using hge), List.getElem?_drop, List.length_map, show b.length + (j - b.length) = j by omega]
   have h3 : (cur.take n)[j]? = some (.int .u8 255) := by rw [h, ff, List.getElem?_replicate, if_pos (by omega)]
   rw [List.getElem?_take, if_pos (by omega)] at h3
   rw [h3]
   rw [← Option.some.inj hj]
  ·cases hj
theorem full_length {n : Nat} {b : List Int} (h : b.length ≤ n) : (full n b).length = n := by simp [full]; omega
theorem C_cells {w : World} {A : Option Addr} {l : List Int} (h : kB.C w A l.length l) (h0 : 0 < l.length) : ∃ ad, A = some ad ∧ ∀ j v, (l.map (Value.int .u8))[j]? = some v → w.cell? (ad.add j) = some v := by
 obtain ⟨ad, e, hc⟩ := (Kd.reads_of_C (d := (0 : Int)) h).2.2 h0
 refine ⟨ad, e, fun j v hj => ?_⟩
 rw [List.getElem?_map] at hj
 obtain ⟨x, hx, rfl⟩ := Option.map_eq_some_iff.1 hj
 have hl := (List.getElem?_eq_some_iff.1 hx).1
 have := hc j hl
 rwa [List.getD_eq_getElem?_getD, hx] at this
theorem u8_one (l : List Int) : ∀ v ∈ l.map (Value.int .u8), v.oneCell' = true := by
 intro v hv
 obtain ⟨x, _, rfl⟩ := List.mem_map.1 hv
 rfl
set_option maxHeartbeats 1000000 in
set_option maxRecDepth 100000 in
theorem filled_blk {w : World} {p : Nat} {s : Int × Int × Int} {c3 c4 : Value} (hs : ShapeOk s) (hp : w.heap[p]? = some (.cells #[.int .i64 s.1, .int .i64 s.2.1, .int .i64 s.2.2, c3, c4] TD (0, 0))) (A : Option Addr) (c : Nat) (b : List Int) (hb : kB.C w A b.length b) (hlen : b.length ≤ s.2.2.toNat) :
  Calls Tryz.prog 71 #[.pointer (some ⟨p, 0, none⟩), .slice A b.length c] w fun e w' => ∃ v, e = .returned v ∧ Row w' w.heap.size (fun k => w.heap.size ≤ k) v (full s.2.2.toNat b) ∧ Below w.heap.size w w' := by
 obtain ⟨s1, s2, s3⟩ := s
 have h1 := hs.c0; have h2 := hs.c1
 clear hs
 simp only at h1 h2 hlen hp
 obtain ⟨n, rfl⟩ := Int.eq_ofNat_of_zero_le (show (0 : Int) ≤ s3 by omega)
 simp only [Int.toNat_natCast] at hlen ⊢
 have hl := blt hp
 have hc2 : w.cell? ⟨p, 2, none⟩ = some (.int .i64 (n : Int)) := bcell hp 2
 have HC2 : (w.alloc (.cells #[.int .u8 255] TB)).cell? ⟨p, 2, none⟩ = some (.int .i64 (n : Int)) := (World.cell?_alloc_lt w _ _ hl).trans hc2
 have HB := Aside0.mk hb
 have HM : Hid ((b.map (Value.int .u8)).length = Nat.min b.length n) := Lib.hid (by rw [List.length_map]; exact (Nat.min_eq_left hlen).symm)
 have HA : Hid ((w.alloc (.cells #[.int .u8 255] TB)).cell? ⟨w.heap.size, 0, none⟩ = some (.int .u8 255)) := Lib.hid (by rw [bcell (blk_new w _)]; rfl)
 clear hp hb
 go_enter Tryz.func71, Tryz.ntmps71
 go_wp2_with (first | (go_at_call 101; (with_reducible refine (Repeat_any _ n _ HA.out (by omega) (by omega)).mono ?_); rintro e w1 ⟨g, cur, rfl, hg1, hg2, hg3, hg4, hb1⟩; have G1 : Hid (w.heap.size ≤ g) := Lib.hid (by simp at hg1; omega); have G2 := Lib.hid hg2; have G3 := Lib.hid hg3; have G4 := Lib.hid hg4; have HB1 : Aside0 (Below w.heap.size w w1) := Aside0.mk ((below_alloc (Below.refl _ _) _).trans (hb1.mono (by simp))); clear hg1 hg2 hg3 hg4 hb1; clear HC2 HA) | ((with_reducible refine gate_builtin (b := .copy) rfl ?_); refine wpList_copy_splice rfl (.tmp 13) (.tmp 14) 25 25 rfl TB Tryz.underlying25 size_u8 _ _ _ _ _ _ rfl rfl g 0 cur TB G2.out (b.map (Value.int .u8)) HM.out (fun h0 => ⟨rfl, C_cells (Kd.C_below HB.out HB1.out) (by simpa using h0)⟩) (by have := G4.out; simp; omega) (u8_one b) w.heap.size w HB1.out G1.out ?_; intro w2 hg2 hb2))
 have hb2' := Aside0.mk hb2
 clear hb2
 go_ret
 obtain ⟨h5, h6⟩ := splice_full G4.out G3.out hlen
 refine ⟨_, rfl, ⟨some ⟨g, 0, none⟩, n, ?_, ?_, ?_, .inr ⟨g, 0, _, rfl, G1.out, G1.out, hg2.out, h6⟩⟩, hb2'.out⟩
 ·rw [full_length hlen]; rfl
 ·rw [full_length hlen]; exact Nat.le_refl _
 ·rw [full_length hlen]; omega
end Go.Proofs.YtmbiebdcnadhkaaGreat.Fl
