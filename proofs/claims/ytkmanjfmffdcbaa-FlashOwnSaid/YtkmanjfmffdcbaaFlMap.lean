/- The device's map, looked up, written, deleted from: the runs. No condition. -/
import Derived.Test.YtkmanjfmffdcbaaFlBase
namespace Go.Proofs.Ytkmanjfmffdcbaa.Fl
open Go.RowKit Go.Proofs.YtkmanjfmffdcbaaW.PrintWords Go.Maps
set_option linter.unusedSimpArgs false
theorem wf_i64 {a : Int} (h0 : 0 ≤ a) (h1 : a < 4096) : (Lit.int .i64 a).wf = true := by
  have h2 : IntKind.i64.min = -9223372036854775808 := by decide
  have h3 : IntKind.i64.max = 9223372036854775807 := by decide
  simp only [Lit.wf, h2, h3, Bool.and_eq_true, decide_eq_true_eq]
  omega
theorem keyOf_two {P : Program} {k i : TypeId} {fs : Array Field} (hk : P.keyType k = true) (hu : P.underlying k = some (.struct fs)) (h1 : fs.all (·.name != "_") = true) (h2 : fs.toList.map (fun f => (f.type, f.offset)) = [(i, 0), (i, 1)])
    (hi : P.underlying i = some (.int .i64)) (hc : P.cellsOf k = 2) (hci : P.cellsOf i = 1) (d : Nat) (hd : P.types.size = d + 1) {a : Adr} (h : InR a) : ∃ l, keyOf P k (kv a) = some l := by
  have w1 := wf_i64 h.a0 h.a1
  have w2 := wf_i64 h.b0 h.b1
  obtain ⟨f1, f2, hf⟩ : ∃ f1 f2, fs.toList = [f1, f2] := by
    match hl : fs.toList, h2 with
    | [f1, f2], _ => exact ⟨f1, f2, rfl⟩
    | [], h2 => simp at h2
    | [_], h2 => simp at h2
    | _ :: _ :: _ :: _, h2 => simp at h2
  rw [hf] at h2
  simp at h2
  obtain ⟨⟨e1, e2⟩, e3, e4⟩ := h2
  unfold keyOf kv
  rw [hu]
  simp [hk, Value.formed, hu, hc, Value.cells, hd, Program.keyLits, hf, e1, e2, e3, e4, hci, hi, w1, w2, List.mapM_cons, h1]
theorem size_pos : ∃ d, Try.prog.types.size = d + 1 := by
  cases h : Try.prog.types.size with
  | zero => exact absurd h (by have : (0 < Try.prog.types.size) := of_decide_eq_true (by kernel_rfl); omega)
  | succ d => exact ⟨d, rfl⟩
theorem keyOf_addr {a : Adr} (h : InR a) : ∃ l, keyOf Try.prog TA (kv a) = some l := by
  obtain ⟨d, hd⟩ := size_pos
  exact keyOf_two (by kernel_rfl) Try.underlying70 (by simp) (by rfl) Try.underlying3 (by kernel_rfl) (by kernel_rfl) d hd h
theorem kv_inj {a b : Adr} (h : kv a = kv b) : a = b := by
  obtain ⟨a1, a2⟩ := a
  obtain ⟨b1, b2⟩ := b
  simp only [kv, Value.agg.injEq] at h
  have := congrArg Array.toList h
  simp at this
  rw [this.1, this.2]
/-- What a list of pages has at an address. -/
def look (a : Adr) : List (Adr × List Int) → Option (List Int)
  | [] => none
  | q :: qs => if q.1 = a then some q.2 else look a qs
theorem ents_keys {N0 : Nat} {ok : Nat → Prop} {w : World} : ∀ {es : List MapEntry} {qs : List (Adr × List Int)}, Ents N0 ok w es qs → ∀ e ∈ es, ∃ l, keyOf Try.prog TA e.key = some l
  | [], [], _, _, he => by cases he
  | x :: es, q :: qs, ⟨⟨h1, h2, _⟩, h4⟩, e, he => by
    rcases List.mem_cons.1 he with rfl | he
    · rw [h1]; exact keyOf_addr h2
    · exact ents_keys h4 e he
  | [], _ :: _, h, _, _ => h.elim
  | _ :: _, [], h, _, _ => h.elim
theorem ents_none {N0 : Nat} {ok : Nat → Prop} {w : World} {a : Adr} : ∀ {es : List MapEntry} {qs : List (Adr × List Int)}, Ents N0 ok w es qs → (∀ e ∈ es, e.key ≠ kv a) → look a qs = none
  | [], [], _, _ => rfl
  | x :: es, q :: qs, ⟨⟨h1, _, _⟩, h4⟩, h => by
    unfold look
    rw [if_neg (fun e => h x (by simp) (by rw [h1, e]))]
    exact ents_none h4 (fun e he => h e (by simp [he]))
  | [], _ :: _, h, _ => h.elim
  | _ :: _, [], h, _ => h.elim
/-- No two entries have one key. -/
def Nodup (qs : List (Adr × List Int)) : Prop := qs.Pairwise (fun x y => x.1 ≠ y.1)
theorem look_mem {a : Adr} : ∀ {qs : List (Adr × List Int)} {b : List Int}, look a qs = some b → (a, b) ∈ qs
  | [], _, h => by cases h
  | q :: qs, b, h => by
    unfold look at h
    split at h
    · rename_i he
      cases h
      subst he
      simp
    · simp [look_mem h]
theorem look_of_mem {a : Adr} {b : List Int} : ∀ {qs : List (Adr × List Int)}, Nodup qs → (a, b) ∈ qs → look a qs = some b
  | [], _, h => by cases h
  | q :: qs, hn, h => by
    obtain ⟨h1, h2⟩ := List.pairwise_cons.1 hn
    unfold look
    rcases List.mem_cons.1 h with rfl | h
    · simp
    · rw [if_neg (fun e => h1 _ h (by rw [e]))]
      exact look_of_mem h2 h
theorem ents_at {N0 : Nat} {ok : Nat → Prop} {w : World} : ∀ {es : List MapEntry} {qs : List (Adr × List Int)}, Ents N0 ok w es qs → ∀ {j : Nat} {e : MapEntry}, es[j]? = some e → ∃ q, qs[j]? = some q ∧ e.key = kv q.1 ∧ InR q.1 ∧ Row w N0 ok e.val q.2
  | [], [], _, j, e, h => by simp at h
  | x :: es, q :: qs, ⟨h1, h4⟩, 0, e, h => by
    simp at h
    subst h
    exact ⟨q, rfl, h1⟩
  | x :: es, q :: qs, ⟨h1, h4⟩, j + 1, e, h => by
    rw [List.getElem?_cons_succ] at h ⊢
    exact ents_at h4 h
  | [], _ :: _, h, _, _, _ => h.elim
  | _ :: _, [], h, _, _, _ => h.elim
/-- The run of findKey. -/
theorem run_find {N0 : Nat} {ok : Nat → Prop} {w : World} {es : List MapEntry} {qs : List (Adr × List Int)} (h : Ents N0 ok w es qs) (hn : Nodup qs) {a : Adr} (ha : InR a) :
    ((Instr.findKey TA (kv a) es).run Try.prog w = .ok none w ∧ look a qs = none) ∨
    ∃ j e b, (Instr.findKey TA (kv a) es).run Try.prog w = .ok (some (j, e.val)) w ∧ es[j]? = some e ∧ e.key = kv a ∧ qs[j]? = some (a, b) ∧ look a qs = some b ∧ Row w N0 ok e.val b := by
  obtain ⟨l, hl⟩ := keyOf_addr ha
  rcases addr_law.find w hl es (ents_keys h) with ⟨h1, h2⟩ | ⟨j, e, h1, h2, h3⟩
  · exact .inl ⟨h1, ents_none h h2⟩
  · obtain ⟨q, hq, hk, hr, hR⟩ := ents_at h h2
    have : q.1 = a := kv_inj (by rw [← hk, h3])
    subst this
    refine .inr ⟨j, e, q.2, h1, h2, h3, hq, look_of_mem hn (List.mem_iff_getElem?.2 ⟨j, hq⟩), hR⟩
theorem run_check {w : World} {a : Adr} (ha : InR a) (em : Bool) : (Instr.checkKey em 10000 TA (kv a)).run Try.prog w = .ok () w := by
  obtain ⟨l, hl⟩ := keyOf_addr ha
  exact addr_law.check w em hl
theorem run_zero (w : World) : (zeroValue 22).run Try.prog w = .ok (.slice none 0 0) w := by kernel_rfl
/-- The value that a lookup hands back. -/
theorem run_look {N0 : Nat} {ok : Nat → Prop} {w : World} {m : Nat} {es : Array MapEntry} {ck : Nat} {qs : List (Adr × List Int)} (hm : w.heap[m]? = some (.map es ck)) (h : Ents N0 ok w es.toList qs) (hn : Nodup qs) {a : Adr} (ha : InR a) (cm : Bool) :
    ∃ v, (Instr.lookup TM (.map (some m)) (kv a) cm).run Try.prog w = .ok (if cm then .tuple #[v, .bool (look a qs).isSome] else v) w ∧ Row w N0 ok v ((look a qs).getD []) := by
  have hk := run_check (w := w) ha es.isEmpty
  rcases run_find h hn ha with ⟨hf, hl⟩ | ⟨j, e, b, hf, h1, h2, h3, hl, hR⟩
  · refine ⟨.slice none 0 0, ?_, ?_⟩
    · simp [Instr.lookup, run_underlying Try.underlying99, MapKept.run_getObj_map hm, hk, hf, run_zero, hl, Result.andThen]
    · rw [hl]; exact Row.nil _ _ _
  · refine ⟨e.val, ?_, ?_⟩
    · simp [Instr.lookup, run_underlying Try.underlying99, MapKept.run_getObj_map hm, hk, hf, hl, Result.andThen]
    · rw [hl]; exact hR
def put (a : Adr) (b : List Int) : List (Adr × List Int) → List (Adr × List Int)
  | [] => [(a, b)]
  | q :: qs => if q.1 = a then (a, b) :: qs else q :: put a b qs
def del (a : Adr) : List (Adr × List Int) → List (Adr × List Int)
  | [] => []
  | q :: qs => if q.1 = a then qs else q :: del a qs
theorem look_put (a c : Adr) (b : List Int) : ∀ qs, look c (put a b qs) = if c = a then some b else look c qs
  | [] => by
    unfold put look
    by_cases h : c = a
    · rw [if_pos h, if_pos h.symm]
    · rw [if_neg h, if_neg (fun e => h e.symm)]
      rfl
  | q :: qs => by
    unfold put
    by_cases h : q.1 = a
    · rw [if_pos h]
      unfold look
      by_cases h2 : c = a
      · rw [if_pos h2, if_pos h2.symm]
      · rw [if_neg h2, if_neg (fun e => h2 e.symm), if_neg (fun e => h2 (by rw [← h, e]))]
    · rw [if_neg h]
      unfold look
      by_cases h2 : q.1 = c
      · rw [if_pos h2, if_pos h2, if_neg (fun e => h (by rw [h2, e]))]
      · rw [if_neg h2, if_neg h2]
        exact look_put a c b qs
theorem put_keys {a : Adr} {b : List Int} {q : Adr × List Int} : ∀ {qs : List (Adr × List Int)}, q ∈ put a b qs → q = (a, b) ∨ q ∈ qs
  | [], h => by
    unfold put at h
    simp at h
    exact .inl h
  | p :: qs, h => by
    unfold put at h
    split at h
    · rcases List.mem_cons.1 h with h | h
      · exact .inl h
      · exact .inr (by simp [h])
    · rcases List.mem_cons.1 h with h | h
      · exact .inr (by simp [h])
      · rcases put_keys h with h | h
        · exact .inl h
        · exact .inr (by simp [h])
theorem nodup_put {a : Adr} {b : List Int} : ∀ {qs : List (Adr × List Int)}, Nodup qs → Nodup (put a b qs)
  | [], _ => by unfold put Nodup; simp
  | q :: qs, h => by
    obtain ⟨h1, h2⟩ := List.pairwise_cons.1 h
    unfold put
    split
    · rename_i he
      exact List.pairwise_cons.2 ⟨fun y hy => he ▸ h1 y hy, h2⟩
    · rename_i he
      refine List.pairwise_cons.2 ⟨fun y hy => ?_, nodup_put h2⟩
      rcases put_keys hy with rfl | hy
      · exact he
      · exact h1 y hy
theorem del_mem {a : Adr} {q : Adr × List Int} : ∀ {qs : List (Adr × List Int)}, q ∈ del a qs → q ∈ qs
  | [], h => h
  | p :: qs, h => by
    unfold del at h
    split at h
    · simp [h]
    · rcases List.mem_cons.1 h with h | h
      · simp [h]
      · simp [del_mem h]
theorem nodup_del {a : Adr} : ∀ {qs : List (Adr × List Int)}, Nodup qs → Nodup (del a qs)
  | [], h => h
  | q :: qs, h => by
    obtain ⟨h1, h2⟩ := List.pairwise_cons.1 h
    unfold del
    split
    · exact h2
    · exact List.pairwise_cons.2 ⟨fun y hy => h1 y (del_mem hy), nodup_del h2⟩
theorem look_none_of {c : Adr} : ∀ {qs : List (Adr × List Int)}, (∀ q ∈ qs, q.1 ≠ c) → look c qs = none
  | [], _ => rfl
  | q :: qs, h => by
    unfold look
    rw [if_neg (h q (by simp))]
    exact look_none_of (fun y hy => h y (by simp [hy]))
theorem look_del (a c : Adr) : ∀ {qs : List (Adr × List Int)}, Nodup qs → look c (del a qs) = if c = a then none else look c qs
  | [], _ => by unfold del look; simp
  | q :: qs, h => by
    obtain ⟨h1, h2⟩ := List.pairwise_cons.1 h
    unfold del
    by_cases he : q.1 = a
    · rw [if_pos he]
      by_cases hc : c = a
      · rw [if_pos hc]
        exact look_none_of (fun y hy => by rw [hc, ← he]; exact (h1 y hy).symm)
      · rw [if_neg hc]
        show _ = (if q.1 = c then some q.2 else look c qs)
        rw [if_neg (fun e => hc (by rw [← e, he]))]
    · rw [if_neg he]
      unfold look
      by_cases hc : q.1 = c
      · rw [if_pos hc, if_pos hc, if_neg (fun e => he (by rw [hc, e]))]
      · rw [if_neg hc, if_neg hc]
        exact look_del a c h2
theorem ents_push {N0 : Nat} {ok : Nat → Prop} {w : World} {e : MapEntry} {q : Adr × List Int} (he : e.key = kv q.1 ∧ InR q.1 ∧ Row w N0 ok e.val q.2) : ∀ {es : List MapEntry} {qs : List (Adr × List Int)}, Ents N0 ok w es qs → Ents N0 ok w (es ++ [e]) (qs ++ [q])
  | [], [], _ => ⟨he, trivial⟩
  | _ :: _, _ :: _, ⟨h1, h4⟩ => ⟨h1, ents_push he h4⟩
  | [], _ :: _, h => h.elim
  | _ :: _, [], h => h.elim
theorem put_new {a : Adr} {b : List Int} : ∀ {qs : List (Adr × List Int)}, look a qs = none → put a b qs = qs ++ [(a, b)]
  | [], _ => rfl
  | q :: qs, h => by
    unfold look at h
    split at h
    · cases h
    · rename_i he
      unfold put
      rw [if_neg he, put_new h]
      rfl
theorem ents_set {N0 : Nat} {ok : Nat → Prop} {w : World} {e : MapEntry} {a : Adr} {b b0 : List Int} (he : e.key = kv a ∧ InR a ∧ Row w N0 ok e.val b) : ∀ {es : List MapEntry} {qs : List (Adr × List Int)}, Ents N0 ok w es qs → Nodup qs → ∀ {j : Nat}, qs[j]? = some (a, b0) → Ents N0 ok w (es.set j e) (put a b qs)
  | [], [], _, _, j, h => by simp at h
  | x :: es, q :: qs, ⟨_, h4⟩, _, 0, h => by
    simp at h
    subst h
    unfold put
    rw [if_pos rfl]
    exact ⟨he, h4⟩
  | x :: es, q :: qs, ⟨h1, h4⟩, hn, j + 1, h => by
    rw [List.getElem?_cons_succ] at h
    obtain ⟨n1, n2⟩ := List.pairwise_cons.1 hn
    unfold put
    rw [if_neg (n1 _ (List.mem_of_getElem? h))]
    exact ⟨h1, ents_set he h4 n2 h⟩
  | [], _ :: _, h, _, _, _ => h.elim
  | _ :: _, [], h, _, _, _ => h.elim
theorem ents_erase {N0 : Nat} {ok : Nat → Prop} {w : World} {a : Adr} {b0 : List Int} : ∀ {es : List MapEntry} {qs : List (Adr × List Int)}, Ents N0 ok w es qs → Nodup qs → ∀ {j : Nat}, qs[j]? = some (a, b0) → Ents N0 ok w (es.eraseIdx j) (del a qs)
  | [], [], _, _, j, h => by simp at h
  | x :: es, q :: qs, ⟨_, h4⟩, _, 0, h => by
    simp at h
    subst h
    unfold del
    rw [if_pos rfl]
    exact h4
  | x :: es, q :: qs, ⟨h1, h4⟩, hn, j + 1, h => by
    rw [List.getElem?_cons_succ] at h
    obtain ⟨n1, n2⟩ := List.pairwise_cons.1 hn
    unfold del
    rw [if_neg (n1 _ (List.mem_of_getElem? h))]
    exact ⟨h1, ents_erase h4 n2 h⟩
  | [], _ :: _, h, _, _, _ => h.elim
  | _ :: _, [], h, _, _, _ => h.elim
theorem del_none {a : Adr} : ∀ {qs : List (Adr × List Int)}, look a qs = none → del a qs = qs
  | [], _ => rfl
  | q :: qs, h => by
    unfold look at h
    split at h
    · cases h
    · rename_i he
      unfold del
      rw [if_neg he, del_none h]
/-- The map's block is another one; nothing else has turned. -/
def putMap (w : World) (m : Nat) (es : Array MapEntry) (ck : Nat) : World := ChangeMaps.setBlock w m (.map es ck)
theorem putMap_same {w : World} {m : Nat} {o : Obj} (h : w.heap[m]? = some o) (es : Array MapEntry) (ck : Nat) : (putMap w m es ck).heap[m]? = some (.map es ck) := by
  have := blt h
  simp [putMap, ChangeMaps.setBlock, this]
theorem putMap_other (w : World) {m k : Nat} (hk : k ≠ m) (es : Array MapEntry) (ck : Nat) : (putMap w m es ck).heap[k]? = w.heap[k]? := by
  simp [putMap, ChangeMaps.setBlock, Array.getElem?_setIfInBounds, Ne.symm hk]
theorem putMap_upd {S : Nat → Prop} (w : World) {m : Nat} (hm : S m) (es : Array MapEntry) (ck : Nat) : Upd S w (putMap w m es ck) :=
  ⟨rfl, rfl, rfl, by simp [putMap, ChangeMaps.setBlock], fun k _ hn => putMap_other w (fun e => hn (by rw [e]; exact hm)) es ck⟩
theorem putMap_size (w : World) (m : Nat) (es : Array MapEntry) (ck : Nat) : (putMap w m es ck).heap.size = w.heap.size := by simp [putMap, ChangeMaps.setBlock]
theorem R_putMap {w : World} {m N0 e : Nat} {ok : Nat → Prop} {α : Type} {d : Kd α} {v : Value} {xs : List α} (hm : ∃ es ck, w.heap[m]? = some (.map es ck)) (h : d.R e w N0 ok v xs) (es : Array MapEntry) (ck : Nat) : d.R e (putMap w m es ck) N0 ok v xs := by
  obtain ⟨es0, ck0, hm⟩ := hm
  refine Kd.R_mono (Kd.R_move (Kd.R_bound h) (fun k hk => putMap_other w ?_ es ck)) (fun _ hk => hk.1)
  rintro rfl
  obtain ⟨_, _, _, q, _, cs, hc⟩ := hk
  rw [hc] at hm
  cases hm
theorem Row_putMap {w : World} {m N0 : Nat} {ok : Nat → Prop} {v : Value} {xs : List Int} (hm : ∃ es ck, w.heap[m]? = some (.map es ck)) (h : Row w N0 ok v xs) (es : Array MapEntry) (ck : Nat) : Row (putMap w m es ck) N0 ok v xs := by
  obtain ⟨es0, ck0, hm⟩ := hm
  refine Row.mono (Row.move (Row.bound h) (fun k hk => putMap_other w ?_ es ck)) (fun _ hk => hk.1)
  rintro rfl
  obtain ⟨_, _, _, q, _, cs, hc⟩ := hk
  rw [hc] at hm
  cases hm
theorem run_update {N0 : Nat} {ok : Nat → Prop} {w : World} {m : Nat} {es : Array MapEntry} {ck : Nat} {qs : List (Adr × List Int)} (hm : w.heap[m]? = some (.map es ck)) (h : Ents N0 ok w es.toList qs) (hn : Nodup qs) {a : Adr} (ha : InR a)
    {v : Value} {b : List Int} (hv : Row w N0 ok v b) :
    ∃ es' ck', (Instr.mapUpdate TM (.map (some m)) (kv a) v).run Try.prog w = .ok () (putMap w m es' ck') ∧ Ents N0 ok (putMap w m es' ck') es'.toList (put a b qs) := by
  have hk := run_check (w := w) ha false
  obtain ⟨l, hl⟩ := keyOf_addr ha
  rcases run_find h hn ha with ⟨hf, hl⟩ | ⟨j, e, b0, hf, h1, h2, h3, _, hR⟩
  · refine ⟨es.push ⟨kv a, v, ck⟩, ck + 1, ?_, ?_⟩
    · simp [Instr.mapUpdate, run_underlying Try.underlying99, MapKept.run_getObj_map hm, hk, hf, MapKept.run_setObj_map _ hm, Result.andThen, putMap, ChangeMaps.setBlock]
    · rw [put_new hl, Array.toList_push]
      exact Ents.imp (fun _ _ hr => Row_putMap ⟨_, _, hm⟩ hr _ _) (ents_push ⟨rfl, ha, hv⟩ h)
  · have hj : es[j]? = some e := by simpa using h1
    have hst := addr_law.stays w hl
    refine ⟨es.modify j (fun e' => { e' with key := kv a, val := v }), ck, ?_, ?_⟩
    · simp [Instr.mapUpdate, run_underlying Try.underlying99, MapKept.run_getObj_map hm, hk, hf, hj, h2, hst, MapKept.run_setObj_map _ hm, Result.andThen, putMap, ChangeMaps.setBlock]
    · have hlist : (es.modify j (fun e' => { e' with key := kv a, val := v })).toList = es.toList.set j { e with key := kv a, val := v } := by rw [Array.toList_modify, ChangeMaps.modify_eq_set _ _ _ _ h1]
      rw [hlist]
      exact Ents.imp (fun _ _ hr => Row_putMap ⟨_, _, hm⟩ hr _ _) (ents_set ⟨rfl, ha, hv⟩ h hn h3)
theorem run_delete {N0 : Nat} {ok : Nat → Prop} {w : World} {m : Nat} {es : Array MapEntry} {ck : Nat} {qs : List (Adr × List Int)} (hm : w.heap[m]? = some (.map es ck)) (h : Ents N0 ok w es.toList qs) (hn : Nodup qs) {a : Adr} (ha : InR a) (ty : TypeId) :
    ∃ es' ck', (Builtin.delete_ #[TM, TA] ty #[.map (some m), kv a]).run Try.prog w = .ok (.tuple #[]) (putMap w m es' ck') ∧ Ents N0 ok (putMap w m es' ck') es'.toList (del a qs) := by
  have hk := run_check (w := w) ha es.isEmpty
  rcases run_find h hn ha with ⟨hf, hl⟩ | ⟨j, e, b0, hf, h1, h2, h3, _, hR⟩
  · refine ⟨es, ck, ?_, ?_⟩
    · simp [Builtin.delete_, run_underlying Try.underlying99, MapKept.run_getObj_map hm, hk, hf, MapKept.run_setObj_map _ hm, Result.andThen, putMap, ChangeMaps.setBlock]
    · rw [del_none hl]
      exact Ents.imp (fun _ _ hr => Row_putMap ⟨_, _, hm⟩ hr _ _) h
  · refine ⟨es.eraseIdxIfInBounds j, ck, ?_, ?_⟩
    · simp [Builtin.delete_, run_underlying Try.underlying99, MapKept.run_getObj_map hm, hk, hf, MapKept.run_setObj_map _ hm, Result.andThen, putMap, ChangeMaps.setBlock]
    · rw [Array.toList_eraseIdxIfInBounds]
      exact Ents.imp (fun _ _ hr => Row_putMap ⟨_, _, hm⟩ hr _ _) (ents_erase h hn h3)
end Go.Proofs.Ytkmanjfmffdcbaa.Fl
