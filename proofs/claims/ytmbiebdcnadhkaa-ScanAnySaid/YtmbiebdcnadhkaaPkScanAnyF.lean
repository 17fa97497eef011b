/- The parts of this proof, one after the other (wip/tools/packfl.py). -/
import Derived.Test.YtmbiebdcnadhkaaPkScanAnyE
import Derived.Test.YtmbiebdcnadhkaaPkScanAnyD
import Derived.ProofKit
import Derived.Lib.SmallJoins
import Derived.Test.YtmbiebdcnadhkaaPkScanAnyV
/- The document's log: Put over any frame: walked. -/
namespace Go.Proofs.Ytmbiebdcnadhkaa.Fl
open Go.RowKit Go.Proofs.YtmbiebdcnadhkaaW.PrintWords Go.Proofs.YtmbiebdcnadhkaaW.PrintMore Go.Maps
set_option linter.unusedSimpArgs false
set_option linter.unusedVariables false
section
variable {N0 x r t cap : Nat} {rest : List Value} {s : Int × Int × Int} {G : (Nat → Prop) → List Pg → World → Prop} {K : Nat → Prop} {ps : List Pg} {g : LG} {w : World} {A : Option Addr} {c : Nat} {l : List Int} {kind need : Int}
end
end Go.Proofs.Ytmbiebdcnadhkaa.Fl

/- The document's log: Put with a turn: walked. -/
namespace Go.Proofs.Ytmbiebdcnadhkaa.Fl
open Go.RowKit Go.Proofs.YtmbiebdcnadhkaaW.PrintWords Go.Proofs.YtmbiebdcnadhkaaW.PrintMore Go.Maps
set_option linter.unusedSimpArgs false
set_option linter.unusedVariables false
section
variable {N0 x r t cap : Nat} {rest : List Value} {s : Int × Int × Int} {G : (Nat → Prop) → List Pg → World → Prop} {K : Nat → Prop} {ps : List Pg} {g : LG} {w : World} {A : Option Addr} {c : Nat} {l : List Int} {kind need : Int}
end
end Go.Proofs.Ytmbiebdcnadhkaa.Fl

/- The driver's log: Append and Move, over put: walked. -/
namespace Go.Proofs.Ytmbiebdcnadhkaa.Fl
open Go.RowKit Go.Proofs.YtmbiebdcnadhkaaW.PrintWords Go.Proofs.YtmbiebdcnadhkaaW.PrintMore Go.Maps
set_option linter.unusedSimpArgs false
set_option linter.unusedVariables false
section
variable {N0 p q : Nat} {F : (Nat → Prop) → PD → World → Prop} {K : Nat → Prop} {D D2 : PD} {g g2 : LG} {w : World} {v : Value} {kind er : Int} {at_ : Adr}
set_option maxHeartbeats 1000000 in
set_option maxRecDepth 100000 in
theorem LAppend_F (hF : DevFrame N0 p F) (hSt : ∀ D, Stays (fun K w => F K D w)) (h : F K D w) (hl : LogIs q p g w) (hq : K q)
    (hput : ∀ (K2 : Nat → Prop) (X : World), (∀ k, K k → K2 k) → F K2 D X → LogIs q p g X → Below w.heap.size w X → Calls Try.prog 101 #[.pointer (some ⟨q, 0, none⟩), .int .u8 kind, v, .int .i64 2] X (PutPost N0 q p F K2 X at_ er D2 g2)) :
    Calls Try.prog 64 #[.pointer (some ⟨q, 0, none⟩), .int .u8 kind, v] w (PutPost N0 q p F K w at_ er D2 g2) := by
  have hsz := hF.size h
  have hlt := fun k hk => hF.lt h k hk
  obtain ⟨W, hW⟩ : ∃ W, W = w.alloc (.cells #[.int .i64 0, .int .i64 0] TA) := ⟨_, rfl⟩
  have q6 : W.heap[w.heap.size]? = some (.cells #[.int .i64 0, .int .i64 0] TA (0, 0)) := by rw [hW]; exact blk_new _ _
  have wb : Below w.heap.size w W := by rw [hW]; exact below_alloc (Below.refl _ _) _
  have wsz : W.heap.size = w.heap.size + 1 := by rw [hW, size_alloc]
  have hpu := hput _ W (fun k hk => .inl hk) (hF.keep h wb) (hl.below wb) wb
  have HPU := Lib.hid hpu
  have HW := Lib.hid hW
  have Q6 := Lib.hid q6
  have WB := Aside0.mk wb
  have HLT := Lib.hid hlt
  clear hput hpu hW q6 wb hlt h hl
  go_enter Try.func64, Try.ntmps64
  go_wp2_with (first
    | (rw [← HW.out])
    | (go_at_call 101; (with_reducible refine HPU.out.mono ?_); rintro e w1 ⟨rfl, hf, hl, hb, hk⟩; have x6 := (hk w.heap.size ⟨.inr ⟨Nat.le_refl _, by omega⟩, (by have := HLT.out q hq; omega)⟩).trans Q6.out; have z0 : w1.cell? ⟨w.heap.size, 0, none⟩ = some (.int .i64 0) := bcell x6 0; have z1 : w1.cell? ⟨w.heap.size, 1, none⟩ = some (.int .i64 0) := bcell x6 1; have zf : ∀ j, w1.frozen? ⟨w.heap.size, j, none⟩ = false := (fun j => bfrozen x6 j); have X6 := Lib.hid x6; have HF1 := Aside0.mk hf; have HL1 := Aside0.mk hl; have HB1 := Aside0.mk hb; have HK1 := Lib.hid hk; clear hf hl hb hk x6)
    | fail)
  obtain ⟨w9, hw9⟩ : ∃ w9, w9 = (w1.setCell ⟨w.heap.size, 0, none⟩ (.int .i64 at_.1)).setCell ⟨w.heap.size, 1, none⟩ (.int .i64 at_.2) := ⟨_, rfl⟩
  rw [← hw9]
  obtain ⟨r8, hf9, hl9, hb9, hk9⟩ := put_end hF hSt HF1.out HL1.out hq HLT.out hsz (Nat.le_refl _) X6.out (.inr ⟨Nat.le_refl _, by omega⟩) (fun k hk => .inl hk) ((WB.out.mono hsz).trans HB1.out) (fun k hk => (HK1.out k ⟨.inl hk.1, hk.2⟩).trans (WB.out.block k (HLT.out k hk.1))) hw9
  have r0 := bcell r8 0
  have r1 := bcell r8 1
  exact bodyPost_ret (v := .tuple #[.agg #[.int .i64 at_.1, .int .i64 at_.2], .int .i64 er]) (by simp [results, Try.results64, go_sem, r0, r1]) rfl ⟨rfl, hf9, hl9, hb9, hk9⟩
end
end Go.Proofs.Ytmbiebdcnadhkaa.Fl

/- A slice of a log's deeds, its cells; Few: walked. No condition. -/
namespace Go.Proofs.Ytmbiebdcnadhkaa.Fl
open Go.RowKit Go.Proofs.YtmbiebdcnadhkaaW.PrintWords Go.Proofs.YtmbiebdcnadhkaaW.PrintMore Go.Maps
set_option linter.unusedSimpArgs false
set_option linter.unusedVariables false
end Go.Proofs.Ytmbiebdcnadhkaa.Fl

/- How arguments of a law are opened to values: small facts for the rows. -/
namespace Go.Proofs.Ytmbiebdcnadhkaa.Opens
open Go.ChangeShapes Go.WideShapes Go.ChangeAt Go.RowKit Go.Joins Go.Deep Go.Proofs.YtmbiebdcnadhkaaW.PrintWords
section
variable {H : Type} {enc : TypeId × Value → H} {P : Program} {w : World} {base : Nat} {spare : Nat → Bool} {held : Bool}
/-- A slice of whole numbers, laid in one cell. -/
theorem cell_ints {t e : TypeId} {k : IntKind} {fuel : Nat} {u : Value} {x : DataW H × List MemPlace} (ht : P.underlying t = some (.slice e)) (he : P.underlying e = some (.int k)) (hC : P.cellsOf e = 1)
    (h : DataW.trod enc P w base spare held fuel t [u] = some x) :
    ∃ (A : Option Addr) (c : Nat) (l : List Int), [u] = [Value.slice A l.length c] ∧ Kd.C (Kd.int k) w A l.length l ∧ l.length ≤ c ∧ l.length ≤ maxLen ∧ (∀ n ∈ l, (Lit.int k n).wf = true) := by
  rcases open_ints ht he hC h with ⟨hcs, _⟩ | ⟨a, len, cap, zs, hcs, _, hl, hm, hz, _, hcell, hwz⟩
  · refine ⟨none, 0, [], hcs, ?_, Nat.le_refl _, Nat.zero_le _, fun n hn => by cases hn⟩
    exact Kd.C_of_reads (d := (0 : Int)) (h1 := fun _ => rfl) ⟨rfl, by simp, fun h => absurd h (by simp)⟩
  · have hlz : len ≤ zs.length := by
      rw [hz]
      split
      · exact hl
      · exact Nat.le_refl _
    have e : (zs.take len).length = len := by rw [List.length_take]; omega
    refine ⟨some a, cap, zs.take len, by rw [e]; exact hcs, ?_, by omega, by rw [e]; omega, fun n hn => hwz n (List.mem_of_mem_take hn)⟩
    refine Kd.C_of_reads (d := (0 : Int)) (h1 := fun _ => rfl) ⟨rfl, by rw [e]; unfold maxLen at hm; omega, fun _ => ⟨a, rfl, fun j hj => ?_⟩⟩
    rw [e] at hj
    rw [hcell j (by omega)]
    simp [List.getD_eq_getElem?_getD, hj]

/-- An argument that is a slice of whole numbers. -/
theorem row_ints {t e : TypeId} {k : IntKind} {A : Option Addr} {len c : Nat} {d : DataW H} {p : List MemPlace} (ht : P.underlying t = some (.slice e)) (he : P.underlying e = some (.int k)) (hC : P.cellsOf e = 1)
    (h : DataW.Trod enc P w base spare held t (.slice A len c) d p) :
    ∃ l : List Int, len = l.length ∧ Kd.C (Kd.int k) w A l.length l ∧ l.length ≤ c ∧ l.length ≤ maxLen ∧ (∀ n ∈ l, (Lit.int k n).wf = true) := by
  obtain ⟨fuel, hf⟩ := h
  obtain ⟨A', c', l, hu, h1, h2, h3, h4⟩ := cell_ints (u := .slice A len c) ht he hC hf
  simp only [List.cons.injEq, Value.slice.injEq, and_true] at hu
  obtain ⟨rfl, rfl, rfl⟩ := hu
  exact ⟨l, rfl, h1, h2, h3, h4⟩
end
end Go.Proofs.Ytmbiebdcnadhkaa.Opens

