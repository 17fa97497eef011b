/- A sitter put behind a row that is cut to its length: a new row. -/
import Derived.Test.YtkbialmlddhclaaCkInts2
namespace Go.Proofs.Ytkbialmlddhclaa.Ck
open Go.RowKit Go.Proofs.YtkbialmlddhclaaW.PrintWords Go.Proofs.YtkbialmlddhclaaW.PrintMore
set_option linter.unusedSimpArgs false
set_option linter.unusedVariables false
set_option maxRecDepth 100000 in
theorem grow_sit {X : World} {base n c b : Nat} {A : Option Addr} {x : List Sit} {so : Int} {ty : TypeId} (hr : SRow X base (.slice A n c) x) (hn : n = x.length) (hb : X.heap[b]? = some (.cells #[.int .i64 so, .bool false] TS (0, 0))) (hl : n ≤ 1000) :
    ∃ v' Y, (Builtin.append_ #[72, 72] ty #[.slice A n n, .slice (some ⟨b, 0, none⟩) 1 1]).run Try.prog X = .ok v' Y ∧ SRow Y X.heap.size v' (x ++ [(so, false)]) ∧ Below X.heap.size X Y := by
  obtain ⟨i0, hi, hz0, hz1, hz2⟩ := info_parts info_sit
  have hmx : maxLen = 9223372036854775807 := rfl
  have hs : Src Try.prog i0.size 72 (.slice (some ⟨b, 0, none⟩) 1 1) 1 (flatS [(so, false)]) X := by
    rw [hz1]
    refine Src.ofSlice X Try.underlying72 _ 1 1 _ rfl (fun j u hj => ?_) (fun u hu => ?_)
    · exact sit_cells hb j u hj
    · exact flatS_one _ u hu
  have hold : (Builtin.firstCells i0.size n (.slice A n n)).run Try.prog X.drew = .ok (flatS x).toArray X.drew := by
    rw [hz1]
    obtain ⟨A', c', hv, _, _, hc⟩ := hr.cels
    injection hv with e1 e2 e3
    subst e1
    cases A with
    | none =>
      have h0 : x = [] := by
        by_cases h : 0 < x.length
        · obtain ⟨g, cur, hA, _⟩ := hc h
          cases hA
        · exact List.eq_nil_of_length_eq_zero (by omega)
      rw [h0]
      exact run_firstCells_none _ _ _ _ _
    | some ad =>
      refine run_firstCells_some X.drew 2 n ad n n _ (by rw [flatS_length, hn]) (fun j u hj => ?_)
      have hl2 := (List.getElem?_eq_some_iff.1 hj).1
      rw [flatS_length] at hl2
      obtain ⟨g, cur, hA, _, hg, hcell⟩ := hc (by omega)
      injection hA with hA
      rw [hA, Addr.add_lit, Nat.zero_add]
      show X.cell? _ = _
      rw [bcell hg]
      exact hcell j u hj
  have hrun := run_append_grow_src (P := Try.prog) X 72 72 ty TS i0 _ Try.underlying72 hi hz0 A n n _ hold _ 1 _ hs (by omega) (by omega) (by rw [hz2]; exact growslice_fits (by omega) (by omega))
  have hge := grownCap_ge X (n + 1) n TS
  have hcm := grownCap_le_maxLen X (n + 1) n TS (by omega)
  refine ⟨_, _, hrun, ⟨by rw [flatS_length], .inr ⟨X.heap.size, _, _, by rw [List.length_append, ← hn]; rfl, Nat.le_refl _, blk_new X.drew _, by rw [List.length_append, ← hn]; exact hge, hcm, ?_, ?_⟩⟩, below_alloc (Below.refl _ X).drew _⟩
  · rw [Array.size_append, List.size_toArray, size_zeroCells, List.length_append, flatS_length]
    simp [Value.cells, flatS]
    omega
  · rw [List.length_append, Array.toList_append, List.take_append_of_le_length (by simp [flatS_length]; omega), flatS_append]
    rw [List.take_of_length_le (by simp [flatS_length]; omega)]
theorem st_grow {ops : Array Oper} {o : Oper} {a : Act} {X : World} {Q : Exit → Act → World → Prop} {K : Act → World → Prop} (hw : Region.wanted o (yielded ops a.tmps) = true) {s xo : Operand} (ho : o.op = .call { callee := .builtin .append, args := #[s, xo], argTypes := #[72, 72] })
    {base n c b : Nat} {A : Option Addr} {x : List Sit} {so : Int} (hr : SRow X base (.slice A n c) x) (hn : n = x.length) (hv : a.eval s = .slice A n n) (hx : a.eval xo = .slice (some ⟨b, 0, none⟩) 1 1) (hb : X.heap[b]? = some (.cells #[.int .i64 so, .bool false] TS (0, 0))) (hl : n ≤ 1000)
    (h : ∀ v' Y, SRow Y X.heap.size v' (x ++ [(so, false)]) → Below X.heap.size X Y → K (a.put o.dst v') Y) : if Region.wanted o (yielded ops a.tmps) = true then Oper.wp Try.prog o a X K Q else K (a.put o.dst undef) X := by
  rw [if_pos hw]
  obtain ⟨v', Y, hrun, h1, h2⟩ := grow_sit (ty := o.type) hr hn hb hl
  unfold Oper.wp
  simp [execOp, ho, resolve, invoke, builtin, hv, hx, hrun, Result.andThen]
  exact h v' Y h1 h2
end Go.Proofs.Ytkbialmlddhclaa.Ck
