/- slices.Delete of one int: off the shelf. -/
import Derived.Test.YtkbialmlddhclaaCkTouch
import Derived.Shelf.Slices.Delete
namespace Go.Proofs.Ytkbialmlddhclaa.Ck
open Go.RowKit Go.Proofs.YtkbialmlddhclaaW.PrintWords Go.Proofs.YtkbialmlddhclaaW.PrintMore
set_option linter.unusedSimpArgs false
set_option linter.unusedVariables false
/-- The shelf's numbers, as they are here. -/
def delRen : Shelf.Ren := ⟨fun n => if n = 23 then 88 else n, fun n => if n = 3 then 3 else if n = 4 then 4 else if n = 22 then 44 else n, fun n => n⟩
theorem delLays : Lays2.n23 Try.prog delRen where
  mixed := by kernel_rfl
  f23 := by kernel_rfl
  t0 := by kernel_rfl
  a0 := fun w => by kernel_rfl
  z0 := fun w => by kernel_rfl
  v0 := fun w => by kernel_rfl
  t3 := by kernel_rfl
  a3 := fun w => by kernel_rfl
  z3 := fun w => by kernel_rfl
  v3 := fun w => by kernel_rfl
  t4 := by kernel_rfl
  a4 := fun w => by kernel_rfl
  z4 := fun w => by kernel_rfl
  v4 := fun w => by kernel_rfl
  t22 := by kernel_rfl
  a22 := fun w => by kernel_rfl
  z22 := fun w => by kernel_rfl
  v22 := fun w => by kernel_rfl
  i3 := by kernel_rfl
theorem cells_kI {w : World} {g off n : Nat} {l : List Int} (hn : l.length = n) (hm : n ≤ 9223372036854775807) (h : ∀ j, j < n → w.cell? ⟨g, off + j, none⟩ = some (.int .i64 (l.getD j 0))) : kI.C w (some ⟨g, off, none⟩) n l :=
  Kd.C_of_reads (d := (0 : Int)) ⟨hn, hm, fun _ => ⟨_, rfl, fun j hj => by rw [Addr.add_lit]; exact h j hj⟩⟩
theorem own_holds {w : World} {base : Nat} {ok : Nat → Prop} {v : Value} {l : List Int} (h : kI.R TI w base ok v l) (h0 : 0 < l.length) : ∃ g c, v = .slice (some ⟨g, 0, none⟩) l.length c ∧ base ≤ g ∧ l.length ≤ c ∧ c ≤ 9223372036854775807 ∧ Sort.Holds encI w g 0 l.toArray := by
  obtain ⟨A, c, hv, hc, hC⟩ := Kd.R_reads h
  obtain ⟨inner, ho⟩ := Kd.R_own h
  rcases ho.2 with ⟨h1, h2⟩ | ⟨g, cap, cur, rfl, hb, hg, hle, hmx, _, _⟩
  · omega
  · injection hv with e1 e2 e3
    subst e1 e3
    refine ⟨g, cap, rfl, hb, hle, hmx, fun j hj => ⟨?_, bfrozen hg _⟩⟩
    have hj2 : j < l.length := by simpa using hj
    obtain ⟨ad, e, hcell⟩ := kI_cell hC (List.getElem?_eq_getElem hj2)
    cases e
    rw [Addr.add_lit] at hcell
    rw [hcell]
    simp [hj2, encI]
/-- A row that stays where what is above a base stays. -/
def RowF (base : Nat) (w : World) (v : Value) (l : List Int) : Prop := ∀ X : World, (∀ k, base ≤ k → k < w.heap.size → X.heap[k]? = w.heap[k]?) → RowV X v l
theorem RowF.now {base : Nat} {w : World} {v : Value} {l : List Int} (h : RowF base w v l) : RowV w v l := h w (fun _ _ _ => rfl)
theorem own_typed' {w : World} {base g c i : Nat} {ok : Nat → Prop} {l : List Int} (h : kI.R TI w base ok (.slice (some ⟨g, 0, none⟩) l.length c) l) (hi : i < l.length) : ∃ cs fr, w.heap[g]? = some (.cells cs TI fr) := by
  obtain ⟨A, c', hv, _, _, h4⟩ := RowV.ofR h
  injection hv with e1 e2 e3
  exact h4 ⟨g, 0, none⟩ e1.symm (by omega)
theorem Delete_any {w : World} {base : Nat} {ok : Nat → Prop} {v : Value} {l : List Int} (h : kI.R TI w base ok v l) {i : Nat} (hi : i < l.length) : Calls Try.prog 88 #[v, .int .i64 (i : Int), .int .i64 ((i : Int) + 1)] w fun e w' => ∃ v', e = .returned v' ∧ RowF base w' v' (l.eraseIdx i) ∧ Upd (fun k => base ≤ k) w w' := by
  obtain ⟨g, c, rfl, hb, hc, hmx, hH⟩ := own_holds h (by omega)
  have h1 := Any.slices_Delete_int_arr delLays g 0 c i (i + 1) l.toArray w hH (by simpa using hc) hmx (by omega) (by rw [List.size_toArray]; omega)
  refine (show Calls Try.prog 88 #[.slice (some ⟨g, 0, none⟩) l.length c, .int .i64 (i : Int), .int .i64 ((i : Int) + 1)] w _ from h1).mono fun e w' ⟨he, q, hw⟩ => ?_
  have hl : (l.toArray.toList.take i ++ l.toArray.toList.drop (i + 1) ++ List.replicate (i + 1 - i) 0).toArray.size = l.toArray.size := by simp; omega
  have hH2 := Sort.holds_putRow encI (Sort.ahead w q) g 0 l.toArray _ (Sort.holds_ahead encI w q g 0 l.toArray hH) hl
  rw [← hw] at hH2
  have hlen : (l.eraseIdx i).length = l.length - 1 := List.length_eraseIdx_of_lt hi
  have hg : g < w'.heap.size := by
    have := World.block_lt_of_cell? w' _ (hH2 0 (by rw [hl, List.size_toArray]; omega)).1
    exact this
  refine ⟨_, he, fun X hX => ⟨some ⟨g, 0, none⟩, c, ?_, by omega, ?_, fun ad hA h0 => ?_⟩, ?_⟩
  · rw [hlen]
    simp
  · have hXc : ∀ j, X.cell? ⟨g, j, none⟩ = w'.cell? ⟨g, j, none⟩ := fun j => by simp only [World.cell?, hX g hb hg]
    refine cells_kI rfl (by rw [hlen]; have : maxLen = 9223372036854775807 := rfl; omega) (fun j hj => ?_)
    have hj2 : j < l.length - 1 := by omega
    rw [hXc, (hH2 j (by rw [hl, List.size_toArray]; omega)).1]
    simp only [encI]
    congr 1
    have e1 : l.eraseIdx i = l.take i ++ l.drop (i + 1) := List.eraseIdx_eq_take_drop_succ l i
    rw [getElem!_pos _ j (by rw [hl, List.size_toArray]; omega), List.getD_eq_getElem?_getD, e1]
    simp only [List.getElem_toArray]
    rw [List.getElem_append_left (by simp; omega), List.getElem?_eq_getElem (by simp; omega)]
    rfl
  · injection hA with hA
    rw [← hA, hX g hb hg]
    obtain ⟨cs, fr, hcs⟩ := own_typed' h hi
    rw [hw]
    simp only [Sort.putRow, Sort.mapBlock, Array.getElem?_modify, if_pos]
    rw [show (Sort.ahead w q).heap[g]? = w.heap[g]? from rfl, hcs]
    exact ⟨_, _, rfl⟩
  · rw [hw]
    refine ⟨rfl, rfl, rfl, by rw [Sort.size_putRow]; exact Nat.le_refl _, fun k _ hk => ?_⟩
    have hne : ¬ g = k := fun e => hk (by rw [← e]; exact hb)
    simp only [Sort.putRow, Sort.mapBlock, Array.getElem?_modify, if_neg hne]
    rfl
end Go.Proofs.Ytkbialmlddhclaa.Ck
