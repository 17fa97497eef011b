/- What many adds and touches come to; a ring in a variable. -/
import Derived.Test.YtkbialmlddhclaaCkAwake
namespace Go.Proofs.Ytkbialmlddhclaa.Ck
open Go.RowKit Go.Proofs.YtkbialmlddhclaaW.PrintWords Go.Proofs.YtkbialmlddhclaaW.PrintMore
set_option linter.unusedSimpArgs false
set_option linter.unusedVariables false
def addAll (l : List Int) : RG := l.foldl addR newR
def touchAll (r : RG) (t : List Int) : RG := t.foldl touchR r
def someB (t l : List Int) : Bool := l.any (fun x => mayB x && !decide (x ∈ t))
theorem fold_take {α : Type} (f : α → Int → α) (a : α) {l : List Int} {k : Nat} {x : Int} (h : l[k]? = some x) : (l.take (k + 1)).foldl f a = f ((l.take k).foldl f a) x := by
  rw [List.take_add_one, h, List.foldl_append]
  rfl
theorem someB_take (t : List Int) {l : List Int} {k : Nat} {x : Int} (h : l[k]? = some x) : someB t (l.take (k + 1)) = (someB t (l.take k) || (mayB x && !decide (x ∈ t))) := by
  unfold someB
  rw [List.take_add_one, h, List.any_append]
  simp
theorem addR_ms (r : RG) (o : Int) : (addR r o).ms = r.ms := by unfold addR; split <;> rfl
theorem addR_len (r : RG) (o : Int) : (addR r o).row.length ≤ r.row.length + 1 := by unfold addR; split <;> simp
theorem addR_sub {r : RG} {o x : Int} (h : x ∈ r.row) : x ∈ (addR r o).row := by
  unfold addR
  split
  · simp [h]
  · exact h
theorem addR_mem {r : RG} {o : Int} (h : mayB o = true) : o ∈ (addR r o).row := by
  unfold addR
  split
  · simp
  · rename_i hc
    exact Classical.byContradiction (fun hn => hc ⟨h, hn⟩)
theorem addF_ok : ∀ (l : List Int) {r : RG}, RGok r → RGok (l.foldl addR r)
  | [], _, h => h
  | x :: l, r, h => addF_ok l (addR_ok h x)
theorem addF_ms : ∀ (l : List Int) (r : RG), (l.foldl addR r).ms = r.ms
  | [], _ => rfl
  | x :: l, r => (addF_ms l (addR r x)).trans (addR_ms r x)
theorem addF_len : ∀ (l : List Int) (r : RG), (l.foldl addR r).row.length ≤ r.row.length + l.length
  | [], _ => by simp
  | x :: l, r => by
    have := addF_len l (addR r x)
    have := addR_len r x
    simp only [List.foldl_cons, List.length_cons]
    omega
theorem addF_sub : ∀ (l : List Int) {r : RG} {x : Int}, x ∈ r.row → x ∈ (l.foldl addR r).row
  | [], _, _, h => h
  | y :: l, _, _, h => addF_sub l (addR_sub h)
theorem addF_mem : ∀ (l : List Int) {r : RG} {x : Int}, x ∈ l → mayB x = true → x ∈ (l.foldl addR r).row
  | y :: l, r, x, h, hm => by
    rcases List.mem_cons.1 h with rfl | h
    · exact addF_sub l (addR_mem hm)
    · exact addF_mem l h hm
theorem addAll_ok (l : List Int) : RGok (addAll l) := addF_ok l newR_ok
theorem addAll_mkd (l : List Int) {x : Int} (h0 : 0 ≤ x) : mkd (addAll l).ms x = false := by
  have e : (addAll l).ms = newR.ms := addF_ms l newR
  rw [e]
  exact newR_ok.out x h0 (by simp [newR])
theorem addAll_len (l : List Int) : (addAll l).row.length ≤ l.length := by
  have := addF_len l newR
  simpa [newR, addAll] using this
theorem touchR_row (r : RG) (o : Int) : (touchR r o).row = r.row := by unfold touchR; split <;> rfl
theorem touchF_row : ∀ (t : List Int) (r : RG), (touchAll r t).row = r.row
  | [], _ => rfl
  | x :: t, r => (touchF_row t (touchR r x)).trans (touchR_row r x)
theorem touchF_ok : ∀ (t : List Int) {r : RG}, RGok r → RGok (touchAll r t)
  | [], _, h => h
  | x :: t, r, h => touchF_ok t (touchR_ok h x)
theorem touchR_mkd {r : RG} (h : RGok r) {o x : Int} (hx : x ∈ r.row) : mkd (touchR r o).ms x = (mkd r.ms x || decide (x = o)) := by
  have h0 := h.rng x hx
  unfold touchR
  split
  · rename_i hc
    show mkd (r.ms.set o.toNat true) x = _
    rw [mkd_set h.m16 (h.rng o hc) h0.1]
    by_cases e : x = o
    · rw [if_pos e]; simp [e]
    · rw [if_neg e]; simp [e]
  · rename_i hc
    have : x ≠ o := fun e => hc (by rw [← e]; exact hx)
    simp [this]
theorem touchF_mkd : ∀ (t : List Int) {r : RG}, RGok r → ∀ {x : Int}, x ∈ r.row → mkd (touchAll r t).ms x = (mkd r.ms x || decide (x ∈ t))
  | [], r, h, x, hx => by simp [touchAll]
  | o :: t, r, h, x, hx => by
    have h1 := touchF_mkd t (touchR_ok h o) (x := x) (by rw [touchR_row]; exact hx)
    show mkd (touchAll (touchR r o) t).ms x = _
    rw [h1, touchR_mkd h hx]
    by_cases e : x = o <;> by_cases e2 : x ∈ t <;> simp [e, e2]
theorem isEmpty_false {l : List Int} (h : l ≠ []) : l.isEmpty = false := by
  cases l with
  | nil => exact absurd rfl h
  | cons a l => rfl
/-- Who is chosen, if somebody was never touched, was never touched. -/
theorem chance_in {l t : List Int} (hs : someB t l = true) : (addAll l).row ≠ [] ∧ vicW (touchAll (addAll l) t) ∉ t := by
  obtain ⟨x, hx, hc⟩ := List.any_eq_true.1 hs
  simp only [Bool.and_eq_true, Bool.not_eq_true', decide_eq_false_iff_not] at hc
  have hin : x ∈ (addAll l).row := addF_mem l hx hc.1
  have hne : (addAll l).row ≠ [] := fun he => by rw [he] at hin; cases hin
  have hne2 : (touchAll (addAll l) t).row ≠ [] := by rw [touchF_row]; exact hne
  have ho := touchF_ok t (addAll_ok l)
  have hv := victR_ok ho hne2
  refine ⟨hne, fun hm => ?_⟩
  unfold vicW at hm
  rw [if_neg hne2] at hm
  obtain ⟨q, hq⟩ := hv.head
  have hyr : (victR (touchAll (addAll l) t)).1 ∈ (addAll l).row := by
    have : (victR (touchAll (addAll l) t)).1 ∈ (victR (touchAll (addAll l) t)).2.row := by rw [hq]; simp
    have := (hv.mem _).1 this
    rwa [touchF_row] at this
  have h1 := hv.one ⟨x, by rw [touchF_row]; exact hin, by
    rw [touchF_mkd t (addAll_ok l) hin, addAll_mkd l (mayB_iff.1 hc.1).1]
    simp [hc.2]⟩
  rw [touchF_mkd t (addAll_ok l) hyr] at h1
  simp [hm] at h1
/-- A ring in a variable. -/
def VarR (X : World) (b : Nat) (r : RG) : Prop := ∃ v, X.heap[b]? = some (.cells (ringC v r.ms).toArray TR (0, 0)) ∧ RowV X v r.row ∧ r.ms.length = 16
section
variable {X Y : World} {b : Nat} {r r' : RG} {v : Value}
theorem VarR.below (h : VarR X b r) (hb : Below X.heap.size X Y) : VarR Y b r := by
  obtain ⟨v, h1, h2, h3⟩ := h
  exact ⟨v, (hb.block _ (blt h1)).trans h1, h2.below hb, h3⟩
theorem VarR.lt (h : VarR X b r) : b < X.heap.size := by
  obtain ⟨v, h1, _⟩ := h
  exact blt h1
theorem row_stored {old : Array Value} (hr : RowV X v r.row) (hold : X.heap[b]? = some (.cells old TR (0, 0))) (hu : Upd (fun k => k = b) X Y) : RowV Y v r.row :=
  hr.typed (fun k cs fr hk => hu.block k (blt hk) (fun e => by
    rw [e, hold] at hk
    injection hk with hk
    injection hk with _ hk _
    exact absurd hk (by decide)))
theorem VarR.stored {old : Array Value} (hr : RowV X v r.row) (h16 : r.ms.length = 16) (hold : X.heap[b]? = some (.cells old TR (0, 0))) (hY : Y.heap[b]? = some (.cells (ringC v r.ms).toArray TR (0, 0))) (hu : Upd (fun k => k = b) X Y) : VarR Y b r := ⟨v, hY, row_stored hr hold hu, h16⟩
/-- Another variable than the one that was stored into. -/
theorem VarR.other {b' : Nat} {old : Array Value} (h : VarR X b' r) (hne : b' ≠ b) (hold : X.heap[b]? = some (.cells old TR (0, 0))) (hu : Upd (fun k => k = b) X Y) : VarR Y b' r := by
  obtain ⟨v, h1, h2, h3⟩ := h
  exact ⟨v, (hu.block _ (blt h1) hne).trans h1, row_stored h2 hold hu, h3⟩
end
end Go.Proofs.Ytkbialmlddhclaa.Ck
