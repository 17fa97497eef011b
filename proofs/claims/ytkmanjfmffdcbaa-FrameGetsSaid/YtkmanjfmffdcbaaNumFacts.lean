/- Numbers laid as bytes, and read of them, as the printed functions do. -/
import Derived.Test.YtkmanjfmffdcbaaNumMath
import Derived.Test.YtkmanjfmffdcbaaQFramex2
import Derived.Test.YtkmanjfmffdcbaaQFramex11
namespace Go.Proofs.Ytkmanjfmffdcbaa.NumFacts
open Go.RowKit Go.Proofs.YtkmanjfmffdcbaaW.PrintWords Go.Proofs.YtkmanjfmffdcbaaW.PrintLast Go.Proofs.YtkmanjfmffdcbaaW.PrintMore Go.Proofs.Ytkmanjfmffdcbaa.QFrame Go.Proofs.Ytkmanjfmffdcbaa.NumMath

theorem shr8 (n i : Nat) (hi : i ≤ 7) : shr .u64 (n : Int) (8 * (i : Int)) = ((n / 256 ^ i : Nat) : Int) := by
  unfold shr
  have e : (8 * (i : Int)).toNat = 8 * i := by omega
  rw [e, show IntKind.u64.bits = 64 from rfl, Nat.min_eq_left (by omega), show (256 : Nat) = 2 ^ 8 from rfl, ← Nat.pow_mul]
  norm_cast
theorem put_loop (j : Nat) : ∀ (k n : Nat) (l : List Int), j ≤ 8 → l.length + j ≤ 1000010 → j < k → nums_Put.l0 k (n : Int) l ((j : Int) - 1) = some (l ++ bb n j) := by
  induction j with
  | zero =>
    intro k n l hj hl hk
    obtain ⟨k, rfl⟩ : ∃ m, k = m + 1 := ⟨k - 1, by omega⟩
    simp only [nums_Put.l0]
    rw [if_neg (by omega)]
    simp [bb]
  | succ j ih =>
    intro k n l hj hl hk
    obtain ⟨k, rfl⟩ : ∃ m, k = m + 1 := ⟨k - 1, by omega⟩
    simp only [nums_Put.l0]
    rw [if_pos (by omega), show ((j + 1 : Nat) : Int) - 1 = (j : Int) by omega, wr (a := 8 * (j : Int)) (by omega) (by omega), if_pos (by omega), if_pos (by omega), wr (a := (j : Int) - 1) (by omega) (by omega), shr8 n j (by omega), ih k n _ (by omega) (by simp; omega) (by omega), List.append_assoc]
    simp [bb]
theorem put_is (k n m : Nat) (l : List Int) (hm : m ≤ 8) (hl : l.length ≤ 1000000) (hk : 9 ≤ k) : nums_Put.f k l (n : Int) (m : Int) = some (l ++ bb n m) := by
  unfold nums_Put.f slices_Clone_byte_byte.f
  rw [if_pos (by omega), Option.bind_some]
  have e : mn (mx (m : Int) 0) 8 = (m : Int) := by unfold mn mx; split <;> split <;> omega
  rw [e]
  exact put_loop m k n l hm (by omega) (by omega)
theorem beOr_from (l : List Int) (hl : Byt l) : ∀ a : Nat, a < 256 ^ (8 - l.length) → l.length ≤ 8 → beOr l (a : Int) = ((beFrom a l : Nat) : Int) := by
  induction l with
  | nil => intro a _ _; rfl
  | cons x l ih =>
    intro a ha h8
    have hx := hl x (by simp)
    have hl' : Byt l := fun y hy => hl y (by simp [hy])
    simp only [List.length_cons] at ha h8
    have ha2 : a < 2 ^ 56 := Nat.lt_of_lt_of_le ha (by
      rw [show (2 : Nat) ^ 56 = 256 ^ 7 by decide]
      exact Nat.pow_le_pow_right (by decide) (by omega))
    obtain ⟨x, rfl⟩ := Int.eq_ofNat_of_zero_le hx.1
    show beOr l (Go.bits .or .u64 (IntKind.u64.wrap ((a : Int) * 256)) (IntKind.u64.wrap (x : Int))) = _
    rw [or_add a x ha2 (by omega)]
    have hstep : a * 256 + x < 256 ^ (8 - l.length) := by
      rw [show 8 - l.length = (8 - (l.length + 1)) + 1 by omega, Nat.pow_succ]
      omega
    exact ih hl' _ hstep (by omega)
theorem beOr_is (l : List Int) (hl : Byt l) (h8 : l.length ≤ 8) : beOr l 0 = ((be l : Nat) : Int) :=
  beOr_from l hl 0 (Nat.pow_pos (by decide)) h8
end Go.Proofs.Ytkmanjfmffdcbaa.NumFacts
