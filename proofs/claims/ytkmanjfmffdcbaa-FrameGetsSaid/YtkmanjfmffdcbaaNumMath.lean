/- Numbers as bytes, the highest first: plain arithmetic. -/
import Derived.Laws.BitsLemmas
import Derived.Tactics
import Derived.IntWalk
namespace Go.Proofs.Ytkmanjfmffdcbaa.NumMath
open Go.RowKit
/-- Bytes: each is from 0 to 255. -/
def Byt (l : List Int) : Prop := ∀ x ∈ l, 0 ≤ x ∧ x ≤ 255
theorem Byt.take {l : List Int} (h : Byt l) (k : Nat) : Byt (l.take k) := fun x hx => h x (List.mem_of_mem_take hx)
theorem Byt.drop {l : List Int} (h : Byt l) (k : Nat) : Byt (l.drop k) := fun x hx => h x (List.mem_of_mem_drop hx)
theorem Byt.app {l m : List Int} (h : Byt l) (h' : Byt m) : Byt (l ++ m) := by
  intro x hx
  rcases List.mem_append.1 hx with h1 | h1
  · exact h x h1
  · exact h' x h1
/-- So many bytes of a number. -/
def bb (n : Nat) : Nat → List Int
  | 0 => []
  | m + 1 => ((n / 256 ^ m % 256 : Nat) : Int) :: bb n m
theorem bb_len (n m : Nat) : (bb n m).length = m := by
  induction m with
  | zero => rfl
  | succ m ih => simp [bb, ih]
theorem bb_byt (n m : Nat) : Byt (bb n m) := by
  induction m with
  | zero => intro x hx; cases hx
  | succ m ih =>
    intro x hx
    rcases List.mem_cons.1 hx with h | h
    · subst h; omega
    · exact ih x h
/-- Bytes as a number. -/
def beFrom (a : Nat) (l : List Int) : Nat := l.foldl (fun a x => a * 256 + x.toNat) a
def be (l : List Int) : Nat := beFrom 0 l
theorem be_bb_from (n m : Nat) : ∀ a, beFrom a (bb n m) = a * 256 ^ m + n % 256 ^ m := by
  induction m with
  | zero => intro a; simp [beFrom, bb, Nat.mod_one]
  | succ m ih =>
    intro a
    show beFrom (a * 256 + ((n / 256 ^ m % 256 : Nat) : Int).toNat) (bb n m) = _
    have hm : n % (256 ^ m * 256) = n % 256 ^ m + 256 ^ m * (n / 256 ^ m % 256) := Nat.mod_mul
    rw [ih, Int.toNat_natCast, Nat.add_mul, Nat.pow_succ, hm, Nat.mul_assoc, Nat.mul_comm 256 (256 ^ m), Nat.mul_comm (256 ^ m) (n / 256 ^ m % 256)]
    omega
theorem be_bb (n m : Nat) (h : n < 256 ^ m) : be (bb n m) = n := by
  unfold be
  rw [be_bb_from, Nat.mod_eq_of_lt h, Nat.zero_mul, Nat.zero_add]
theorem be_lt_from (l : List Int) (hl : Byt l) : ∀ a, beFrom a l < (a + 1) * 256 ^ l.length := by
  induction l with
  | nil => intro a; simp [beFrom]
  | cons x l ih =>
    intro a
    have hx := hl x (by simp)
    have h := ih (fun y hy => hl y (by simp [hy])) (a * 256 + x.toNat)
    show beFrom (a * 256 + x.toNat) l < _
    refine Nat.lt_of_lt_of_le h ?_
    rw [List.length_cons, Nat.pow_succ, Nat.mul_comm (256 ^ l.length) 256, ← Nat.mul_assoc]
    exact Nat.mul_le_mul_right _ (by omega)
theorem be_lt (l : List Int) (hl : Byt l) : be l < 256 ^ l.length := by
  have := be_lt_from l hl 0
  simpa [be] using this
theorem bb_be (l : List Int) (hl : Byt l) : bb (be l) l.length = l := by
  have key : ∀ (l : List Int), Byt l → ∀ a, bb (beFrom a l) l.length = l := by
    intro l
    induction l with
    | nil => intro _ a; rfl
    | cons x l ih =>
      intro hl a
      have hx := hl x (by simp)
      have hl' : Byt l := fun y hy => hl y (by simp [hy])
      show ((beFrom (a * 256 + x.toNat) l / 256 ^ l.length % 256 : Nat) : Int) :: bb (beFrom (a * 256 + x.toNat) l) l.length = x :: l
      rw [ih hl' (a * 256 + x.toNat)]
      congr 1
      have h1 : ∀ (l : List Int), Byt l → ∀ a, beFrom a l = a * 256 ^ l.length + be l := by
        intro l
        induction l with
        | nil => intro _ a; simp [beFrom, be]
        | cons y l ih2 =>
          intro hl a
          have hl' : Byt l := fun z hz => hl z (by simp [hz])
          show beFrom (a * 256 + y.toNat) l = a * 256 ^ (l.length + 1) + beFrom (0 * 256 + y.toNat) l
          rw [ih2 hl' (a * 256 + y.toNat), ih2 hl' (0 * 256 + y.toNat), Nat.pow_succ, Nat.add_mul, Nat.zero_mul, Nat.zero_add, Nat.mul_assoc, Nat.mul_comm 256]
          omega
      rw [h1 l hl' (a * 256 + x.toNat), Nat.mul_comm, Nat.mul_add_div (Nat.pow_pos (by decide)), Nat.div_eq_of_lt (be_lt l hl')]
      omega
  exact key l hl 0
theorem u64_wrap (n : Int) (h0 : 0 ≤ n) (h1 : n < 18446744073709551616) : IntKind.u64.wrap n = n := by
  simp [IntKind.wrap, IntKind.bits, IntKind.signed]
  omega
theorem wraps_u64 (n : Int) (h₀ : 0 ≤ n) (h₁ : n < 2 ^ 64) : IntKind.u64.wrap n = n := u64_wrap n h₀ (by omega)
theorem or_add (n x : Nat) (hn : n < 2 ^ 56) (hx : x < 256) : Go.bits .or .u64 (IntKind.u64.wrap ((n : Int) * 256)) (IntKind.u64.wrap (x : Int)) = ((n * 256 + x : Nat) : Int) := by
  rw [u64_wrap _ (by omega) (by omega), u64_wrap _ (by omega) (by omega), show ((n : Int) * 256) = ((n * 256 : Nat) : Int) by omega]
  rw [(bits_nat .u64 64 (by decide) wraps_u64 (n * 256) x (by omega) (by omega)).2]
  congr 1
  have := Nat.two_pow_add_eq_or_of_lt (i := 8) (b := x) (by omega) n
  rw [Nat.mul_comm n 256]
  exact this.symm
theorem wr {a : Int} (h1 : -9223372036854775808 ≤ a) (h2 : a ≤ 9223372036854775807) : wrap64 a = a := by unfold wrap64; omega
end Go.Proofs.Ytkmanjfmffdcbaa.NumMath
