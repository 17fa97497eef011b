/- The sum of bytes, as plain arithmetic: a round, a byte, many bytes; the document's order of rounds is the same; another byte gives another sum. -/
import Derived.Laws.BitsLemmas
import Derived.Tactics
namespace Go.Proofs.Ytkmanjfmffdcbaa.CrcMath

def poly : Nat := 3988292384
/-- One round. -/
def step (c : Nat) : Nat := if c % 2 = 1 then (c / 2) ^^^ poly else c / 2
def steps : Nat → Nat → Nat
  | 0, c => c
  | n + 1, c => steps n (step c)
/-- A byte. -/
def next (c b : Nat) : Nat := steps 8 (c ^^^ b)
def many (c : Nat) (l : List Nat) : Nat := l.foldl next c
/-- The document's way: the byte's bits go in one by one. -/
def refs : Nat → Nat → Nat → Nat
  | 0, c, _ => c
  | n + 1, c, b => refs n (step (c ^^^ (b % 2))) (b / 2)

theorem poly_lt : poly < 2 ^ 32 := by decide
theorem step_lt {c : Nat} (h : c < 2 ^ 32) : step c < 2 ^ 32 := by
  unfold step
  split
  · exact Nat.xor_lt_two_pow (by omega) poly_lt
  · omega
theorem steps_lt (n : Nat) {c : Nat} (h : c < 2 ^ 32) : steps n c < 2 ^ 32 := by
  induction n generalizing c with
  | zero => exact h
  | succ n ih => exact ih (step_lt h)
theorem next_lt {c b : Nat} (h : c < 2 ^ 32) (hb : b < 256) : next c b < 2 ^ 32 :=
  steps_lt 8 (Nat.xor_lt_two_pow h (by omega))
theorem many_lt (l : List Nat) {c : Nat} (h : c < 2 ^ 32) (hl : ∀ x ∈ l, x < 256) : many c l < 2 ^ 32 := by
  induction l generalizing c with
  | nil => exact h
  | cons x l ih => exact ih (next_lt h (hl x (by simp))) (fun y hy => hl y (by simp [hy]))
theorem many_nil (c : Nat) : many c [] = c := rfl
theorem many_cons (c x : Nat) (l : List Nat) : many c (x :: l) = many (next c x) l := rfl
theorem many_append (c : Nat) (l m : List Nat) : many c (l ++ m) = many (many c l) m := by simp [many]

theorem xor_mod_two (a b : Nat) : (a ^^^ b) % 2 = (a % 2 + b % 2) % 2 := by
  have h := @Nat.xor_mod_two_eq_one a b
  have h1 := Nat.mod_two_eq_zero_or_one a
  have h2 := Nat.mod_two_eq_zero_or_one b
  have h3 := Nat.mod_two_eq_zero_or_one (a ^^^ b)
  have h4 : (a ^^^ b) % 2 = 1 → ¬ (a % 2 = 1 ↔ b % 2 = 1) := h.1
  have h5 : ¬ (a % 2 = 1 ↔ b % 2 = 1) → (a ^^^ b) % 2 = 1 := h.2
  clear h
  generalize (a ^^^ b) % 2 = x at *
  generalize a % 2 = y at *
  generalize b % 2 = z at *
  rcases h1 with rfl | rfl <;> rcases h2 with rfl | rfl <;> rcases h3 with rfl | rfl <;> simp at h4 h5 ⊢

theorem xor_swap (a b c d : Nat) : (a ^^^ b) ^^^ (c ^^^ d) = (a ^^^ c) ^^^ (b ^^^ d) := by
  rw [Nat.xor_assoc, Nat.xor_assoc, ← Nat.xor_assoc b, Nat.xor_comm b c, Nat.xor_assoc c]

/-- A round is linear. -/
theorem step_xor (a b : Nat) : step (a ^^^ b) = step a ^^^ step b := by
  unfold step
  rw [xor_mod_two, Nat.xor_div_two]
  rcases Nat.mod_two_eq_zero_or_one a with h1 | h1 <;> rcases Nat.mod_two_eq_zero_or_one b with h2 | h2 <;> rw [h1, h2] <;> simp
  · rw [Nat.xor_assoc]
  · rw [Nat.xor_assoc, Nat.xor_assoc, Nat.xor_comm poly]
  · rw [xor_swap, Nat.xor_self, Nat.xor_zero]
theorem steps_xor (n : Nat) : ∀ a b, steps n (a ^^^ b) = steps n a ^^^ steps n b := by
  induction n with
  | zero => intro a b; rfl
  | succ n ih => intro a b; simp only [steps]; rw [step_xor, ih]

theorem step_even {y : Nat} (h : y % 2 = 0) : step y = y / 2 := by unfold step; rw [if_neg (by omega)]

theorem low_split (b : Nat) : (b % 2) ^^^ (2 * (b / 2)) = b := by
  apply Nat.eq_of_testBit_eq
  intro i
  rw [Nat.testBit_xor]
  cases i with
  | zero =>
    simp only [Nat.testBit_zero]
    rcases Nat.mod_two_eq_zero_or_one b with h | h <;> simp [h] <;> omega
  | succ i =>
    rw [Nat.testBit_succ, Nat.testBit_succ, Nat.testBit_succ, show b % 2 / 2 = 0 by omega, show 2 * (b / 2) / 2 = b / 2 by omega]
    simp

/-- The two ways agree: what of the byte is still to come lies in the register. -/
theorem refs_eq (n : Nat) : ∀ c b, refs n c b ^^^ (b / 2 ^ n) = steps n (c ^^^ b) := by
  induction n with
  | zero => intro c b; simp [refs, steps]
  | succ n ih =>
    intro c b
    have h := ih (step (c ^^^ (b % 2))) (b / 2)
    simp only [refs, steps]
    rw [show b / 2 ^ (n + 1) = b / 2 / 2 ^ n by rw [Nat.div_div_eq_div_mul, Nat.pow_succ, Nat.mul_comm], h]
    congr 1
    have e : c ^^^ b = (c ^^^ (b % 2)) ^^^ (2 * (b / 2)) := by
      rw [Nat.xor_assoc, low_split]
    have e2 : step (2 * (b / 2)) = b / 2 := by rw [step_even (Nat.mul_mod_right 2 _), Nat.mul_div_cancel_left _ (by decide)]
    rw [e, step_xor (c ^^^ (b % 2)), e2]
theorem refs_next (c b : Nat) (hb : b < 256) : refs 8 c b = next c b := by
  have h := refs_eq 8 c b
  rw [show b / 2 ^ 8 = 0 by omega, Nat.xor_zero] at h
  exact h

theorem xor_zero_eq {a b : Nat} (h : a ^^^ b = 0) : a = b := by
  have : (a ^^^ b) ^^^ b = 0 ^^^ b := by rw [h]
  rw [Nat.xor_assoc, Nat.xor_self, Nat.xor_zero, Nat.zero_xor] at this
  exact this
theorem step_zero {c : Nat} (hc : c < 2 ^ 32) (h : step c = 0) : c = 0 := by
  unfold step at h
  split at h
  · have := xor_zero_eq h
    unfold poly at this
    omega
  · omega
theorem steps_zero (n : Nat) : ∀ {c : Nat}, c < 2 ^ 32 → steps n c = 0 → c = 0 := by
  induction n with
  | zero => intro c _ h; exact h
  | succ n ih => intro c hc h; exact step_zero hc (ih (step_lt hc) h)
theorem steps_inj (n : Nat) {a b : Nat} (ha : a < 2 ^ 32) (hb : b < 2 ^ 32) (h : steps n a = steps n b) : a = b := by
  apply xor_zero_eq
  apply steps_zero n (Nat.xor_lt_two_pow ha hb)
  rw [steps_xor, h, Nat.xor_self]
theorem xor_left_inj {a b c : Nat} (h : a ^^^ b = a ^^^ c) : b = c := by
  have : a ^^^ (a ^^^ b) = a ^^^ (a ^^^ c) := by rw [h]
  rw [← Nat.xor_assoc, ← Nat.xor_assoc, Nat.xor_self, Nat.zero_xor, Nat.zero_xor] at this
  exact this
theorem next_inj_reg {a b x : Nat} (ha : a < 2 ^ 32) (hb : b < 2 ^ 32) (hx : x < 256) (h : next a x = next b x) : a = b := by
  have := steps_inj 8 (Nat.xor_lt_two_pow ha (by omega)) (Nat.xor_lt_two_pow hb (by omega)) h
  rw [Nat.xor_comm a, Nat.xor_comm b] at this
  exact xor_left_inj this
theorem next_inj_byte {c x y : Nat} (hc : c < 2 ^ 32) (hx : x < 256) (hy : y < 256) (h : next c x = next c y) : x = y :=
  xor_left_inj (steps_inj 8 (Nat.xor_lt_two_pow hc (by omega)) (Nat.xor_lt_two_pow hc (by omega)) h)
theorem many_inj (l : List Nat) : ∀ {a b : Nat}, a < 2 ^ 32 → b < 2 ^ 32 → (∀ x ∈ l, x < 256) → many a l = many b l → a = b := by
  induction l with
  | nil => intro a b _ _ _ h; exact h
  | cons x l ih =>
    intro a b ha hb hl h
    have hx := hl x (by simp)
    exact next_inj_reg ha hb hx (ih (next_lt ha hx) (next_lt hb hx) (fun y hy => hl y (by simp [hy])) h)
/-- Another byte: another sum. -/
theorem many_one (c : Nat) (l m : List Nat) (x y : Nat) (hc : c < 2 ^ 32) (hl : ∀ z ∈ l, z < 256) (hm : ∀ z ∈ m, z < 256) (hx : x < 256) (hy : y < 256) (hne : x ≠ y) :
    many c (l ++ x :: m) ≠ many c (l ++ y :: m) := by
  intro h
  rw [many_append, many_append, many_cons, many_cons] at h
  have hr := many_lt l hc hl
  exact hne (next_inj_byte hr hx hy (many_inj m (next_lt hr hx) (next_lt hr hy) hm h))
end Go.Proofs.Ytkmanjfmffdcbaa.CrcMath
