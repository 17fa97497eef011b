/- The parts of this proof, one after the other (wip/tools/merge.py). -/
import Derived.Laws.BitsLemmas
import Derived.Tactics
import Derived.IntWalk
import Derived.Test.YtkmanjfmffdcbaaQFramex5
import Derived.Test.YtkmanjfmffdcbaaQFramex19
import Derived.Test.YtkmanjfmffdcbaaQFramex14
import Derived.Test.YtkmanjfmffdcbaaQFramex7
import Derived.Test.YtkmanjfmffdcbaaQFramex20
import Derived.Test.YtkmanjfmffdcbaaQFramex16
import Derived.Test.YtkmanjfmffdcbaaQFramex2
import Derived.Test.YtkmanjfmffdcbaaQFramex11
import Derived.Test.YtkmanjfmffdcbaaQFramex26
import Derived.Test.YtkmanjfmffdcbaaQFramex15
import Derived.Test.YtkmanjfmffdcbaaQFramex8
import Derived.Test.YtkmanjfmffdcbaaQFramex21
import Derived.Test.YtkmanjfmffdcbaaQFramex22
import Derived.Test.YtkmanjfmffdcbaaQFramex9
import Derived.OpenShut
import Derived.Lib.Bytes
import Derived.Test.YtkmanjfmffdcbaaPutsWalk
/- The sum of bytes, as plain arithmetic: a round, a byte, many bytes; the document's order of rounds is the same; another byte gives another sum. -/
namespace Go.Proofs.Ytkmanjfmffdcbaa.CrcMath

def poly : Nat := 3988292384
/-- One round. -/
def step (c : Nat) : Nat := if c % 2 = 1 then (c / 2) ^^^ poly else c / 2
def steps : Nat → Nat → Nat
  | 0, c => c
  | n + 1, c => steps n (step c)
/-- A byte. -/
def next (c b : Nat) : Nat := steps 8 (c ^^^ b)
def many (c : Nat) (l : List Nat) : Nat := l.foldl next c
/-- The document's way: the byte's bits go in one by one. -/
def refs : Nat → Nat → Nat → Nat
  | 0, c, _ => c
  | n + 1, c, b => refs n (step (c ^^^ (b % 2))) (b / 2)

theorem poly_lt : poly < 2 ^ 32 := by decide
theorem step_lt {c : Nat} (h : c < 2 ^ 32) : step c < 2 ^ 32 := by
  unfold step
  split
  · exact Nat.xor_lt_two_pow (by omega) poly_lt
  · omega
theorem steps_lt (n : Nat) {c : Nat} (h : c < 2 ^ 32) : steps n c < 2 ^ 32 := by
  induction n generalizing c with
  | zero => exact h
  | succ n ih => exact ih (step_lt h)
theorem next_lt {c b : Nat} (h : c < 2 ^ 32) (hb : b < 256) : next c b < 2 ^ 32 :=
  steps_lt 8 (Nat.xor_lt_two_pow h (by omega))
theorem many_lt (l : List Nat) {c : Nat} (h : c < 2 ^ 32) (hl : ∀ x ∈ l, x < 256) : many c l < 2 ^ 32 := by
  induction l generalizing c with
  | nil => exact h
  | cons x l ih => exact ih (next_lt h (hl x (by simp))) (fun y hy => hl y (by simp [hy]))
theorem many_nil (c : Nat) : many c [] = c := rfl
theorem many_cons (c x : Nat) (l : List Nat) : many c (x :: l) = many (next c x) l := rfl
theorem many_append (c : Nat) (l m : List Nat) : many c (l ++ m) = many (many c l) m := by simp [many]

theorem xor_mod_two (a b : Nat) : (a ^^^ b) % 2 = (a % 2 + b % 2) % 2 := by
  have h := @Nat.xor_mod_two_eq_one a b
  have h1 := Nat.mod_two_eq_zero_or_one a
  have h2 := Nat.mod_two_eq_zero_or_one b
  have h3 := Nat.mod_two_eq_zero_or_one (a ^^^ b)
  have h4 : (a ^^^ b) % 2 = 1 → ¬ (a % 2 = 1 ↔ b % 2 = 1) := h.1
  have h5 : ¬ (a % 2 = 1 ↔ b % 2 = 1) → (a ^^^ b) % 2 = 1 := h.2
  clear h
  generalize (a ^^^ b) % 2 = x at *
  generalize a % 2 = y at *
  generalize b % 2 = z at *
  rcases h1 with rfl | rfl <;> rcases h2 with rfl | rfl <;> rcases h3 with rfl | rfl <;> simp at h4 h5 ⊢

theorem xor_swap (a b c d : Nat) : (a ^^^ b) ^^^ (c ^^^ d) = (a ^^^ c) ^^^ (b ^^^ d) := by
  rw [Nat.xor_assoc, Nat.xor_assoc, ← Nat.xor_assoc b, Nat.xor_comm b c, Nat.xor_assoc c]

/-- A round is linear. -/
theorem step_xor (a b : Nat) : step (a ^^^ b) = step a ^^^ step b := by
  unfold step
  rw [xor_mod_two, Nat.xor_div_two]
  rcases Nat.mod_two_eq_zero_or_one a with h1 | h1 <;> rcases Nat.mod_two_eq_zero_or_one b with h2 | h2 <;> rw [h1, h2] <;> simp
  · rw [Nat.xor_assoc]
  · rw [Nat.xor_assoc, Nat.xor_assoc, Nat.xor_comm poly]
  · rw [xor_swap, Nat.xor_self, Nat.xor_zero]
theorem steps_xor (n : Nat) : ∀ a b, steps n (a ^^^ b) = steps n a ^^^ steps n b := by
  induction n with
  | zero => intro a b; rfl
  | succ n ih => intro a b; simp only [steps]; rw [step_xor, ih]

theorem step_even {y : Nat} (h : y % 2 = 0) : step y = y / 2 := by unfold step; rw [if_neg (by omega)]

theorem low_split (b : Nat) : (b % 2) ^^^ (2 * (b / 2)) = b := by
  apply Nat.eq_of_testBit_eq
  intro i
  rw [Nat.testBit_xor]
  cases i with
  | zero =>
    simp only [Nat.testBit_zero]
    rcases Nat.mod_two_eq_zero_or_one b with h | h <;> simp [h] <;> omega
  | succ i =>
    rw [Nat.testBit_succ, Nat.testBit_succ, Nat.testBit_succ, show b % 2 / 2 = 0 by omega, show 2 * (b / 2) / 2 = b / 2 by omega]
    simp

/-- The two ways agree: what of the byte is still to come lies in the register. -/
theorem refs_eq (n : Nat) : ∀ c b, refs n c b ^^^ (b / 2 ^ n) = steps n (c ^^^ b) := by
  induction n with
  | zero => intro c b; simp [refs, steps]
  | succ n ih =>
    intro c b
    have h := ih (step (c ^^^ (b % 2))) (b / 2)
    simp only [refs, steps]
    rw [show b / 2 ^ (n + 1) = b / 2 / 2 ^ n by rw [Nat.div_div_eq_div_mul, Nat.pow_succ, Nat.mul_comm], h]
    congr 1
    have e : c ^^^ b = (c ^^^ (b % 2)) ^^^ (2 * (b / 2)) := by
      rw [Nat.xor_assoc, low_split]
    have e2 : step (2 * (b / 2)) = b / 2 := by rw [step_even (Nat.mul_mod_right 2 _), Nat.mul_div_cancel_left _ (by decide)]
    rw [e, step_xor (c ^^^ (b % 2)), e2]
theorem refs_next (c b : Nat) (hb : b < 256) : refs 8 c b = next c b := by
  have h := refs_eq 8 c b
  rw [show b / 2 ^ 8 = 0 by omega, Nat.xor_zero] at h
  exact h

theorem xor_zero_eq {a b : Nat} (h : a ^^^ b = 0) : a = b := by
  have : (a ^^^ b) ^^^ b = 0 ^^^ b := by rw [h]
  rw [Nat.xor_assoc, Nat.xor_self, Nat.xor_zero, Nat.zero_xor] at this
  exact this
theorem step_zero {c : Nat} (hc : c < 2 ^ 32) (h : step c = 0) : c = 0 := by
  unfold step at h
  split at h
  · have := xor_zero_eq h
    unfold poly at this
    omega
  · omega
theorem steps_zero (n : Nat) : ∀ {c : Nat}, c < 2 ^ 32 → steps n c = 0 → c = 0 := by
  induction n with
  | zero => intro c _ h; exact h
  | succ n ih => intro c hc h; exact step_zero hc (ih (step_lt hc) h)
theorem steps_inj (n : Nat) {a b : Nat} (ha : a < 2 ^ 32) (hb : b < 2 ^ 32) (h : steps n a = steps n b) : a = b := by
  apply xor_zero_eq
  apply steps_zero n (Nat.xor_lt_two_pow ha hb)
  rw [steps_xor, h, Nat.xor_self]
theorem xor_left_inj {a b c : Nat} (h : a ^^^ b = a ^^^ c) : b = c := by
  have : a ^^^ (a ^^^ b) = a ^^^ (a ^^^ c) := by rw [h]
  rw [← Nat.xor_assoc, ← Nat.xor_assoc, Nat.xor_self, Nat.zero_xor, Nat.zero_xor] at this
  exact this
theorem next_inj_reg {a b x : Nat} (ha : a < 2 ^ 32) (hb : b < 2 ^ 32) (hx : x < 256) (h : next a x = next b x) : a = b := by
  have := steps_inj 8 (Nat.xor_lt_two_pow ha (by omega)) (Nat.xor_lt_two_pow hb (by omega)) h
  rw [Nat.xor_comm a, Nat.xor_comm b] at this
  exact xor_left_inj this
theorem next_inj_byte {c x y : Nat} (hc : c < 2 ^ 32) (hx : x < 256) (hy : y < 256) (h : next c x = next c y) : x = y :=
  xor_left_inj (steps_inj 8 (Nat.xor_lt_two_pow hc (by omega)) (Nat.xor_lt_two_pow hc (by omega)) h)
theorem many_inj (l : List Nat) : ∀ {a b : Nat}, a < 2 ^ 32 → b < 2 ^ 32 → (∀ x ∈ l, x < 256) → many a l = many b l → a = b := by
  induction l with
  | nil => intro a b _ _ _ h; exact h
  | cons x l ih =>
    intro a b ha hb hl h
    have hx := hl x (by simp)
    exact next_inj_reg ha hb hx (ih (next_lt ha hx) (next_lt hb hx) (fun y hy => hl y (by simp [hy])) h)
/-- Another byte: another sum. -/
theorem many_one (c : Nat) (l m : List Nat) (x y : Nat) (hc : c < 2 ^ 32) (hl : ∀ z ∈ l, z < 256) (hm : ∀ z ∈ m, z < 256) (hx : x < 256) (hy : y < 256) (hne : x ≠ y) :
    many c (l ++ x :: m) ≠ many c (l ++ y :: m) := by
  intro h
  rw [many_append, many_append, many_cons, many_cons] at h
  have hr := many_lt l hc hl
  exact hne (next_inj_byte hr hx hy (many_inj m (next_lt hr hx) (next_lt hr hy) hm h))
end Go.Proofs.Ytkmanjfmffdcbaa.CrcMath

/- Numbers as bytes, the highest first: plain arithmetic. -/
namespace Go.Proofs.Ytkmanjfmffdcbaa.NumMath
open Go.RowKit
/-- Bytes: each is from 0 to 255. -/
def Byt (l : List Int) : Prop := ∀ x ∈ l, 0 ≤ x ∧ x ≤ 255
theorem Byt.take {l : List Int} (h : Byt l) (k : Nat) : Byt (l.take k) := fun x hx => h x (List.mem_of_mem_take hx)
theorem Byt.drop {l : List Int} (h : Byt l) (k : Nat) : Byt (l.drop k) := fun x hx => h x (List.mem_of_mem_drop hx)
theorem Byt.app {l m : List Int} (h : Byt l) (h' : Byt m) : Byt (l ++ m) := by
  intro x hx
  rcases List.mem_append.1 hx with h1 | h1
  · exact h x h1
  · exact h' x h1
/-- So many bytes of a number. -/
def bb (n : Nat) : Nat → List Int
  | 0 => []
  | m + 1 => ((n / 256 ^ m % 256 : Nat) : Int) :: bb n m
theorem bb_len (n m : Nat) : (bb n m).length = m := by
  induction m with
  | zero => rfl
  | succ m ih => simp [bb, ih]
theorem bb_byt (n m : Nat) : Byt (bb n m) := by
  induction m with
  | zero => intro x hx; cases hx
  | succ m ih =>
    intro x hx
    rcases List.mem_cons.1 hx with h | h
    · subst h; omega
    · exact ih x h
/-- Bytes as a number. -/
def beFrom (a : Nat) (l : List Int) : Nat := l.foldl (fun a x => a * 256 + x.toNat) a
def be (l : List Int) : Nat := beFrom 0 l
theorem be_bb_from (n m : Nat) : ∀ a, beFrom a (bb n m) = a * 256 ^ m + n % 256 ^ m := by
  induction m with
  | zero => intro a; simp [beFrom, bb, Nat.mod_one]
  | succ m ih =>
    intro a
    show beFrom (a * 256 + ((n / 256 ^ m % 256 : Nat) : Int).toNat) (bb n m) = _
    have hm : n % (256 ^ m * 256) = n % 256 ^ m + 256 ^ m * (n / 256 ^ m % 256) := Nat.mod_mul
    rw [ih, Int.toNat_natCast, Nat.add_mul, Nat.pow_succ, hm, Nat.mul_assoc, Nat.mul_comm 256 (256 ^ m), Nat.mul_comm (256 ^ m) (n / 256 ^ m % 256)]
    omega
theorem be_bb (n m : Nat) (h : n < 256 ^ m) : be (bb n m) = n := by
  unfold be
  rw [be_bb_from, Nat.mod_eq_of_lt h, Nat.zero_mul, Nat.zero_add]
theorem be_lt_from (l : List Int) (hl : Byt l) : ∀ a, beFrom a l < (a + 1) * 256 ^ l.length := by
  induction l with
  | nil => intro a; simp [beFrom]
  | cons x l ih =>
    intro a
    have hx := hl x (by simp)
    have h := ih (fun y hy => hl y (by simp [hy])) (a * 256 + x.toNat)
    show beFrom (a * 256 + x.toNat) l < _
    refine Nat.lt_of_lt_of_le h ?_
    rw [List.length_cons, Nat.pow_succ, Nat.mul_comm (256 ^ l.length) 256, ← Nat.mul_assoc]
    exact Nat.mul_le_mul_right _ (by omega)
theorem be_lt (l : List Int) (hl : Byt l) : be l < 256 ^ l.length := by
  have := be_lt_from l hl 0
  simpa [be] using this
theorem bb_be (l : List Int) (hl : Byt l) : bb (be l) l.length = l := by
  have key : ∀ (l : List Int), Byt l → ∀ a, bb (beFrom a l) l.length = l := by
    intro l
    induction l with
    | nil => intro _ a; rfl
    | cons x l ih =>
      intro hl a
      have hx := hl x (by simp)
      have hl' : Byt l := fun y hy => hl y (by simp [hy])
      show ((beFrom (a * 256 + x.toNat) l / 256 ^ l.length % 256 : Nat) : Int) :: bb (beFrom (a * 256 + x.toNat) l) l.length = x :: l
      rw [ih hl' (a * 256 + x.toNat)]
      congr 1
      have h1 : ∀ (l : List Int), Byt l → ∀ a, beFrom a l = a * 256 ^ l.length + be l := by
        intro l
        induction l with
        | nil => intro _ a; simp [beFrom, be]
        | cons y l ih2 =>
          intro hl a
          have hl' : Byt l := fun z hz => hl z (by simp [hz])
          show beFrom (a * 256 + y.toNat) l = a * 256 ^ (l.length + 1) + beFrom (0 * 256 + y.toNat) l
          rw [ih2 hl' (a * 256 + y.toNat), ih2 hl' (0 * 256 + y.toNat), Nat.pow_succ, Nat.add_mul, Nat.zero_mul, Nat.zero_add, Nat.mul_assoc, Nat.mul_comm 256]
          omega
      rw [h1 l hl' (a * 256 + x.toNat), Nat.mul_comm, Nat.mul_add_div (Nat.pow_pos (by decide)), Nat.div_eq_of_lt (be_lt l hl')]
      omega
  exact key l hl 0
theorem u64_wrap (n : Int) (h0 : 0 ≤ n) (h1 : n < 18446744073709551616) : IntKind.u64.wrap n = n := by
  simp [IntKind.wrap, IntKind.bits, IntKind.signed]
  omega
theorem wraps_u64 (n : Int) (h₀ : 0 ≤ n) (h₁ : n < 2 ^ 64) : IntKind.u64.wrap n = n := u64_wrap n h₀ (by omega)
theorem or_add (n x : Nat) (hn : n < 2 ^ 56) (hx : x < 256) : Go.bits .or .u64 (IntKind.u64.wrap ((n : Int) * 256)) (IntKind.u64.wrap (x : Int)) = ((n * 256 + x : Nat) : Int) := by
  rw [u64_wrap _ (by omega) (by omega), u64_wrap _ (by omega) (by omega), show ((n : Int) * 256) = ((n * 256 : Nat) : Int) by omega]
  rw [(bits_nat .u64 64 (by decide) wraps_u64 (n * 256) x (by omega) (by omega)).2]
  congr 1
  have := Nat.two_pow_add_eq_or_of_lt (i := 8) (b := x) (by omega) n
  rw [Nat.mul_comm n 256]
  exact this.symm
theorem wr {a : Int} (h1 : -9223372036854775808 ≤ a) (h2 : a ≤ 9223372036854775807) : wrap64 a = a := by unfold wrap64; omega
end Go.Proofs.Ytkmanjfmffdcbaa.NumMath

/- What the functions of the sum's package compute, in plain words, out of the printed texts. -/
namespace Go.Proofs.Ytkmanjfmffdcbaa.CrcFacts
open Go.RowKit Go.Proofs.YtkmanjfmffdcbaaW.PrintWords Go.Proofs.YtkmanjfmffdcbaaW.PrintLast Go.Proofs.YtkmanjfmffdcbaaW.PrintMore Go.Proofs.Ytkmanjfmffdcbaa.QFrame Go.Proofs.Ytkmanjfmffdcbaa.CrcMath

/-- Bytes: each is from 0 to 255. -/
def Byt (l : List Int) : Prop := ∀ x ∈ l, 0 ≤ x ∧ x ≤ 255
def nb (l : List Int) : List Nat := l.map Int.toNat
theorem nb_lt {l : List Int} (h : Byt l) : ∀ x ∈ nb l, x < 256 := by
  intro x hx
  obtain ⟨y, hy, rfl⟩ := List.mem_map.1 hx
  have := h y hy
  omega
theorem bits_xor (a b : Nat) (ha : a < 2 ^ 32) (hb : b < 2 ^ 32) : Go.bits .xor .u32 (a : Int) (b : Int) = ((a ^^^ b : Nat) : Int) := by
  have ha' : a % 2 ^ 32 = a := Nat.mod_eq_of_lt ha
  have hb' : b % 2 ^ 32 = b := Nat.mod_eq_of_lt hb
  simp only [Go.bits, BitVec.ofInt_natCast, BitVec.toNat_xor, BitVec.toNat_ofNat, show IntKind.u32.bits = 32 from rfl, ha', hb']
  have h := Nat.xor_lt_two_pow ha hb
  rw [IntKind.wrap_u32]
  omega
theorem bits_and1 (a : Nat) (ha : a < 2 ^ 32) : Go.bits .and .u32 (a : Int) 1 = ((a % 2 : Nat) : Int) := by
  have ha' : a % 2 ^ 32 = a := Nat.mod_eq_of_lt ha
  have h1 : (1 : Int) = ((1 : Nat) : Int) := rfl
  rw [h1]
  simp only [Go.bits, BitVec.ofInt_natCast, BitVec.toNat_and, BitVec.toNat_ofNat, show IntKind.u32.bits = 32 from rfl, ha', show 1 % 2 ^ 32 = 1 from rfl, Nat.and_one_is_mod]
  rw [IntKind.wrap_u32]
  omega
theorem wr {a : Int} (h1 : -9223372036854775808 ≤ a) (h2 : a ≤ 9223372036854775807) : wrap64 a = a := by unfold wrap64; omega

theorem next_loop (n : Nat) : ∀ (k c i : Nat), c < 2 ^ 32 → i + n = 8 → n < k → crc_Next.l0 k (c : Int) (i : Int) = some ((steps n c : Nat) : Int) := by
  induction n with
  | zero =>
    intro k c i hc hi hk
    obtain ⟨k, rfl⟩ : ∃ m, k = m + 1 := ⟨k - 1, by omega⟩
    simp only [crc_Next.l0]; rw [if_neg (by omega)]; rfl
  | succ n ih =>
    intro k c i hc hi hk
    obtain ⟨k, rfl⟩ : ∃ m, k = m + 1 := ⟨k - 1, by omega⟩
    simp only [crc_Next.l0, steps]
    rw [if_pos (by omega), bits_and1 c hc, wr (a := (i : Int) + 1) (by omega) (by omega), show (c : Int) / 2 = ((c / 2 : Nat) : Int) by omega, show (i : Int) + 1 = ((i + 1 : Nat) : Int) by omega]
    unfold CrcMath.step
    by_cases h : c % 2 = 1
    · rw [if_pos (by omega), if_pos h, show (3988292384 : Int) = ((poly : Nat) : Int) from rfl, bits_xor _ _ (by omega) poly_lt]
      exact ih k _ _ (Nat.xor_lt_two_pow (by omega) poly_lt) (by omega) (by omega)
    · rw [if_neg (by omega), if_neg h]
      exact ih k _ _ (by omega) (by omega) (by omega)
theorem next_is (k c b : Nat) (hc : c < 2 ^ 32) (hb : b < 256) (hk : 9 ≤ k) : crc_Next.f k (c : Int) (b : Int) = some ((next c b : Nat) : Int) := by
  unfold crc_Next.f next
  rw [show ((b : Int)) % 4294967296 = ((b : Nat) : Int) by omega, bits_xor c b hc (by omega)]
  exact next_loop 8 k (c ^^^ b) 0 (Nat.xor_lt_two_pow hc (by omega)) rfl (by omega)
theorem rd_nat {l : List Int} (h : Byt l) (i : Nat) (hi : i < l.length) : rd l (i : Int) = ((l.getD i 0).toNat : Int) ∧ (l.getD i 0).toNat < 256 := by
  have hm := h _ (List.getElem_mem hi)
  unfold rd
  simp only [Int.toNat_natCast, List.getD_eq_getElem?_getD, List.getElem?_eq_getElem hi, Option.getD_some]
  omega
theorem nb_drop {l : List Int} (i : Nat) (hi : i < l.length) : nb (l.drop i) = (l.getD i 0).toNat :: nb (l.drop (i + 1)) := by
  show List.map Int.toNat (List.drop i l) = (l.getD i 0).toNat :: List.map Int.toNat (List.drop (i + 1) l)
  rw [List.drop_eq_getElem_cons hi, List.map_cons, List.getD_eq_getElem?_getD, List.getElem?_eq_getElem hi, Option.getD_some]
theorem many_loop (n : Nat) : ∀ (k c i : Nat) (l : List Int), Byt l → c < 2 ^ 32 → i + n = l.length → l.length ≤ 9223372036854775806 → n + 10 ≤ k → crc_Many.l0 k (c : Int) l (l.length : Int) (i : Int) = some ((many c (nb (l.drop i)) : Nat) : Int) := by
  induction n with
  | zero =>
    intro k c i l hl hc hi hm hk
    obtain ⟨k, rfl⟩ : ∃ m, k = m + 1 := ⟨k - 1, by omega⟩
    simp only [crc_Many.l0]; rw [if_neg (by omega), List.drop_of_length_le (by omega)]; rfl
  | succ n ih =>
    intro k c i l hl hc hi hm hk
    obtain ⟨k, rfl⟩ : ∃ m, k = m + 1 := ⟨k - 1, by omega⟩
    obtain ⟨h1, h2⟩ := rd_nat hl i (by omega)
    simp only [crc_Many.l0]
    rw [if_pos (by omega), if_pos (by omega), if_pos (by omega), h1, next_is k c _ hc h2 (by omega), Option.bind_some, wr (a := (i : Int) + 1) (by omega) (by omega), show (i : Int) + 1 = ((i + 1 : Nat) : Int) by omega, nb_drop i (by omega), many_cons]
    exact ih k _ _ l hl (next_lt hc h2) (by omega) hm (by omega)
theorem many_is (k c : Nat) (l : List Int) (hl : Byt l) (hc : c < 2 ^ 32) (hm : l.length ≤ 9223372036854775806) (hk : l.length + 10 ≤ k) : crc_Many.f k (c : Int) l = some ((many c (nb l) : Nat) : Int) := by
  have h := many_loop l.length k c 0 l hl hc (by omega) hm hk
  rw [List.drop_zero] at h
  exact h
/-- The sum of bytes. -/
def sum (l : List Nat) : Nat := 4294967295 ^^^ many 4294967295 l
theorem sum_lt {l : List Nat} (h : ∀ x ∈ l, x < 256) : sum l < 2 ^ 32 := Nat.xor_lt_two_pow (by decide) (many_lt l (by decide) h)
theorem sum_is (k : Nat) (l : List Int) (hl : Byt l) (hm : l.length ≤ 9223372036854775806) (hk : l.length + 10 ≤ k) : crc_Sum.f k l = some ((sum (nb l) : Nat) : Int) := by
  unfold crc_Sum.f
  rw [show (4294967295 : Int) = ((4294967295 : Nat) : Int) from rfl, many_is k 4294967295 l hl (by decide) hm hk, Option.bind_some, bits_xor _ _ (by decide) (many_lt _ (by decide) (nb_lt hl))]
  rfl

theorem ref_loop (n : Nat) : ∀ (k c b i : Nat), c < 2 ^ 32 → b < 256 → i + n = 8 → n < k → spenceref01_Next.l0 k (c : Int) (b : Int) (i : Int) = some ((refs n c (b / 2 ^ i) : Nat) : Int) := by
  induction n with
  | zero =>
    intro k c b i hc hb hi hk
    obtain ⟨k, rfl⟩ : ∃ m, k = m + 1 := ⟨k - 1, by omega⟩
    simp only [spenceref01_Next.l0]; rw [if_neg (by omega)]; rfl
  | succ n ih =>
    intro k c b i hc hb hi hk
    obtain ⟨k, rfl⟩ : ∃ m, k = m + 1 := ⟨k - 1, by omega⟩
    have hs : (shr .u8 (b : Int) (i : Int)) % 4294967296 = ((b / 2 ^ i : Nat) : Int) := by
      unfold shr
      rw [Int.toNat_natCast, show IntKind.u8.bits = 8 from rfl, Nat.min_eq_left (by omega), show ((b : Int) / 2 ^ i) = ((b / 2 ^ i : Nat) : Int) by norm_cast]
      have : b / 2 ^ i ≤ b := Nat.div_le_self _ _
      generalize b / 2 ^ i = q at *
      omega
    have hd : b / 2 ^ i ≤ b := Nat.div_le_self _ _
    simp only [spenceref01_Next.l0, refs]
    rw [if_pos (by omega), if_pos (by omega), hs, bits_and1 c hc, bits_and1 _ (by omega), bits_xor _ _ (by omega) (by omega), wr (a := (i : Int) + 1) (by omega) (by omega), show (i : Int) + 1 = ((i + 1 : Nat) : Int) by omega, show Int.tdiv (c : Int) 2 % 4294967296 = ((c / 2 : Nat) : Int) by rw [Int.tdiv_eq_ediv_of_nonneg (by omega)]; omega]
    have hp : b / 2 ^ i / 2 = b / 2 ^ (i + 1) := by rw [Nat.div_div_eq_div_mul, Nat.pow_succ]
    have hx : (c % 2) ^^^ (b / 2 ^ i % 2) = (c ^^^ (b / 2 ^ i % 2)) % 2 := by
      rw [xor_mod_two]
      rcases Nat.mod_two_eq_zero_or_one c with h | h <;> rcases Nat.mod_two_eq_zero_or_one (b / 2 ^ i) with h' | h' <;> rw [h, h'] <;> rfl
    have hh : (c ^^^ (b / 2 ^ i % 2)) / 2 = c / 2 := by rw [Nat.xor_div_two, show b / 2 ^ i % 2 / 2 = 0 by omega, Nat.xor_zero]
    rw [hx, hp]
    unfold CrcMath.step
    rw [hh]
    by_cases h : (c ^^^ (b / 2 ^ i % 2)) % 2 = 1
    · rw [if_pos (by omega), if_pos h, show (3988292384 : Int) = ((poly : Nat) : Int) from rfl, bits_xor _ _ (by omega) poly_lt]
      exact ih k _ b _ (Nat.xor_lt_two_pow (by omega) poly_lt) hb (by omega) (by omega)
    · rw [if_neg (by omega), if_neg h]
      exact ih k _ b _ (by omega) hb (by omega) (by omega)
theorem ref_is (k c b : Nat) (hc : c < 2 ^ 32) (hb : b < 256) (hk : 9 ≤ k) : spenceref01_Next.f k (c : Int) (b : Int) = some ((next c b : Nat) : Int) := by
  unfold spenceref01_Next.f
  have h := ref_loop 8 k c b 0 hc hb rfl (by omega)
  rw [Nat.pow_zero, Nat.div_one, refs_next c b hb] at h
  exact h
theorem refsum_loop (n : Nat) : ∀ (k c i : Nat) (l : List Int), Byt l → c < 2 ^ 32 → i + n = l.length → l.length ≤ 9223372036854775806 → n + 10 ≤ k → spenceref01_Sum.l0 k (c : Int) l (l.length : Int) (i : Int) = some ((4294967295 ^^^ many c (nb (l.drop i)) : Nat) : Int) := by
  induction n with
  | zero =>
    intro k c i l hl hc hi hm hk
    obtain ⟨k, rfl⟩ : ∃ m, k = m + 1 := ⟨k - 1, by omega⟩
    simp only [spenceref01_Sum.l0]; rw [if_neg (by omega), List.drop_of_length_le (by omega), show (4294967295 : Int) = ((4294967295 : Nat) : Int) from rfl, bits_xor _ _ hc (by decide), Nat.xor_comm]; rfl
  | succ n ih =>
    intro k c i l hl hc hi hm hk
    obtain ⟨k, rfl⟩ : ∃ m, k = m + 1 := ⟨k - 1, by omega⟩
    obtain ⟨h1, h2⟩ := rd_nat hl i (by omega)
    simp only [spenceref01_Sum.l0]
    rw [if_pos (by omega), if_pos (by omega), if_pos (by omega), h1, ref_is k c _ hc h2 (by omega), Option.bind_some, wr (a := (i : Int) + 1) (by omega) (by omega), show (i : Int) + 1 = ((i + 1 : Nat) : Int) by omega, nb_drop i (by omega), many_cons]
    exact ih k _ _ l hl (next_lt hc h2) (by omega) hm (by omega)
theorem refsum_is (k : Nat) (l : List Int) (hl : Byt l) (hm : l.length ≤ 9223372036854775806) (hk : l.length + 10 ≤ k) : spenceref01_Sum.f k l = some ((sum (nb l) : Nat) : Int) := by
  have h := refsum_loop l.length k 4294967295 0 l hl (by decide) (by omega) hm hk
  rw [List.drop_zero] at h
  exact h
end Go.Proofs.Ytkmanjfmffdcbaa.CrcFacts

/- What sealing and opening of bytes computes, in plain words. -/
namespace Go.Proofs.Ytkmanjfmffdcbaa.CrcFacts
open Go.RowKit Go.Proofs.YtkmanjfmffdcbaaW.PrintWords Go.Proofs.YtkmanjfmffdcbaaW.PrintLast Go.Proofs.YtkmanjfmffdcbaaW.PrintMore Go.Proofs.Ytkmanjfmffdcbaa.QFrame Go.Proofs.Ytkmanjfmffdcbaa.CrcMath

/-- A sum's four bytes, the lowest first. -/
def le4 (n : Nat) : List Int := [(n : Int) % 256, (n : Int) / 256 % 256, (n : Int) / 65536 % 256, (n : Int) / 16777216 % 256]
theorem le4_len (n : Nat) : (le4 n).length = 4 := rfl
theorem le4_byt (n : Nat) : Byt (le4 n) := by
  intro x hx
  simp only [le4, List.mem_cons, List.not_mem_nil, or_false] at hx
  omega
theorem le4_inj {a b : Nat} (ha : a < 2 ^ 32) (hb : b < 2 ^ 32) (h : le4 a = le4 b) : a = b := by
  simp only [le4, List.cons.injEq, and_true] at h
  omega
theorem tail_is (k : Nat) (l : List Int) (hl : Byt l) (hm : l.length ≤ 9223372036854775806) (hk : l.length + 10 ≤ k) : crc_tail.f k l = some (le4 (sum (nb l))) := by
  unfold crc_tail.f
  rw [sum_is k l hl hm hk, Option.bind_some]
  obtain ⟨k, rfl⟩ : ∃ m, k = m + 5 := ⟨k - 5, by omega⟩
  have hs := sum_lt (nb_lt hl)
  generalize sum (nb l) = n at *
  have e0 : shr .u32 (n : Int) 0 = (n : Int) := by simp [shr]
  have e1 : shr .u32 (n : Int) 8 = (n : Int) / 256 := by simp [shr, IntKind.bits]
  have e2 : shr .u32 (n : Int) 16 = (n : Int) / 65536 := by simp [shr, IntKind.bits]
  have e3 : shr .u32 (n : Int) 24 = (n : Int) / 16777216 := by simp [shr, IntKind.bits]
  have w0 : wrap64 (8 * 0) = 0 := by decide +kernel
  have w1 : wrap64 (8 * 1) = 8 := by decide +kernel
  have w2 : wrap64 (8 * 2) = 16 := by decide +kernel
  have w3 : wrap64 (8 * 3) = 24 := by decide +kernel
  have a0 : wrap64 (0 + 1) = 1 := by decide +kernel
  have a1 : wrap64 (1 + 1) = 2 := by decide +kernel
  have a2 : wrap64 (2 + 1) = 3 := by decide +kernel
  have a3 : wrap64 (3 + 1) = 4 := by decide +kernel
  simp only [crc_tail.l0, w0, w1, w2, w3, a0, a1, a2, a3, e0, e1, e2, e3]
  rfl
theorem seal_is (k : Nat) (l : List Int) (hl : Byt l) (hm : l.length ≤ 900000) (hk : l.length + 10 ≤ k) : crc_Seal.f k l = some (l ++ le4 (sum (nb l))) := by
  unfold crc_Seal.f
  rw [tail_is k l hl (by omega) hk, Option.bind_some, if_pos (by rw [le4_len]; omega)]
theorem eq_loop (n : Nat) : ∀ (k i : Nat) (a b : List Int), a.length = b.length → i + n = a.length → a.length ≤ 9223372036854775806 → n < k → slices_Equal_byte_byte.l0 k a b (a.length : Int) (i : Int) = some (decide (a.drop i = b.drop i)) := by
  induction n with
  | zero =>
    intro k i a b hab hi hm hk
    obtain ⟨k, rfl⟩ : ∃ m, k = m + 1 := ⟨k - 1, by omega⟩
    simp only [slices_Equal_byte_byte.l0]
    rw [if_neg (by omega), List.drop_of_length_le (by omega), List.drop_of_length_le (by omega)]
    simp
  | succ n ih =>
    intro k i a b hab hi hm hk
    obtain ⟨k, rfl⟩ : ∃ m, k = m + 1 := ⟨k - 1, by omega⟩
    have ea : a.drop i = rd a i :: a.drop (i + 1) := by
      rw [List.drop_eq_getElem_cons (by omega)]
      simp [rd, List.getD_eq_getElem?_getD, List.getElem?_eq_getElem (show i < a.length by omega)]
    have eb : b.drop i = rd b i :: b.drop (i + 1) := by
      rw [List.drop_eq_getElem_cons (by omega)]
      simp [rd, List.getD_eq_getElem?_getD, List.getElem?_eq_getElem (show i < b.length by omega)]
    simp only [slices_Equal_byte_byte.l0]
    rw [if_pos (by omega), if_pos (by omega), if_pos (by omega), if_pos (by omega), ea, eb]
    by_cases h : rd a i = rd b i
    · rw [if_pos h, wr (a := (i : Int) + 1) (by omega) (by omega), show (i : Int) + 1 = ((i + 1 : Nat) : Int) by omega, ih k (i + 1) a b hab (by omega) hm (by omega)]
      simp [h]
    · rw [if_neg h]
      simp [h]
theorem equal_is (k : Nat) (a b : List Int) (hm : a.length ≤ 9223372036854775806) (hk : a.length < k) : slices_Equal_byte_byte.f k a b = some (decide (a = b)) := by
  unfold slices_Equal_byte_byte.f
  by_cases h : a.length = b.length
  · rw [if_pos (by omega)]
    have := eq_loop a.length k 0 a b h (by omega) hm hk
    simpa using this
  · rw [if_neg (by omega), decide_eq_false (fun e => h (by rw [e]))]
theorem bytes_loop (n : Nat) : ∀ (k i : Nat) (a b : List Int), a.length = b.length → i + n = a.length → a.length ≤ 9223372036854775806 → n < k → spenceref01_Bytes.l0 k a b (a.length : Int) (i : Int) = some (decide (a.drop i = b.drop i)) := by
  induction n with
  | zero =>
    intro k i a b hab hi hm hk
    obtain ⟨k, rfl⟩ : ∃ m, k = m + 1 := ⟨k - 1, by omega⟩
    simp only [spenceref01_Bytes.l0]
    rw [if_neg (by omega), List.drop_of_length_le (by omega), List.drop_of_length_le (by omega)]
    simp
  | succ n ih =>
    intro k i a b hab hi hm hk
    obtain ⟨k, rfl⟩ : ∃ m, k = m + 1 := ⟨k - 1, by omega⟩
    have ea : a.drop i = rd a i :: a.drop (i + 1) := by
      rw [List.drop_eq_getElem_cons (by omega)]
      simp [rd, List.getD_eq_getElem?_getD, List.getElem?_eq_getElem (show i < a.length by omega)]
    have eb : b.drop i = rd b i :: b.drop (i + 1) := by
      rw [List.drop_eq_getElem_cons (by omega)]
      simp [rd, List.getD_eq_getElem?_getD, List.getElem?_eq_getElem (show i < b.length by omega)]
    simp only [spenceref01_Bytes.l0]
    rw [if_pos (by omega), if_pos (by omega), if_pos (by omega), if_pos (by omega), ea, eb]
    by_cases h : rd a i = rd b i
    · rw [if_pos h, wr (a := (i : Int) + 1) (by omega) (by omega), show (i : Int) + 1 = ((i + 1 : Nat) : Int) by omega, ih k (i + 1) a b hab (by omega) hm (by omega)]
      simp [h]
    · rw [if_neg h]
      simp [h]
theorem bytes_is (k : Nat) (a b : List Int) (hm : a.length ≤ 9223372036854775806) (hk : a.length < k) : spenceref01_Bytes.f k a b = some (decide (a = b)) := by
  unfold spenceref01_Bytes.f
  by_cases h : a.length = b.length
  · rw [if_pos (by omega)]
    have := bytes_loop a.length k 0 a b h (by omega) hm hk
    simpa using this
  · rw [if_neg (by omega), decide_eq_false (fun e => h (by rw [e]))]
theorem refseal_is (k : Nat) (l : List Int) (hl : Byt l) (hm : l.length ≤ 900000) (hk : l.length + 10 ≤ k) : spenceref01_Seal.f k l = some (l ++ le4 (sum (nb l))) := by
  unfold spenceref01_Seal.f
  rw [if_pos (by simp; omega), Option.bind_some, refsum_is k l hl (by omega) hk, Option.bind_some, Option.bind_some, if_pos (by simp; omega), List.nil_append]
  rfl
/-- What Open tells. -/
def opened (s : List Int) : List Int × Int :=
  if s.length < 4 then ([], 3) else if le4 (sum (nb (s.take (s.length - 4)))) = s.drop (s.length - 4) then (s.take (s.length - 4), 0) else ([], 4)
theorem open_is (k : Nat) (s : List Int) (hl : Byt s) (hm : s.length ≤ 900000) (hk : s.length + 10 ≤ k) : crc_Open.f k s = some (opened s) := by
  unfold crc_Open.f opened
  rw [wr (by omega) (by omega)]
  by_cases h : s.length < 4
  · rw [if_pos (by omega), if_pos h]
  · have e : ((s.length : Int) - 4).toNat = s.length - 4 := by omega
    have hb : Byt (s.take (s.length - 4)) := fun x hx => hl x (List.mem_of_mem_take hx)
    have hL : (s.take (s.length - 4)).length = s.length - 4 := by rw [List.length_take]; omega
    rw [if_neg (by omega), if_pos (by omega), if_pos (by omega), if_neg h, e, tail_is k _ hb (by omega) (by omega), Option.bind_some, equal_is k _ _ (by rw [le4_len]; omega) (by rw [le4_len]; omega), Option.bind_some]
    by_cases h2 : le4 (sum (nb (s.take (s.length - 4)))) = s.drop (s.length - 4)
    · rw [if_pos (decide_eq_true h2), if_pos h2]
      unfold slices_Clone_byte_byte.f
      rw [if_pos (by omega)]
      rfl
    · rw [if_neg (by simpa using h2), if_neg h2]
theorem open_seal (l : List Int) : opened (l ++ le4 (sum (nb l))) = (l, 0) := by
  unfold opened
  have h1 : (l ++ le4 (sum (nb l))).length - 4 = l.length := by rw [List.length_append, le4_len]; omega
  rw [if_neg (by rw [List.length_append, le4_len]; omega), h1, List.take_left, List.drop_left, if_pos rfl]
theorem sum_set (l : List Int) (hl : Byt l) (i : Nat) (hi : i < l.length) (x : Int) (hx : 0 ≤ x ∧ x ≤ 255) (hne : rd l i ≠ x) : sum (nb (l.set i x)) ≠ sum (nb l) := by
  have e1 : l.set i x = l.take i ++ x :: l.drop (i + 1) := by rw [List.set_eq_take_append_cons_drop, if_pos hi]
  have e2 : l = l.take i ++ rd l i :: l.drop (i + 1) := by
    have : l.drop i = rd l i :: l.drop (i + 1) := by
      rw [List.drop_eq_getElem_cons hi]
      simp [rd, List.getD_eq_getElem?_getD, List.getElem?_eq_getElem hi]
    rw [← this, List.take_append_drop]
  have hy : 0 ≤ rd l i ∧ rd l i ≤ 255 := by
    have := hl _ (List.getElem_mem hi)
    unfold rd
    rw [Int.toNat_natCast, List.getD_eq_getElem?_getD, List.getElem?_eq_getElem hi]
    exact this
  intro h
  have hm := xor_left_inj h
  rw [e1] at hm
  have hr : nb l = nb (l.take i) ++ (rd l i).toNat :: nb (l.drop (i + 1)) := by
    conv => lhs; rw [e2]
    simp [nb]
  have hl2 : nb (l.take i ++ x :: l.drop (i + 1)) = nb (l.take i) ++ x.toNat :: nb (l.drop (i + 1)) := by simp [nb]
  rw [hr, hl2] at hm
  refine many_one 4294967295 (nb (l.take i)) (nb (l.drop (i + 1))) x.toNat (rd l i).toNat (by decide) (nb_lt (fun z hz => hl z (List.mem_of_mem_take hz))) (nb_lt (fun z hz => hl z (List.mem_of_mem_drop hz))) (by omega) (by omega) ?_ hm
  omega

theorem opened_other (l : List Int) (hl : Byt l) (i : Nat) (hi : i < l.length + 4) (x : Int) (hx : 0 ≤ x ∧ x ≤ 255) (hne : rd (l ++ le4 (sum (nb l))) i ≠ x) :
    (opened ((l ++ le4 (sum (nb l))).set i x)).2 = 4 ∧ (i < l.length → sum (nb (((l ++ le4 (sum (nb l))).set i x).take l.length)) ≠ sum (nb l)) := by
  have hlen : ((l ++ le4 (sum (nb l))).set i x).length = l.length + 4 := by rw [List.length_set, List.length_append, le4_len]
  have hop : ∀ s : List Int, s.length = l.length + 4 → le4 (sum (nb (s.take l.length))) ≠ s.drop l.length → (opened s).2 = 4 := by
    intro s hs h
    unfold opened
    rw [if_neg (by omega), show s.length - 4 = l.length by omega, if_neg h]
  by_cases h : i < l.length
  · have ht : ((l ++ le4 (sum (nb l))).set i x).take l.length = l.set i x := by rw [List.set_append_left _ _ h, List.take_left' (by rw [List.length_set])]
    have hd : ((l ++ le4 (sum (nb l))).set i x).drop l.length = le4 (sum (nb l)) := by rw [List.set_append_left _ _ h, List.drop_left' (by rw [List.length_set])]
    have hr : rd (l ++ le4 (sum (nb l))) i = rd l i := by
      unfold rd
      rw [Int.toNat_natCast, List.getD_eq_getElem?_getD, List.getD_eq_getElem?_getD, List.getElem?_append_left h]
    rw [hr] at hne
    have hs := sum_set l hl i h x hx hne
    have hB : Byt (l.set i x) := by
      intro y hy
      rcases List.mem_or_eq_of_mem_set hy with h1 | h1
      · exact hl y h1
      · rw [h1]; exact hx
    refine ⟨hop _ hlen ?_, fun _ => by rw [ht]; exact hs⟩
    rw [ht, hd]
    intro he
    exact hs (le4_inj (sum_lt (nb_lt hB)) (sum_lt (nb_lt hl)) he)
  · have ht : ((l ++ le4 (sum (nb l))).set i x).take l.length = l := by rw [List.set_append_right _ _ (by omega), List.take_left]
    have hd : ((l ++ le4 (sum (nb l))).set i x).drop l.length = (le4 (sum (nb l))).set (i - l.length) x := by rw [List.set_append_right _ _ (by omega), List.drop_left]
    refine ⟨hop _ hlen ?_, fun h' => absurd h' h⟩
    rw [ht, hd]
    intro he
    apply hne
    have hi2 : i - l.length < (le4 (sum (nb l))).length := by rw [le4_len]; omega
    unfold rd
    rw [Int.toNat_natCast, List.getD_eq_getElem?_getD, List.getElem?_append_right (by omega), he, List.getElem?_set_self hi2]
    rfl

end Go.Proofs.Ytkmanjfmffdcbaa.CrcFacts

/- Numbers laid as bytes, and read of them, as the printed functions do. -/
namespace Go.Proofs.Ytkmanjfmffdcbaa.NumFacts
open Go.RowKit Go.Proofs.YtkmanjfmffdcbaaW.PrintWords Go.Proofs.YtkmanjfmffdcbaaW.PrintLast Go.Proofs.YtkmanjfmffdcbaaW.PrintMore Go.Proofs.Ytkmanjfmffdcbaa.QFrame Go.Proofs.Ytkmanjfmffdcbaa.NumMath

theorem shr8 (n i : Nat) (hi : i ≤ 7) : shr .u64 (n : Int) (8 * (i : Int)) = ((n / 256 ^ i : Nat) : Int) := by
  unfold shr
  have e : (8 * (i : Int)).toNat = 8 * i := by omega
  rw [e, show IntKind.u64.bits = 64 from rfl, Nat.min_eq_left (by omega), show (256 : Nat) = 2 ^ 8 from rfl, ← Nat.pow_mul]
  norm_cast
theorem put_loop (j : Nat) : ∀ (k n : Nat) (l : List Int), j ≤ 8 → l.length + j ≤ 1000010 → j < k → nums_Put.l0 k (n : Int) l ((j : Int) - 1) = some (l ++ bb n j) := by
  induction j with
  | zero =>
    intro k n l hj hl hk
    obtain ⟨k, rfl⟩ : ∃ m, k = m + 1 := ⟨k - 1, by omega⟩
    simp only [nums_Put.l0]
    rw [if_neg (by omega)]
    simp [bb]
  | succ j ih =>
    intro k n l hj hl hk
    obtain ⟨k, rfl⟩ : ∃ m, k = m + 1 := ⟨k - 1, by omega⟩
    simp only [nums_Put.l0]
    rw [if_pos (by omega), show ((j + 1 : Nat) : Int) - 1 = (j : Int) by omega, wr (a := 8 * (j : Int)) (by omega) (by omega), if_pos (by omega), if_pos (by omega), wr (a := (j : Int) - 1) (by omega) (by omega), shr8 n j (by omega), ih k n _ (by omega) (by simp; omega) (by omega), List.append_assoc]
    simp [bb]
theorem put_is (k n m : Nat) (l : List Int) (hm : m ≤ 8) (hl : l.length ≤ 1000000) (hk : 9 ≤ k) : nums_Put.f k l (n : Int) (m : Int) = some (l ++ bb n m) := by
  unfold nums_Put.f slices_Clone_byte_byte.f
  rw [if_pos (by omega), Option.bind_some]
  have e : mn (mx (m : Int) 0) 8 = (m : Int) := by unfold mn mx; split <;> split <;> omega
  rw [e]
  exact put_loop m k n l hm (by omega) (by omega)
theorem beOr_from (l : List Int) (hl : Byt l) : ∀ a : Nat, a < 256 ^ (8 - l.length) → l.length ≤ 8 → beOr l (a : Int) = ((beFrom a l : Nat) : Int) := by
  induction l with
  | nil => intro a _ _; rfl
  | cons x l ih =>
    intro a ha h8
    have hx := hl x (by simp)
    have hl' : Byt l := fun y hy => hl y (by simp [hy])
    simp only [List.length_cons] at ha h8
    have ha2 : a < 2 ^ 56 := Nat.lt_of_lt_of_le ha (by
      rw [show (2 : Nat) ^ 56 = 256 ^ 7 by decide]
      exact Nat.pow_le_pow_right (by decide) (by omega))
    obtain ⟨x, rfl⟩ := Int.eq_ofNat_of_zero_le hx.1
    show beOr l (Go.bits .or .u64 (IntKind.u64.wrap ((a : Int) * 256)) (IntKind.u64.wrap (x : Int))) = _
    rw [or_add a x ha2 (by omega)]
    have hstep : a * 256 + x < 256 ^ (8 - l.length) := by
      rw [show 8 - l.length = (8 - (l.length + 1)) + 1 by omega, Nat.pow_succ]
      omega
    exact ih hl' _ hstep (by omega)
theorem beOr_is (l : List Int) (hl : Byt l) (h8 : l.length ≤ 8) : beOr l 0 = ((be l : Nat) : Int) :=
  beOr_from l hl 0 (Nat.pow_pos (by decide)) h8
end Go.Proofs.Ytkmanjfmffdcbaa.NumFacts

/- Numbers laid as bytes, as the document lays them. -/
namespace Go.Proofs.Ytkmanjfmffdcbaa.NumFacts
open Go.RowKit Go.Proofs.YtkmanjfmffdcbaaW.PrintWords Go.Proofs.YtkmanjfmffdcbaaW.PrintLast Go.Proofs.YtkmanjfmffdcbaaW.PrintMore Go.Proofs.Ytkmanjfmffdcbaa.QFrame Go.Proofs.Ytkmanjfmffdcbaa.NumMath
theorem lay_loop (d : Nat) : ∀ (k n c i : Nat) (l : List Int), i + d = 8 → c ≤ 8 → l.length + d ≤ 1000000 → d < k → spenceref01_Lay.l0 k (n : Int) (c : Int) l (i : Int) = some (l ++ bb n (min c d)) := by
  induction d with
  | zero =>
    intro k n c i l hi hc hl hk
    obtain ⟨k, rfl⟩ : ∃ m, k = m + 1 := ⟨k - 1, by omega⟩
    simp only [spenceref01_Lay.l0]
    rw [if_neg (by omega), Nat.min_zero]
    simp [bb]
  | succ d ih =>
    intro k n c i l hi hc hl hk
    obtain ⟨k, rfl⟩ : ∃ m, k = m + 1 := ⟨k - 1, by omega⟩
    simp only [spenceref01_Lay.l0]
    have e1 : wrap64 (8 * (i : Int)) = 8 * (i : Int) := wr (by omega) (by omega)
    have e2 : wrap64 (56 - 8 * (i : Int)) = 8 * (d : Int) := by rw [wr (by omega) (by omega)]; omega
    rw [if_pos (by omega), wr (a := 8 - (c : Int)) (by omega) (by omega), e1, e2, wr (a := (i : Int) + 1) (by omega) (by omega), show (i : Int) + 1 = ((i + 1 : Nat) : Int) by omega]
    by_cases h : (i : Int) ≥ 8 - (c : Int)
    · rw [if_pos h, if_pos (by omega), if_pos (by omega), shr8 n d (by omega), ih k n c (i + 1) _ (by omega) hc (by simp; omega) (by omega), Nat.min_eq_right (by omega), Nat.min_eq_right (by omega), List.append_assoc]
      simp [bb]
    · rw [if_neg h, ih k n c (i + 1) _ (by omega) hc (by omega) (by omega), Nat.min_eq_left (by omega), Nat.min_eq_left (by omega)]
theorem lay_is (k n c : Nat) (hc : c ≤ 8) (hk : 9 ≤ k) : spenceref01_Lay.f k (n : Int) (c : Int) = some (bb n c) := by
  have h := lay_loop 8 k n c 0 [] rfl hc (by simp) (by omega)
  rw [Nat.min_eq_left hc, List.nil_append] at h
  exact h
end Go.Proofs.Ytkmanjfmffdcbaa.NumFacts

/- What a frame of bytes, and the record of a frame's bytes, come to, in plain words. -/
namespace Go.Proofs.Ytkmanjfmffdcbaa.FrameFacts
open Go.RowKit Go.Proofs.YtkmanjfmffdcbaaW.PrintWords Go.Proofs.YtkmanjfmffdcbaaW.PrintLast Go.Proofs.YtkmanjfmffdcbaaW.PrintMore Go.Proofs.Ytkmanjfmffdcbaa.QFrame Go.Proofs.Ytkmanjfmffdcbaa.NumMath Go.Proofs.Ytkmanjfmffdcbaa.NumFacts
open Go.Proofs.Ytkmanjfmffdcbaa.CrcFacts (le4 le4_len le4_byt sum nb opened open_is seal_is refseal_is bytes_is)

theorem fits_is (a b c : Int) : nums_Fits.f a b c = some (decide (b ≤ a ∧ a ≤ c)) := by
  unfold nums_Fits.f
  by_cases h : a ≥ b
  · rw [if_pos h]; congr 1; exact decide_eq_decide.2 ⟨fun h2 => ⟨h, h2⟩, fun h2 => h2.2⟩
  · rw [if_neg h, decide_eq_false (by omega)]
theorem number_loop (d : Nat) : ∀ (k i : Nat) (l : List Int), Byt l → l.length ≤ 8 → i + d = l.length → d < k → spenceref11_number.l0 k ((be (l.take i) : Nat) : Int) l (l.length : Int) (i : Int) = some ((be l : Nat) : Int) := by
  induction d with
  | zero =>
    intro k i l hl h8 hi hk
    obtain ⟨k, rfl⟩ : ∃ m, k = m + 1 := ⟨k - 1, by omega⟩
    simp only [spenceref11_number.l0]
    rw [if_neg (by omega), List.take_of_length_le (by omega)]
  | succ d ih =>
    intro k i l hl h8 hi hk
    obtain ⟨k, rfl⟩ : ∃ m, k = m + 1 := ⟨k - 1, by omega⟩
    have hlt : i < l.length := by omega
    have hr : rd l (i : Int) = l[i] := by simp [rd, List.getD_eq_getElem?_getD, List.getElem?_eq_getElem hlt]
    have hx := hl _ (List.getElem_mem hlt)
    have hb : be (l.take i) < 256 ^ 7 := Nat.lt_of_lt_of_le (be_lt _ (hl.take i)) (Nat.pow_le_pow_right (by decide) (by rw [List.length_take]; omega))
    have hs : be (l.take (i + 1)) = be (l.take i) * 256 + (l[i]).toNat := by
      rw [List.take_succ_eq_append_getElem hlt, be, beFrom, List.foldl_append]
      rfl
    simp only [spenceref11_number.l0]
    rw [if_pos (by omega), if_pos (by omega), if_pos (by omega), hr, u64_wrap (l[i]) (by omega) (by omega), u64_wrap (((be (l.take i) : Nat) : Int) * 256) (by omega) (by omega), u64_wrap _ (by omega) (by omega), wr (a := (i : Int) + 1) (by omega) (by omega), show (i : Int) + 1 = ((i + 1 : Nat) : Int) by omega,
      show (((be (l.take i) : Nat) : Int) * 256 + l[i]) = ((be (l.take (i + 1)) : Nat) : Int) by rw [hs]; omega]
    exact ih k (i + 1) l hl h8 (by omega) (by omega)
theorem number_is (k : Nat) (l : List Int) (hl : Byt l) (h8 : l.length ≤ 8) (hk : l.length < k) : spenceref11_number.f k l = some ((be l : Nat) : Int) :=
  number_loop l.length k 0 l hl h8 (by omega) hk
/-- How many bytes of data a frame says that it has. -/
def dl (l : List Int) : Nat := be ((l.drop 2).take 2)
theorem dl_lt (l : List Int) (hl : Byt l) : dl l < 65536 := by
  have h := be_lt _ ((hl.drop 2).take 2)
  exact Nat.lt_of_lt_of_le h (Nat.le_trans (Nat.pow_le_pow_right (by decide) (show ((l.drop 2).take 2).length ≤ 2 by rw [List.length_take]; omega)) (by decide))
/-- The begin of bytes: 0: it may be a frame; 13: an end; 3: no frame. -/
def head (l : List Int) : Int := if l.length = 0 then 13 else if rd l 0 = 255 then 13 else if rd l 0 = 165 ∧ 16 ≤ l.length ∧ dl l ≤ 4096 ∧ dl l + 16 ≤ l.length then 0 else 3
/-- The record of bytes. -/
def parsed (l : List Int) : Int × Int × List Int × Int × Int :=
  if head l = 0 then (if le4 (sum (nb (l.take (dl l + 12)))) = (l.drop (dl l + 12)).take 4 then (rd l 1, ((be ((l.drop 4).take 8) : Nat) : Int), (l.take (dl l + 12)).drop 12, ((dl l + 16 : Nat) : Int), 0) else (0, 0, [], 0, 4)) else (0, 0, [], 0, head l)
theorem get2 (l : List Int) (hl : Byt l) (h : 16 ≤ l.length) : nums_Get.f l 2 2 = some (((dl l : Nat) : Int), true) := by
  unfold nums_Get.f
  rw [if_pos (by omega)]
  show some (beOr ((l.drop 2).take 2) 0, true) = _
  rw [beOr_is _ ((hl.drop 2).take 2) (by rw [List.length_take]; omega)]
  rfl
theorem size_is (l : List Int) (hl : Byt l) : frame_size.f l = some (if head l = 0 then (((dl l + 16 : Nat) : Int), 0) else (0, head l)) := by
  unfold frame_size.f head
  have hd := dl_lt l hl
  by_cases h0 : l.length = 0
  · rw [if_pos (by omega), if_pos h0, if_neg (by decide)]
  · rw [if_neg (by omega), if_pos (by omega), if_neg h0]
    by_cases h1 : rd l 0 = 255
    · rw [if_pos h1, if_pos h1, if_neg (by decide)]
    · rw [if_neg h1, if_neg h1]
      by_cases h2 : rd l 0 = 165
      · rw [if_pos h2]
        by_cases h3 : 16 ≤ l.length
        · rw [if_pos (by omega), get2 l hl h3, Option.bind_some]
          simp only
          rw [wr (a := ((dl l : Nat) : Int)) (by omega) (by omega)]
          unfold frame_Size.f
          rw [fits_is, Option.bind_some]
          by_cases h4 : dl l ≤ 4096
          · rw [if_pos (decide_eq_true (by omega)), wr (a := ((dl l : Nat) : Int) + 16) (by omega) (by omega), Option.bind_some, if_neg (by omega)]
            by_cases h5 : dl l + 16 ≤ l.length
            · rw [if_neg (by omega), if_pos (c := rd l 0 = 165 ∧ _) ⟨h2, h3, h4, h5⟩, if_pos rfl]; rfl
            · rw [if_pos (by omega), if_neg (c := rd l 0 = 165 ∧ _) (fun x => h5 x.2.2.2), if_neg (by decide)]
          · rw [if_neg (by rw [decide_eq_true_iff]; omega), Option.bind_some, if_pos rfl, if_neg (c := rd l 0 = 165 ∧ _) (fun x => h4 x.2.2.1), if_neg (by decide)]
        · rw [if_neg (by omega), if_neg (c := rd l 0 = 165 ∧ _) (fun x => h3 x.2.1), if_neg (by decide)]
      · rw [if_neg h2, if_neg (c := rd l 0 = 165 ∧ _) (fun x => h2 x.1), if_neg (by decide)]
theorem head_zero {l : List Int} (h : head l = 0) : rd l 0 = 165 ∧ 16 ≤ l.length ∧ dl l ≤ 4096 ∧ dl l + 16 ≤ l.length := by
  unfold head at h
  by_cases h0 : l.length = 0
  · rw [if_pos h0] at h; cases h
  · rw [if_neg h0] at h
    by_cases h1 : rd l 0 = 255
    · rw [if_pos h1] at h; cases h
    · rw [if_neg h1] at h
      by_cases h2 : rd l 0 = 165 ∧ 16 ≤ l.length ∧ dl l ≤ 4096 ∧ dl l + 16 ≤ l.length
      · exact h2
      · rw [if_neg h2] at h; cases h
theorem get_is (k : Nat) (l : List Int) (hl : Byt l) (_ : l.length ≤ 800000) (hk : l.length + 40 ≤ k) : frame_Get.f k l = some (parsed l) := by
  unfold frame_Get.f parsed
  rw [size_is l hl, Option.bind_some]
  by_cases h : head l = 0
  · obtain ⟨_, h16, h4, h5⟩ := head_zero h
    rw [if_pos h, if_pos h]
    simp only
    rw [if_pos trivial, if_pos (by omega), Int.toNat_natCast]
    have hT : (l.take (dl l + 16)).length = dl l + 16 := by rw [List.length_take]; omega
    rw [open_is k _ (hl.take _) (by omega) (by omega), Option.bind_some]
    have hO : opened (l.take (dl l + 16)) = if le4 (sum (nb (l.take (dl l + 12)))) = (l.drop (dl l + 12)).take 4 then (l.take (dl l + 12), 0) else ([], 4) := by
      unfold opened
      rw [if_neg (by rw [hT]; omega), hT, show dl l + 16 - 4 = dl l + 12 by omega, List.take_take, Nat.min_eq_left (by omega), List.drop_take, show dl l + 16 - (dl l + 12) = 4 by omega]
    rw [hO]
    by_cases hs : le4 (sum (nb (l.take (dl l + 12)))) = (l.drop (dl l + 12)).take 4
    · rw [if_pos hs, if_pos hs]
      simp only
      have hx : (l.take (dl l + 12)).length = dl l + 12 := by rw [List.length_take]; omega
      have r1 : rd (l.take (dl l + 12)) 1 = rd l 1 := by
        unfold rd
        rw [List.getD_eq_getElem?_getD, List.getD_eq_getElem?_getD, List.getElem?_take, if_pos (by show (1 : Int).toNat < _; rw [show (1 : Int).toNat = 1 from rfl]; omega)]
      have r2 : ((l.take (dl l + 12)).drop 4).take 8 = (l.drop 4).take 8 := by
        rw [List.drop_take, List.take_take, Nat.min_eq_left (by omega)]
      rw [if_pos trivial, if_pos (by omega), r1, r2, beOr_is _ ((hl.drop 4).take 8) (by rw [List.length_take]; omega)]
    · rw [if_neg hs, if_neg hs]
      simp only
      rw [if_neg (by decide)]
  · rw [if_neg h, if_neg h]
    simp only
    rw [if_neg h]
theorem parse_is (k : Nat) (l : List Int) (hl : Byt l) (hm : l.length ≤ 800000) (hk : l.length + 40 ≤ k) : spenceref11_Parse.f (k + 3) l = some (parsed l) := by
  have hd := dl_lt l hl
  have J2 : 16 ≤ l.length → dl l ≤ 4096 → dl l + 16 ≤ l.length → rd l 0 = 165 → spenceref11_Parse.j2 (k + 1) l ((dl l : Nat) : Int) false = some (parsed l) := by
    intro h16 h4 h5 h165
    have hz : head l = 0 := by
      unfold head
      rw [if_neg (by omega), if_neg (by omega), if_pos ⟨h165, h16, h4, h5⟩]
    rw [spenceref11_Parse.j2, if_neg (by decide), wr (a := 12 + ((dl l : Nat) : Int)) (by omega) (by omega), wr (a := 16 + ((dl l : Nat) : Int)) (by omega) (by omega), wr (a := ((dl l : Nat) : Int) + 16) (by omega) (by omega), if_pos (by omega), if_pos (by omega), if_pos (by omega),
      show (12 + ((dl l : Nat) : Int)).toNat = dl l + 12 by omega, show (16 + ((dl l : Nat) : Int)).toNat = dl l + 16 by omega]
    have hx : (l.take (dl l + 12)).length = dl l + 12 := by rw [List.length_take]; omega
    rw [refseal_is k _ (hl.take _) (by omega) (by omega), Option.bind_some, if_pos (by omega), if_pos (by omega), bytes_is k _ _ (by rw [List.length_append, le4_len]; omega) (by rw [List.length_append, le4_len]; omega), Option.bind_some]
    have hsplit : l.take (dl l + 16) = l.take (dl l + 12) ++ (l.drop (dl l + 12)).take 4 := by
      have := List.take_add (l := l) (i := dl l + 12) (j := 4)
      rw [show dl l + 12 + 4 = dl l + 16 by omega] at this
      exact this
    unfold parsed
    rw [if_pos hz, hsplit]
    by_cases hs : le4 (sum (nb (l.take (dl l + 12)))) = (l.drop (dl l + 12)).take 4
    · rw [if_pos (decide_eq_true (by rw [hs])), if_pos hs, if_pos (by omega), if_pos (by omega), if_pos (by omega), List.drop_take (i := 4), number_is k _ ((hl.drop 4).take _) (by rw [List.length_take]; omega) (by rw [List.length_take]; omega), Option.bind_some, if_pos (by simp; omega), List.nil_append]
      rfl
    · rw [if_neg (by
        rw [decide_eq_true_iff]
        intro e
        exact hs (List.append_cancel_left e)), if_neg hs]
  have J1 : ∀ b : Bool, (b = true → head l = 3) → (b = false → 16 ≤ l.length ∧ rd l 0 = 165) → spenceref11_Parse.j1 (k + 2) l b = some (parsed l) := by
    intro b h1 h2
    rw [spenceref11_Parse.j1]
    cases b with
    | true =>
      have := h1 rfl
      rw [if_pos rfl]
      unfold parsed
      rw [if_neg (by omega), this]
    | false =>
      obtain ⟨h16, h165⟩ := h2 rfl
      rw [if_neg (by decide), if_pos (by omega), if_pos (by omega), List.drop_take, number_is (k + 1) _ ((hl.drop 2).take _) (by rw [List.length_take]; omega) (by rw [List.length_take]; omega), Option.bind_some, ← show dl l = be ((l.drop 2).take (4 - 2)) from rfl, wr (a := ((dl l : Nat) : Int)) (by omega) (by omega), wr (a := ((dl l : Nat) : Int) + 16) (by omega) (by omega)]
      have bad : ¬ (dl l ≤ 4096 ∧ dl l + 16 ≤ l.length) → spenceref11_Parse.j2 (k + 1) l ((dl l : Nat) : Int) true = some (parsed l) := by
        intro hb
        have hz : head l = 3 := by
          unfold head
          rw [if_neg (by omega), if_neg (by omega), if_neg (fun x => hb ⟨x.2.2.1, x.2.2.2⟩)]
        rw [spenceref11_Parse.j2, if_pos rfl]
        unfold parsed
        rw [if_neg (by omega), hz]
      by_cases h4 : ((dl l : Nat) : Int) > 4096
      · rw [if_pos h4]; exact bad (by omega)
      · rw [if_neg h4]
        by_cases h5 : ((dl l : Nat) : Int) + 16 > (l.length : Int)
        · rw [decide_eq_true h5]; exact bad (by omega)
        · rw [decide_eq_false h5]; exact J2 h16 (by omega) (by omega) h165
  unfold spenceref11_Parse.f
  by_cases h0 : l.length = 0
  · rw [if_pos (by omega), spenceref11_Parse.j0, if_pos rfl]
    have hz : head l = 13 := by unfold head; rw [if_pos h0]
    unfold parsed
    rw [if_neg (by omega), hz]
  · rw [if_neg (by omega), if_pos (by omega), spenceref11_Parse.j0]
    by_cases h1 : rd l 0 = 255
    · rw [if_pos (beq_iff_eq.2 h1)]
      have hz : head l = 13 := by unfold head; rw [if_neg h0, if_pos h1]
      unfold parsed
      rw [if_neg (by omega), hz]
    · rw [if_neg (by rw [beq_iff_eq]; exact h1), if_pos (by omega)]
      by_cases h2 : rd l 0 = 165
      · rw [if_pos h2]
        refine J1 _ (fun h => ?_) (fun h => ?_)
        · have := of_decide_eq_true h
          unfold head
          rw [if_neg h0, if_neg h1, if_neg (fun x => by omega)]
        · have := of_decide_eq_false h
          exact ⟨by omega, h2⟩
      · rw [if_neg h2]
        refine J1 _ (fun _ => ?_) (fun h => by cases h)
        unfold head
        rw [if_neg h0, if_neg h1, if_neg (fun x => h2 x.1)]
theorem same_is (k : Nat) (a b : Int) (l : List Int) (hm : l.length ≤ 9223372036854775806) (hk : l.length < k) : spencelaw13_same.f k a b l a b l = some true := by
  unfold spencelaw13_same.f
  rw [if_pos rfl, if_pos rfl, bytes_is k l l hm hk]
  simp
/-- A record, ahead of its sum. -/
def bare (kind seq : Int) (l : List Int) : List Int := [165, kind] ++ bb l.length 2 ++ bb seq.toNat 8 ++ l
theorem bare_len (kind seq : Int) (l : List Int) : (bare kind seq l).length = l.length + 12 := by simp [bare, bb_len]; omega
theorem bare_byt (kind seq : Int) (l : List Int) (hk : 0 ≤ kind ∧ kind ≤ 255) (hl : Byt l) : Byt (bare kind seq l) := by
  refine Byt.app (Byt.app (Byt.app ?_ (bb_byt _ _)) (bb_byt _ _)) hl
  intro x hx
  simp at hx
  rcases hx with h | h <;> omega
theorem put_frame (k : Nat) (kind seq : Int) (l : List Int) (hkd : 0 ≤ kind ∧ kind ≤ 255) (hs : 0 ≤ seq ∧ seq ≤ 18446744073709551615) (hl : Byt l) (hm : l.length ≤ 4096) (hk : l.length + 100 ≤ k) : frame_Put.f k kind seq l = some (bare kind seq l ++ le4 (sum (nb (bare kind seq l))), 0) := by
  obtain ⟨s, rfl⟩ := Int.eq_ofNat_of_zero_le hs.1
  unfold frame_Put.f
  rw [if_neg (by omega), u64_wrap _ (by omega) (by omega), show (2 : Int) = ((2 : Nat) : Int) from rfl, put_is k l.length 2 [165, kind] (by omega) (by simp) (by omega), Option.bind_some, show (8 : Int) = ((8 : Nat) : Int) from rfl, put_is k s 8 _ (by omega) (by simp [bb_len]) (by omega), Option.bind_some, if_pos (by simp [bb_len]; omega)]
  have e : [165, kind] ++ bb l.length 2 ++ bb s 8 ++ l = bare kind (s : Int) l := rfl
  rw [e, seal_is k _ (bare_byt kind (s : Int) l hkd hl) (by rw [bare_len]; omega) (by rw [bare_len]; omega)]
  rfl
theorem awake_is (k : Nat) (hk : 200 ≤ k) : spencelaw13_awake.f k = some true := by
  unfold spencelaw13_awake.f
  rw [put_frame k 2 1 [] (by decide) (by decide) (fun x hx => by cases hx) (by decide) (by simp; omega), Option.bind_some]
  rw [if_pos rfl, if_pos (by simp [bare_len, le4_len]), if_pos (by simp [bare_len, le4_len])]
  simp [bare, rd]
end Go.Proofs.Ytkmanjfmffdcbaa.FrameFacts

/- What the law FramePuts comes to. -/
namespace Go.Proofs.Ytkmanjfmffdcbaa.Pure
open Go.RowKit Go.Proofs.Ytkmanjfmffdcbaa.QFrame Go.Proofs.YtkmanjfmffdcbaaW.PrintWords Go.Proofs.YtkmanjfmffdcbaaW.PrintLast Go.Proofs.Ytkmanjfmffdcbaa.FrameFacts Go.Proofs.Ytkmanjfmffdcbaa.NumMath
open Go.Proofs.Ytkmanjfmffdcbaa.NumFacts (lay_is)
open Go.Proofs.Ytkmanjfmffdcbaa.CrcFacts (le4 le4_len le4_byt sum nb bytes_is refseal_is)

theorem fsize_is (n : Nat) (h : n ≤ 5000) : frame_Size.f (n : Int) = some (if n ≤ 4096 then (n : Int) + 16 else 0) := by
  unfold frame_Size.f
  rw [fits_is, Option.bind_some]
  by_cases h4 : n ≤ 4096
  · rw [if_pos (decide_eq_true (by omega)), wr (by omega) (by omega), if_pos h4]
  · rw [if_neg (by rw [decide_eq_true_iff]; omega), if_neg h4]
/-- A record with its sum. -/
def rec (kind seq : Int) (l : List Int) : List Int := bare kind seq l ++ le4 (sum (nb (bare kind seq l)))
theorem rec_len (kind seq : Int) (l : List Int) : (rec kind seq l).length = l.length + 16 := by rw [rec, List.length_append, bare_len, le4_len]
theorem rec_byt (kind seq : Int) (l : List Int) (hk : 0 ≤ kind ∧ kind ≤ 255) (hl : Byt l) : Byt (rec kind seq l) := (bare_byt kind seq l hk hl).app (le4_byt _)
theorem drop_app {a b : List Int} {n : Nat} (h : a.length = n) : (a ++ b).drop n = b := List.drop_left' h
theorem take_app {a b : List Int} {n : Nat} (h : a.length = n) : (a ++ b).take n = a := List.take_left' h
theorem get_rec (k : Nat) (kind seq : Int) (l rest : List Int) (hkd : 0 ≤ kind ∧ kind ≤ 255) (hs : 0 ≤ seq ∧ seq ≤ 18446744073709551615) (hl : Byt l) (hr : Byt rest) (hm : l.length ≤ 4096) (hrl : rest.length ≤ 500) (hk : 5000 ≤ k) :
    frame_Get.f k (rec kind seq l ++ rest) = some (kind, seq, l, ((l.length : Nat) : Int) + 16, 0) := by
  have hlen : (rec kind seq l ++ rest).length = l.length + 16 + rest.length := by rw [List.length_append, rec_len]
  rw [get_is k _ ((rec_byt kind seq l hkd hl).app hr) (by omega) (by omega)]
  congr 1
  obtain ⟨s, rfl⟩ := Int.eq_ofNat_of_zero_le hs.1
  have e : rec kind (s : Int) l ++ rest = [165, kind] ++ (bb l.length 2 ++ (bb s 8 ++ (l ++ (le4 (sum (nb (bare kind s l))) ++ rest)))) := by
    simp [rec, bare]
  have hdl : dl (rec kind (s : Int) l ++ rest) = l.length := by
    unfold dl
    rw [e, drop_app (a := [165, kind]) (n := 2) rfl, take_app (bb_len _ _), be_bb _ _ (by omega)]
  have r0 : rd (rec kind (s : Int) l ++ rest) 0 = 165 := by rw [e]; rfl
  have r1 : rd (rec kind (s : Int) l ++ rest) 1 = kind := by rw [e]; rfl
  have hh : head (rec kind (s : Int) l ++ rest) = 0 := by
    unfold head
    rw [if_neg (by omega), if_neg (by omega), if_pos ⟨r0, by omega, by omega, by omega⟩]
  have hseq : ((rec kind (s : Int) l ++ rest).drop 4).take 8 = bb s 8 := by
    rw [e, ← List.append_assoc, drop_app (by simp [bb_len]), take_app (bb_len _ _)]
  have ht : (rec kind (s : Int) l ++ rest).take (l.length + 12) = bare kind s l := by
    rw [rec, List.append_assoc, take_app (bare_len _ _ _)]
  have hd : ((rec kind (s : Int) l ++ rest).drop (l.length + 12)).take 4 = le4 (sum (nb (bare kind s l))) := by
    rw [rec, List.append_assoc, drop_app (bare_len _ _ _), take_app (le4_len _)]
  have hb12 : (bare kind (s : Int) l).drop 12 = l := by
    have : bare kind (s : Int) l = ([165, kind] ++ bb l.length 2 ++ bb s 8) ++ l := rfl
    rw [this, drop_app (by simp [bb_len])]
  unfold parsed
  rw [if_pos hh, hdl, ht, hd, if_pos rfl, r1, hseq, be_bb _ _ (by omega), hb12]
  simp
theorem ref_rec (k : Nat) (kind seq : Int) (l : List Int) (hkd : 0 ≤ kind ∧ kind ≤ 255) (hs : 0 ≤ seq ∧ seq ≤ 18446744073709551615) (hl : Byt l) (hm : l.length ≤ 4096) (hk : 5000 ≤ k) : spenceref11_Frame.f k kind seq l = some (rec kind seq l) := by
  obtain ⟨s, rfl⟩ := Int.eq_ofNat_of_zero_le hs.1
  unfold spenceref11_Frame.f
  rw [if_neg (by omega), Option.bind_some, u64_wrap _ (by omega) (by omega), show (2 : Int) = ((2 : Nat) : Int) from rfl, lay_is k l.length 2 (by omega) (by omega), Option.bind_some, if_pos (by simp [bb_len]), Option.bind_some, show (8 : Int) = ((8 : Nat) : Int) from rfl, lay_is k s 8 (by omega) (by omega), Option.bind_some, if_pos (by simp [bb_len]), Option.bind_some, if_pos (by simp [bb_len]; omega)]
  have e : [165, kind] ++ bb l.length 2 ++ bb s 8 ++ l = bare kind (s : Int) l := rfl
  rw [e, refseal_is k _ (bare_byt kind (s : Int) l hkd hl) (by rw [bare_len]; omega) (by rw [bare_len]; omega)]
  rfl
theorem same_eq (k : Nat) (a b c d : Int) (l m : List Int) (hl : Byt l) (hm : Byt m) (hk : l.length < k) (hx : l.length ≤ 6000) : ∃ r, frame_Same.f a b l c d m = some r ∧ spencelaw13_same.f k a b l c d m = some r := by
  unfold frame_Same.f spencelaw13_same.f
  by_cases h1 : a = c
  · rw [if_pos h1, if_pos h1]
    by_cases h2 : b = d
    · rw [if_pos h2, if_pos h2, bytes_is k l m (by omega) hk]
      refine ⟨decide (l = m), ?_, rfl⟩
      unfold bytes_Equal.f
      rw [Option.bind_some]
      congr 1
      have hin : ∀ {x y : List Int}, Byt x → Byt y → (strOfNums x).toList = (strOfNums y).toList → x = y := by
        intro x y hx hy h
        rw [Go.Lib.strOfNums_toList, Go.Lib.strOfNums_toList, Go.Lib.bytesOf, Go.Lib.bytesOf] at h
        induction x generalizing y with
        | nil => cases y with
          | nil => rfl
          | cons _ _ => simp at h
        | cons a x ih => cases y with
          | nil => simp at h
          | cons b y =>
            simp only [List.map_cons, List.cons.injEq] at h
            have ha := hx a (by simp)
            have hb := hy b (by simp)
            have hab := congrArg UInt8.toNat h.1
            simp only [UInt8.toNat_ofNat'] at hab
            have : a = b := by omega
            rw [this, ih (fun z hz => hx z (by simp [hz])) (fun z hz => hy z (by simp [hz])) h.2]
      by_cases h3 : l = m
      · subst h3; simp
      · rw [decide_eq_false h3, beq_eq_false_iff_ne]
        exact fun h => h3 (hin hl hm h)
    · rw [if_neg h2, if_neg h2]; exact ⟨_, rfl, rfl⟩
  · rw [if_neg h1, if_neg h1]; exact ⟨_, rfl, rfl⟩
theorem pages_loop (n p : Nat) (hp : 0 < p) (hpm : p ≤ 9223372036854775807) (hn : n ≤ 4096) (d : Nat) : ∀ (k i : Nat), (i = 0 ∨ (i - 1) * p < n + 16) → (n + 16 + p - 1) / p = i + d → d < k →
    spenceref11_Pages.l0 k (n : Int) (p : Int) (i : Int) = some (((n + 16 + p - 1) / p : Nat) : Int) := by
  have key : ∀ i : Nat, i * p < n + 16 ↔ i < (n + 16 + p - 1) / p := by
    intro i
    have h := Nat.le_div_iff_mul_le hp (x := i + 1) (y := n + 16 + p - 1)
    rw [Nat.add_mul, Nat.one_mul] at h
    omega
  have bound : ∀ i : Nat, (i = 0 ∨ (i - 1) * p < n + 16) → i * p ≤ 9223372036854775807 := by
    intro i hi
    rcases hi with rfl | hi
    · simp
    · match i with
      | 0 => simp
      | 1 => simp; exact hpm
      | i + 2 =>
        rw [show i + 2 - 1 = i + 1 by omega] at hi
        have h1 : (i + 1) * p = i * p + p := by rw [Nat.add_mul, Nat.one_mul]
        have h2 : (i + 2) * p = i * p + 2 * p := Nat.add_mul _ _ _
        omega
  have small : ∀ i : Nat, i ≤ (n + 16 + p - 1) / p → i ≤ 4112 := by
    intro i hi
    have h1 : i * p ≤ n + 16 + p - 1 := (Nat.le_div_iff_mul_le hp).1 hi
    match i with
    | 0 => omega
    | i + 1 =>
      rw [Nat.add_mul, Nat.one_mul] at h1
      have h2 : i * 1 ≤ i * p := Nat.mul_le_mul_left i hp
      omega
  induction d with
  | zero =>
    intro k i hi hd hk
    obtain ⟨k, rfl⟩ : ∃ m, k = m + 1 := ⟨k - 1, by omega⟩
    have hb := bound i hi
    have h1 := key i
    have hs := small i (by omega)
    have hc : (i : Int) * (p : Int) = ((i * p : Nat) : Int) := by simp
    rw [spenceref11_Pages.l0, hc, wr (a := ((i * p : Nat) : Int)) (by omega) (by omega), wr (a := (n : Int) + 16) (by omega) (by omega), if_neg (by omega)]
    congr 1
    omega
  | succ d ih =>
    intro k i hi hd hk
    obtain ⟨k, rfl⟩ : ∃ m, k = m + 1 := ⟨k - 1, by omega⟩
    have hb := bound i hi
    have h1 := (key i).2 (by omega)
    have hs := small i (by omega)
    have hc : (i : Int) * (p : Int) = ((i * p : Nat) : Int) := by simp
    rw [spenceref11_Pages.l0, hc, wr (a := ((i * p : Nat) : Int)) (by omega) (by omega), wr (a := (n : Int) + 16) (by omega) (by omega), if_pos (by omega), wr (a := (i : Int) + 1) (by omega) (by omega), show (i : Int) + 1 = ((i + 1 : Nat) : Int) by omega]
    exact ih k (i + 1) (.inr (by rw [Nat.add_sub_cancel]; exact h1)) (by omega) (by omega)
theorem ceil_is (D p : Nat) (hp : 0 < p) : (D + p - 1) / p = D / p + (if 0 < D % p then 1 else 0) := by
  have e := Nat.div_add_mod D p
  have hr := Nat.mod_lt D hp
  by_cases h : 0 < D % p
  · rw [if_pos h, show D + p - 1 = (D % p - 1) + p * (D / p + 1) by rw [Nat.mul_add, Nat.mul_one]; omega, Nat.add_mul_div_left _ _ hp, Nat.div_eq_of_lt (by omega)]
    omega
  · rw [if_neg h, show D + p - 1 = (p - 1) + p * (D / p) by omega, Nat.add_mul_div_left _ _ hp, Nat.div_eq_of_lt (by omega)]
    omega
theorem fpages_is (n p : Nat) (hp : 0 < p) (hn : n ≤ 4096) : frame_Pages.f (n : Int) (p : Int) = some (((n + 16 + p - 1) / p : Nat) : Int) := by
  unfold frame_Pages.f
  have hd : (n + 16) / p ≤ n + 16 := Nat.div_le_self _ _
  rw [if_neg (by omega), fsize_is n (by omega), if_pos hn, Option.bind_some, if_neg (by omega), Option.bind_some, show (n : Int) + 16 = ((n + 16 : Nat) : Int) by omega, ← Int.ofNat_tdiv, ← Int.ofNat_tmod, ceil_is _ _ hp]
  generalize (n + 16) / p = q at hd ⊢
  generalize (n + 16) % p = m
  rw [wr (a := (q : Int)) (by omega) (by omega), wr (a := (q : Int) + 1) (by omega) (by omega)]
  by_cases h : 0 < m
  · rw [if_pos (by omega), if_pos h]; congr 1
  · rw [if_neg (by omega), if_neg h]; congr 1
theorem big_page (n p : Nat) (hn : n ≤ 4096) (hp : 1048576 < p) : (n + 16 + p - 1) / p = 1 := by
  rw [ceil_is _ _ (by omega), Nat.div_eq_of_lt (by omega), Nat.mod_eq_of_lt (by omega), if_pos (by omega)]

theorem puts_j2 (k : Nat) (kind seq : Int) (l : List Int) (kind2 seq2 : Int) (l2 : List Int) (size pages : Int) (hkd : 0 ≤ kind ∧ kind ≤ 255) (hs : 0 ≤ seq ∧ seq ≤ 18446744073709551615) (hl : Byt l) (hl2 : Byt l2) (hm : l.length ≤ 4096)
    (hk : 6000 ≤ k) (hp : frame_Pages.f (l.length : Int) size = some pages) :
    spencelaw13_FramePuts.j2 (k + 1) size (rec kind seq l) 0 ((l.length : Int) + 16) 0 pages kind seq l kind2 seq2 l2 kind seq l = some true := by
  have hlen := rec_len kind seq l
  rw [spencelaw13_FramePuts.j2, if_pos rfl, ref_rec k kind seq l hkd hs hl hm (by omega), Option.bind_some, bytes_is k _ _ (by omega) (by omega), Option.bind_some, if_pos (decide_eq_true rfl), if_pos rfl, if_pos (by omega), same_is k _ _ l (by omega) (by omega), Option.bind_some, if_pos rfl,
    fsize_is _ (by omega), Option.bind_some, if_pos (by rw [if_pos hm]; omega), hp, Option.bind_some, if_pos rfl]
  obtain ⟨r, h1, h2⟩ := same_eq k kind seq kind2 seq2 l l2 hl hl2 (by omega) (by omega)
  rw [h1, h2]
  simp
theorem puts_pure (kind seq : Int) (l : List Int) (kind2 seq2 : Int) (l2 rest : List Int) (size : Int) (hkd : 0 ≤ kind ∧ kind ≤ 255) (hs : 0 ≤ seq ∧ seq ≤ 18446744073709551615) (hl : Byt l) (hl2 : Byt l2) (hr : Byt rest) (hz : size ≤ 9223372036854775807) :
    spencelaw13_FramePuts.f 7003 kind seq l kind2 seq2 l2 rest size = some true := by
  unfold spencelaw13_FramePuts.f
  rw [awake_is _ (by omega), Option.bind_some, if_pos rfl]
  by_cases h1 : (l.length : Int) > 5000
  · rw [if_pos h1, spencelaw13_FramePuts.j0, if_pos rfl]
  rw [if_neg h1]
  by_cases h2 : (l2.length : Int) > 5000
  · rw [if_pos h2, spencelaw13_FramePuts.j0, if_pos rfl]
  rw [if_neg h2, spencelaw13_FramePuts.j0]
  by_cases h3 : (rest.length : Int) > 500
  · rw [if_pos (decide_eq_true h3)]
  rw [if_neg (by rw [decide_eq_true_iff]; exact h3)]
  by_cases h4 : (l.length : Int) > 4096
  · have hp : frame_Put.f 7002 kind seq l = some ([], 10) := by unfold frame_Put.f; rw [if_pos h4]
    rw [hp, Option.bind_some, if_pos h4]
    dsimp only
    rw [if_pos rfl, if_pos (c := ((([] : List Int).length : Nat) : Int) = 0) rfl, fsize_is _ (by omega), if_neg (by omega)]
    rfl
  have hp : frame_Put.f 7002 kind seq l = some (rec kind seq l, 0) := put_frame 7002 kind seq l hkd hs hl (by omega) (by omega)
  have hlen := rec_len kind seq l
  rw [hp, Option.bind_some, if_neg h4]
  dsimp only
  rw [if_pos (by simp only [List.length_nil]; omega), Option.bind_some, List.nil_append, if_pos (by omega), get_rec 7002 kind seq l rest hkd hs hl hr (by omega) (by omega) (by omega), Option.bind_some]
  simp only
  by_cases h5 : size > 0
  · obtain ⟨p, rfl⟩ := Int.eq_ofNat_of_zero_le (show 0 ≤ size by omega)
    have hpg : spenceref11_Pages.f 7002 (l.length : Int) (p : Int) = some (((l.length + 16 + p - 1) / p : Nat) : Int) := by
      unfold spenceref11_Pages.f
      refine pages_loop l.length p (by omega) (by omega) (by omega) ((l.length + 16 + p - 1) / p) 7002 0 (.inl rfl) (by omega) ?_
      have h1 := ceil_is (l.length + 16) p (by omega)
      have h2 : (l.length + 16) / p ≤ l.length + 16 := Nat.div_le_self _ _
      split at h1 <;> omega
    have hfp := fpages_is l.length p (by omega) (by omega)
    rw [if_pos h5, hpg, Option.bind_some, spencelaw13_FramePuts.j1]
    by_cases h6 : (p : Int) > 1048576
    · rw [if_pos h6]
      rw [big_page l.length p (by omega) (by omega)] at hfp
      exact puts_j2 7000 kind seq l kind2 seq2 l2 p 1 hkd hs hl hl2 (by omega) (by omega) hfp
    · rw [if_neg h6]
      exact puts_j2 7000 kind seq l kind2 seq2 l2 p _ hkd hs hl hl2 (by omega) (by omega) hfp
  · rw [if_neg h5, spencelaw13_FramePuts.j1, if_neg (by omega)]
    refine puts_j2 7000 kind seq l kind2 seq2 l2 size 0 hkd hs hl hl2 (by omega) (by omega) ?_
    unfold frame_Pages.f
    rw [if_pos (by omega)]
theorem frame_puts_walk (k g : Int) (A : Option Addr) (c : Nat) (l : List Int) (k2 g2 : Int) (A2 : Option Addr) (c2 : Nat) (l2 : List Int) (B : Option Addr) (d : Nat) (b : List Int) (size : Int) (w : World) (hk : (Lit.int .u8 k).wf = true) (hg : (Lit.int .u64 g).wf = true)
    (hr : Kd.C (Kd.int .u8) w A l.length l) (hc : l.length ≤ c) (_ : l.length ≤ maxLen) (hw : ∀ n ∈ l, (Lit.int .u8 n).wf = true) (_ : (Lit.int .u8 k2).wf = true) (_ : (Lit.int .u64 g2).wf = true)
    (hr2 : Kd.C (Kd.int .u8) w A2 l2.length l2) (hc2 : l2.length ≤ c2) (_ : l2.length ≤ maxLen) (hw2 : ∀ n ∈ l2, (Lit.int .u8 n).wf = true)
    (hrb : Kd.C (Kd.int .u8) w B b.length b) (hcb : b.length ≤ d) (_ : b.length ≤ maxLen) (hwb : ∀ n ∈ b, (Lit.int .u8 n).wf = true) (_ : b.length * 1 ≤ 140737488351232) (hz : (Lit.int .i64 size).wf = true) :
    Calls Try.prog 5 #[.agg #[.int .u8 k, .int .u64 g, .slice A l.length c], .agg #[.int .u8 k2, .int .u64 g2, .slice A2 l2.length c2], .slice B b.length d, .int .i64 size] w fun e w' => e = .returned (.bool true) ∧ Below w.heap.size w w' :=
  spencelaw13_FramePuts.calls 7003 k g A c l k2 g2 A2 c2 l2 B d b size true w hr hc hr2 hc2 hrb hcb ⟨rfl⟩
    (puts_pure k g l k2 g2 l2 b size (Go.bounds_u8 hk) (Go.bounds_u64 hg) (fun y hy => Go.bounds_u8 (hw y hy)) (fun y hy => Go.bounds_u8 (hw2 y hy)) (fun y hy => Go.bounds_u8 (hwb y hy)) (Go.bounds_i64 hz).2)
end Go.Proofs.Ytkmanjfmffdcbaa.Pure

