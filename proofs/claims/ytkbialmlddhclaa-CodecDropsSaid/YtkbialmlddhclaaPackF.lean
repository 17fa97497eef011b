/- The parts of this proof, one after the other (wip/tools/scratch/packdrops.py). -/
import Derived.ProofKit
import Derived.Lib.SmallJoins
import Derived.Test.YtkbialmlddhclaaWMore
import Derived.Laws.BitsLemmas
import Derived.Tactics
import Derived.IntWalk
import Derived.Test.YtkbialmlddhclaaQCodecx3
import Derived.Test.YtkbialmlddhclaaQCodecx8
import Derived.Test.YtkbialmlddhclaaQCodecx18
import Derived.Test.YtkbialmlddhclaaQCodecx13
import Derived.Test.YtkbialmlddhclaaQCodecx10
import Derived.Test.YtkbialmlddhclaaQCodecx12
import Derived.Test.YtkbialmlddhclaaQCodecx6
import Derived.Test.YtkbialmlddhclaaQCodecx14
import Derived.Test.YtkbialmlddhclaaQCodecx15
import Derived.Test.YtkbialmlddhclaaQCodecx5
import Derived.OpenShut
import Derived.Test.YtkbialmlddhclaaPackB
import Derived.Test.YtkbialmlddhclaaPackD
/- How arguments of a law are opened to values: small facts for the rows. -/
namespace Go.Proofs.Ytkbialmlddhclaa.Opens
open Go.ChangeShapes Go.WideShapes Go.ChangeAt Go.RowKit Go.Joins Go.Deep Go.Proofs.YtkbialmlddhclaaW.PrintWords
section
variable {H : Type} {enc : TypeId × Value → H} {P : Program} {w : World} {base : Nat} {spare : Nat → Bool} {held : Bool}
theorem open_agg5 {r : Reach} {b0 : Nat} {t : TypeId} {f0 f1 f2 f3 f4 : Field} {v : Value} {d : DataW H} {p : List MemPlace} (hs : P.underlying t = some (.struct #[f0, f1, f2, f3, f4])) (hone : oneCellFields P #[f0, f1, f2, f3, f4] = true) (hC : P.cellsOf t = 5)
    (hv : Value.okWide P w r b0 t v) (h : DataW.Trod enc P w base spare held t v d p) :
    ∃ (v0 v1 v2 v3 v4 : Value) (y0 y1 y2 y3 y4 : DataW H × List MemPlace) (n : Nat), v = .agg #[v0, v1, v2, v3, v4] ∧ d = .agg [y0.1, y1.1, y2.1, y3.1, y4.1] ∧ p = y0.2 ++ (y1.2 ++ (y2.2 ++ (y3.2 ++ y4.2))) ∧
      DataW.trod enc P w base spare held n f0.type [v0] = some y0 ∧ DataW.trod enc P w base spare held n f1.type [v1] = some y1 ∧ DataW.trod enc P w base spare held n f2.type [v2] = some y2 ∧ DataW.trod enc P w base spare held n f3.type [v3] = some y3 ∧ DataW.trod enc P w base spare held n f4.type [v4] = some y4 := by
  obtain ⟨cs, rfl, hsz⟩ := okWide_struct hs hv
  obtain ⟨l⟩ := cs
  match l, hsz.trans hC with
  | [c0, c1, c2, c3, c4], _ =>
    obtain ⟨fuel, hf⟩ := h
    obtain ⟨xs, n, _, hx, _, hlen, hg⟩ := DataW.trod_struct hs hf
    obtain ⟨o0, k0⟩ := hone_of hone 0 f0 rfl
    obtain ⟨o1, k1⟩ := hone_of hone 1 f1 rfl
    obtain ⟨o2, k2⟩ := hone_of hone 2 f2 rfl
    obtain ⟨o3, k3⟩ := hone_of hone 3 f3 rfl
    obtain ⟨o4, k4⟩ := hone_of hone 4 f4 rfl
    match xs, hlen with
    | [y0, y1, y2, y3, y4], _ =>
      simp only [Prod.mk.injEq] at hx
      exact ⟨c0, c1, c2, c3, c4, y0, y1, y2, y3, y4, n, rfl, by simpa using hx.1, by simpa using hx.2, by simpa [Value.cells, o0, k0] using hg 0 f0 rfl, by simpa [Value.cells, o1, k1] using hg 1 f1 rfl, by simpa [Value.cells, o2, k2] using hg 2 f2 rfl, by simpa [Value.cells, o3, k3] using hg 3 f3 rfl, by simpa [Value.cells, o4, k4] using hg 4 f4 rfl⟩

/-- A slice of whole numbers, laid in one cell. -/
theorem cell_ints {t e : TypeId} {k : IntKind} {fuel : Nat} {u : Value} {x : DataW H × List MemPlace} (ht : P.underlying t = some (.slice e)) (he : P.underlying e = some (.int k)) (hC : P.cellsOf e = 1)
    (h : DataW.trod enc P w base spare held fuel t [u] = some x) :
    ∃ (A : Option Addr) (c : Nat) (l : List Int), [u] = [Value.slice A l.length c] ∧ Kd.C (Kd.int k) w A l.length l ∧ l.length ≤ c ∧ l.length ≤ maxLen ∧ (∀ n ∈ l, (Lit.int k n).wf = true) := by
  rcases open_ints ht he hC h with ⟨hcs, _⟩ | ⟨a, len, cap, zs, hcs, _, hl, hm, hz, _, hcell, hwz⟩
  · refine ⟨none, 0, [], hcs, ?_, Nat.le_refl _, Nat.zero_le _, fun n hn => by cases hn⟩
    exact Kd.C_of_reads (d := (0 : Int)) (h1 := fun _ => rfl) ⟨rfl, by simp, fun h => absurd h (by simp)⟩
  · have hlz : len ≤ zs.length := by
      rw [hz]
      split
      · exact hl
      · exact Nat.le_refl _
    have e : (zs.take len).length = len := by rw [List.length_take]; omega
    refine ⟨some a, cap, zs.take len, by rw [e]; exact hcs, ?_, by omega, by rw [e]; omega, fun n hn => hwz n (List.mem_of_mem_take hn)⟩
    refine Kd.C_of_reads (d := (0 : Int)) (h1 := fun _ => rfl) ⟨rfl, by rw [e]; unfold maxLen at hm; omega, fun _ => ⟨a, rfl, fun j hj => ?_⟩⟩
    rw [e] at hj
    rw [hcell j (by omega)]
    simp [List.getD_eq_getElem?_getD, hj]

/-- An argument that is a slice of whole numbers. -/
theorem row_ints {t e : TypeId} {k : IntKind} {A : Option Addr} {len c : Nat} {d : DataW H} {p : List MemPlace} (ht : P.underlying t = some (.slice e)) (he : P.underlying e = some (.int k)) (hC : P.cellsOf e = 1)
    (h : DataW.Trod enc P w base spare held t (.slice A len c) d p) :
    ∃ l : List Int, len = l.length ∧ Kd.C (Kd.int k) w A l.length l ∧ l.length ≤ c ∧ l.length ≤ maxLen ∧ (∀ n ∈ l, (Lit.int k n).wf = true) := by
  obtain ⟨fuel, hf⟩ := h
  obtain ⟨A', c', l, hu, h1, h2, h3, h4⟩ := cell_ints (u := .slice A len c) ht he hC hf
  simp only [List.cons.injEq, Value.slice.injEq, and_true] at hu
  obtain ⟨rfl, rfl, rfl⟩ := hu
  exact ⟨l, rfl, h1, h2, h3, h4⟩
end
end Go.Proofs.Ytkbialmlddhclaa.Opens

/- Numbers as bytes, the highest first: plain arithmetic. -/
namespace Go.Proofs.Ytkbialmlddhclaa.NumMath
open Go.RowKit
/-- Bytes: each is from 0 to 255. -/
def Byt (l : List Int) : Prop := ∀ x ∈ l, 0 ≤ x ∧ x ≤ 255
theorem Byt.take {l : List Int} (h : Byt l) (k : Nat) : Byt (l.take k) := fun x hx => h x (List.mem_of_mem_take hx)
theorem Byt.drop {l : List Int} (h : Byt l) (k : Nat) : Byt (l.drop k) := fun x hx => h x (List.mem_of_mem_drop hx)
theorem Byt.app {l m : List Int} (h : Byt l) (h' : Byt m) : Byt (l ++ m) := by
  intro x hx
  rcases List.mem_append.1 hx with h1 | h1
  · exact h x h1
  · exact h' x h1
/-- So many bytes of a number. -/
def bb (n : Nat) : Nat → List Int
  | 0 => []
  | m + 1 => ((n / 256 ^ m % 256 : Nat) : Int) :: bb n m
theorem bb_len (n m : Nat) : (bb n m).length = m := by
  induction m with
  | zero => rfl
  | succ m ih => simp [bb, ih]
theorem bb_byt (n m : Nat) : Byt (bb n m) := by
  induction m with
  | zero => intro x hx; cases hx
  | succ m ih =>
    intro x hx
    rcases List.mem_cons.1 hx with h | h
    · subst h; omega
    · exact ih x h
/-- Bytes as a number. -/
def beFrom (a : Nat) (l : List Int) : Nat := l.foldl (fun a x => a * 256 + x.toNat) a
def be (l : List Int) : Nat := beFrom 0 l
theorem be_bb_from (n m : Nat) : ∀ a, beFrom a (bb n m) = a * 256 ^ m + n % 256 ^ m := by
  induction m with
  | zero => intro a; simp [beFrom, bb, Nat.mod_one]
  | succ m ih =>
    intro a
    show beFrom (a * 256 + ((n / 256 ^ m % 256 : Nat) : Int).toNat) (bb n m) = _
    have hm : n % (256 ^ m * 256) = n % 256 ^ m + 256 ^ m * (n / 256 ^ m % 256) := Nat.mod_mul
    rw [ih, Int.toNat_natCast, Nat.add_mul, Nat.pow_succ, hm, Nat.mul_assoc, Nat.mul_comm 256 (256 ^ m), Nat.mul_comm (256 ^ m) (n / 256 ^ m % 256)]
    omega
theorem be_bb (n m : Nat) (h : n < 256 ^ m) : be (bb n m) = n := by
  unfold be
  rw [be_bb_from, Nat.mod_eq_of_lt h, Nat.zero_mul, Nat.zero_add]
theorem be_lt_from (l : List Int) (hl : Byt l) : ∀ a, beFrom a l < (a + 1) * 256 ^ l.length := by
  induction l with
  | nil => intro a; simp [beFrom]
  | cons x l ih =>
    intro a
    have hx := hl x (by simp)
    have h := ih (fun y hy => hl y (by simp [hy])) (a * 256 + x.toNat)
    show beFrom (a * 256 + x.toNat) l < _
    refine Nat.lt_of_lt_of_le h ?_
    rw [List.length_cons, Nat.pow_succ, Nat.mul_comm (256 ^ l.length) 256, ← Nat.mul_assoc]
    exact Nat.mul_le_mul_right _ (by omega)
theorem be_lt (l : List Int) (hl : Byt l) : be l < 256 ^ l.length := by
  have := be_lt_from l hl 0
  simpa [be] using this
theorem bb_be (l : List Int) (hl : Byt l) : bb (be l) l.length = l := by
  have key : ∀ (l : List Int), Byt l → ∀ a, bb (beFrom a l) l.length = l := by
    intro l
    induction l with
    | nil => intro _ a; rfl
    | cons x l ih =>
      intro hl a
      have hx := hl x (by simp)
      have hl' : Byt l := fun y hy => hl y (by simp [hy])
      show ((beFrom (a * 256 + x.toNat) l / 256 ^ l.length % 256 : Nat) : Int) :: bb (beFrom (a * 256 + x.toNat) l) l.length = x :: l
      rw [ih hl' (a * 256 + x.toNat)]
      congr 1
      have h1 : ∀ (l : List Int), Byt l → ∀ a, beFrom a l = a * 256 ^ l.length + be l := by
        intro l
        induction l with
        | nil => intro _ a; simp [beFrom, be]
        | cons y l ih2 =>
          intro hl a
          have hl' : Byt l := fun z hz => hl z (by simp [hz])
          show beFrom (a * 256 + y.toNat) l = a * 256 ^ (l.length + 1) + beFrom (0 * 256 + y.toNat) l
          rw [ih2 hl' (a * 256 + y.toNat), ih2 hl' (0 * 256 + y.toNat), Nat.pow_succ, Nat.add_mul, Nat.zero_mul, Nat.zero_add, Nat.mul_assoc, Nat.mul_comm 256]
          omega
      rw [h1 l hl' (a * 256 + x.toNat), Nat.mul_comm, Nat.mul_add_div (Nat.pow_pos (by decide)), Nat.div_eq_of_lt (be_lt l hl')]
      omega
  exact key l hl 0
theorem u64_wrap (n : Int) (h0 : 0 ≤ n) (h1 : n < 18446744073709551616) : IntKind.u64.wrap n = n := by
  simp [IntKind.wrap, IntKind.bits, IntKind.signed]
  omega
theorem wraps_u64 (n : Int) (h₀ : 0 ≤ n) (h₁ : n < 2 ^ 64) : IntKind.u64.wrap n = n := u64_wrap n h₀ (by omega)
theorem or_add (n x : Nat) (hn : n < 2 ^ 56) (hx : x < 256) : Go.bits .or .u64 (IntKind.u64.wrap ((n : Int) * 256)) (IntKind.u64.wrap (x : Int)) = ((n * 256 + x : Nat) : Int) := by
  rw [u64_wrap _ (by omega) (by omega), u64_wrap _ (by omega) (by omega), show ((n : Int) * 256) = ((n * 256 : Nat) : Int) by omega]
  rw [(bits_nat .u64 64 (by decide) wraps_u64 (n * 256) x (by omega) (by omega)).2]
  congr 1
  have := Nat.two_pow_add_eq_or_of_lt (i := 8) (b := x) (by omega) n
  rw [Nat.mul_comm n 256]
  exact this.symm
theorem wr {a : Int} (h1 : -9223372036854775808 ≤ a) (h2 : a ≤ 9223372036854775807) : wrap64 a = a := by unfold wrap64; omega
end Go.Proofs.Ytkbialmlddhclaa.NumMath

/- What numbers laid as bytes, and read of them, come to, in plain words. -/
namespace Go.Proofs.Ytkbialmlddhclaa.CodecFacts
open Go.RowKit Go.Proofs.YtkbialmlddhclaaW.PrintWords Go.Proofs.YtkbialmlddhclaaW.PrintLast Go.Proofs.YtkbialmlddhclaaW.PrintMore Go.Proofs.Ytkbialmlddhclaa.QCodec Go.Proofs.Ytkbialmlddhclaa.NumMath

theorem shr8 (n i : Nat) (hi : i ≤ 7) : shr .u64 (n : Int) (8 * (i : Int)) = ((n / 256 ^ i : Nat) : Int) := by
  unfold shr
  have e : (8 * (i : Int)).toNat = 8 * i := by omega
  rw [e, show IntKind.u64.bits = 64 from rfl, Nat.min_eq_left (by omega), show (256 : Nat) = 2 ^ 8 from rfl, ← Nat.pow_mul]
  norm_cast
theorem put_loop (j : Nat) : ∀ (k n : Nat) (l : List Int), j ≤ 8 → l.length + j ≤ 1000010 → j < k → nums_Put.l0 k (n : Int) l ((j : Int) - 1) = some (l ++ bb n j) := by
  induction j with
  | zero =>
    intro k n l hj hl hk
    obtain ⟨k, rfl⟩ : ∃ m, k = m + 1 := ⟨k - 1, by omega⟩
    simp only [nums_Put.l0]
    rw [if_neg (by omega)]
    simp [bb]
  | succ j ih =>
    intro k n l hj hl hk
    obtain ⟨k, rfl⟩ : ∃ m, k = m + 1 := ⟨k - 1, by omega⟩
    simp only [nums_Put.l0]
    rw [if_pos (by omega), show ((j + 1 : Nat) : Int) - 1 = (j : Int) by omega, wr (a := 8 * (j : Int)) (by omega) (by omega), if_pos (by omega), if_pos (by omega), wr (a := (j : Int) - 1) (by omega) (by omega), shr8 n j (by omega), ih k n _ (by omega) (by simp; omega) (by omega), List.append_assoc]
    simp [bb]
theorem put_is (k n m : Nat) (l : List Int) (hm : m ≤ 8) (hl : l.length ≤ 1000000) (hk : 9 ≤ k) : nums_Put.f k l (n : Int) (m : Int) = some (l ++ bb n m) := by
  unfold nums_Put.f slices_Clone_byte_byte.f
  rw [if_pos (by omega), Option.bind_some]
  have e : mn (mx (m : Int) 0) 8 = (m : Int) := by unfold mn mx; split <;> split <;> omega
  rw [e]
  exact put_loop m k n l hm (by omega) (by omega)
theorem lay_loop (d : Nat) : ∀ (k n c i : Nat) (l : List Int), i + d = 8 → c ≤ 8 → l.length + d ≤ 1000000 → d < k → spenceref01_Lay.l0 k (n : Int) (c : Int) l (i : Int) = some (l ++ bb n (min c d)) := by
  induction d with
  | zero =>
    intro k n c i l hi hc hl hk
    obtain ⟨k, rfl⟩ : ∃ m, k = m + 1 := ⟨k - 1, by omega⟩
    simp only [spenceref01_Lay.l0]
    rw [if_neg (by omega), Nat.min_zero]
    simp [bb]
  | succ d ih =>
    intro k n c i l hi hc hl hk
    obtain ⟨k, rfl⟩ : ∃ m, k = m + 1 := ⟨k - 1, by omega⟩
    simp only [spenceref01_Lay.l0]
    have e1 : wrap64 (8 * (i : Int)) = 8 * (i : Int) := wr (by omega) (by omega)
    have e2 : wrap64 (56 - 8 * (i : Int)) = 8 * (d : Int) := by rw [wr (by omega) (by omega)]; omega
    rw [if_pos (by omega), wr (a := 8 - (c : Int)) (by omega) (by omega), e1, e2, wr (a := (i : Int) + 1) (by omega) (by omega), show (i : Int) + 1 = ((i + 1 : Nat) : Int) by omega]
    by_cases h : (i : Int) ≥ 8 - (c : Int)
    · rw [if_pos h, if_pos (by omega), if_pos (by omega), shr8 n d (by omega), ih k n c (i + 1) _ (by omega) hc (by simp; omega) (by omega), Nat.min_eq_right (by omega), Nat.min_eq_right (by omega), List.append_assoc]
      simp [bb]
    · rw [if_neg h, ih k n c (i + 1) _ (by omega) hc (by omega) (by omega), Nat.min_eq_left (by omega), Nat.min_eq_left (by omega)]
theorem lay_is (k n c : Nat) (hc : c ≤ 8) (hk : 9 ≤ k) : spenceref01_Lay.f k (n : Int) (c : Int) = some (bb n c) := by
  have h := lay_loop 8 k n c 0 [] rfl hc (by simp) (by omega)
  rw [Nat.min_eq_left hc, List.nil_append] at h
  exact h
/-- An object's and a generation's bytes. -/
def begun (o g : Nat) : List Int := bb o 1 ++ bb g 4
theorem begun_len (o g : Nat) : (begun o g).length = 5 := by simp [begun, bb_len]
theorem begin_is (k o g : Nat) (ho : o < 2 ^ 63) (hg : g < 2 ^ 63) (hk : 9 ≤ k) : codec_begin.f k (o : Int) (g : Int) = some (begun o g) := by
  unfold codec_begin.f
  rw [u64_wrap _ (by omega) (by omega), u64_wrap _ (by omega) (by omega)]
  rw [show (1 : Int) = ((1 : Nat) : Int) from rfl, put_is k o 1 [] (by omega) (by simp) hk, Option.bind_some, show (4 : Int) = ((4 : Nat) : Int) from rfl, put_is k g 4 _ (by omega) (by simp [bb_len]) hk]
  rfl
theorem refbegin_is (k o g : Nat) (_ho : o < 2 ^ 63) (hg : g < 2 ^ 63) (hk : 9 ≤ k) : spenceref17_begin.f k (o : Int) (g : Int) = some (begun o g) := by
  unfold spenceref17_begin.f
  rw [Option.bind_some, u64_wrap _ (by omega) (by omega), show (4 : Int) = ((4 : Nat) : Int) from rfl, lay_is k g 4 (by omega) hk, Option.bind_some, if_pos (by simp [bb_len])]
  simp [begun, bb]
theorem beOr_from (l : List Int) (hl : Byt l) : ∀ a : Nat, a < 256 ^ (8 - l.length) → l.length ≤ 8 → beOr l (a : Int) = ((beFrom a l : Nat) : Int) := by
  induction l with
  | nil => intro a _ _; rfl
  | cons x l ih =>
    intro a ha h8
    have hx := hl x (by simp)
    have hl' : Byt l := fun y hy => hl y (by simp [hy])
    simp only [List.length_cons] at ha h8
    have ha2 : a < 2 ^ 56 := Nat.lt_of_lt_of_le ha (by
      rw [show (2 : Nat) ^ 56 = 256 ^ 7 by decide]
      exact Nat.pow_le_pow_right (by decide) (by omega))
    obtain ⟨x, rfl⟩ := Int.eq_ofNat_of_zero_le hx.1
    show beOr l (Go.bits .or .u64 (IntKind.u64.wrap ((a : Int) * 256)) (IntKind.u64.wrap (x : Int))) = _
    rw [or_add a x ha2 (by omega)]
    have hstep : a * 256 + x < 256 ^ (8 - l.length) := by
      rw [show 8 - l.length = (8 - (l.length + 1)) + 1 by omega, Nat.pow_succ]
      omega
    exact ih hl' _ hstep (by omega)
theorem beOr_is (l : List Int) (hl : Byt l) (h8 : l.length ≤ 8) : beOr l 0 = ((be l : Nat) : Int) :=
  beOr_from l hl 0 (Nat.pow_pos (by decide)) h8
theorem number_loop (d : Nat) : ∀ (k i : Nat) (l : List Int), Byt l → l.length ≤ 8 → i + d = l.length → d < k → spenceref17_number.l0 k ((be (l.take i) : Nat) : Int) l (l.length : Int) (i : Int) = some (wrap64 ((be l : Nat) : Int)) := by
  induction d with
  | zero =>
    intro k i l hl h8 hi hk
    obtain ⟨k, rfl⟩ : ∃ m, k = m + 1 := ⟨k - 1, by omega⟩
    simp only [spenceref17_number.l0]
    rw [if_neg (by omega), List.take_of_length_le (by omega)]
  | succ d ih =>
    intro k i l hl h8 hi hk
    obtain ⟨k, rfl⟩ : ∃ m, k = m + 1 := ⟨k - 1, by omega⟩
    have hlt : i < l.length := by omega
    have hr : rd l (i : Int) = l[i] := by simp [rd, List.getD_eq_getElem?_getD, List.getElem?_eq_getElem hlt]
    have hx := hl _ (List.getElem_mem hlt)
    have hb : be (l.take i) < 256 ^ 7 := Nat.lt_of_lt_of_le (be_lt _ (hl.take i)) (Nat.pow_le_pow_right (by decide) (by rw [List.length_take]; omega))
    have hs : be (l.take (i + 1)) = be (l.take i) * 256 + (l[i]).toNat := by
      rw [List.take_succ_eq_append_getElem hlt, be, beFrom, List.foldl_append]
      rfl
    simp only [spenceref17_number.l0]
    rw [if_pos (by omega), if_pos (by omega), if_pos (by omega), hr, u64_wrap (l[i]) (by omega) (by omega), u64_wrap (((be (l.take i) : Nat) : Int) * 256) (by omega) (by omega), u64_wrap _ (by omega) (by omega), wr (a := (i : Int) + 1) (by omega) (by omega), show (i : Int) + 1 = ((i + 1 : Nat) : Int) by omega,
      show (((be (l.take i) : Nat) : Int) * 256 + l[i]) = ((be (l.take (i + 1)) : Nat) : Int) by rw [hs]; omega]
    exact ih k (i + 1) l hl h8 (by omega) (by omega)
theorem number_is (k : Nat) (l : List Int) (hl : Byt l) (h8 : l.length ≤ 8) (hk : l.length < k) : spenceref17_number.f k l = some (wrap64 ((be l : Nat) : Int)) :=
  number_loop l.length k 0 l hl h8 (by omega) hk
end Go.Proofs.Ytkbialmlddhclaa.CodecFacts

/- What pieces as bytes, and bytes as pieces, come to, in plain words. -/
namespace Go.Proofs.Ytkbialmlddhclaa.CodecFacts
open Go.RowKit Go.Proofs.YtkbialmlddhclaaW.PrintWords Go.Proofs.YtkbialmlddhclaaW.PrintLast Go.Proofs.YtkbialmlddhclaaW.PrintMore Go.Proofs.Ytkbialmlddhclaa.QCodec Go.Proofs.Ytkbialmlddhclaa.NumMath

abbrev Own (o g : Int) : Prop := 0 ≤ o ∧ o ≤ 15 ∧ 1 ≤ g ∧ g ≤ 2147483647
abbrev OkP (o g i : Int) (n : Nat) : Prop := Own o g ∧ 0 ≤ i ∧ i ≤ 4096 ∧ 1 ≤ n ∧ n ≤ 64
theorem fits_is (a b c : Int) : nums_Fits.f a b c = some (decide (b ≤ a ∧ a ≤ c)) := by
  unfold nums_Fits.f
  by_cases h : a ≥ b
  · rw [if_pos h]; congr 1; exact decide_eq_decide.2 ⟨fun h2 => ⟨h, h2⟩, fun h2 => h2.2⟩
  · rw [if_neg h, decide_eq_false (by omega)]
theorem owner_is (o g : Int) : codec_owner.f o g = some (decide (Own o g)) := by
  unfold codec_owner.f Own
  rw [fits_is, fits_is, Option.bind_some]
  by_cases h : 0 ≤ o ∧ o ≤ 15
  · rw [if_pos (decide_eq_true h), Option.bind_some]; congr 1; exact decide_eq_decide.2 (by omega)
  · rw [if_neg (by simpa using h), decide_eq_false (by omega)]
theorem refowner_is (o g : Int) : spenceref17_owner.f o g = some (decide (Own o g)) := by
  unfold spenceref17_owner.f Own
  by_cases h1 : o ≥ 0
  · rw [if_pos h1]
    by_cases h2 : o ≤ 15
    · rw [if_pos h2]
      by_cases h3 : g ≥ 1
      · rw [if_pos h3]; congr 1; exact decide_eq_decide.2 (by omega)
      · rw [if_neg h3, decide_eq_false (by omega)]
    · rw [if_neg h2, decide_eq_false (by omega)]
  · rw [if_neg h1, decide_eq_false (by omega)]
theorem piece_is (o g i : Int) (l : List Int) : codec_piece.f o g i l = some (decide (OkP o g i l.length)) := by
  unfold codec_piece.f OkP
  rw [owner_is, fits_is, fits_is, Option.bind_some]
  by_cases h : Own o g
  · rw [if_pos (decide_eq_true h), Option.bind_some]
    by_cases h2 : 0 ≤ i ∧ i ≤ 4096
    · rw [if_pos (decide_eq_true h2), Option.bind_some]; congr 1; exact decide_eq_decide.2 ⟨fun h3 => ⟨h, by omega⟩, fun h3 => by omega⟩
    · rw [if_neg (by simpa using h2), decide_eq_false (by omega)]
  · rw [if_neg (by simpa using h), decide_eq_false (fun h3 => h h3.1)]
theorem refpiece_is (o g i : Int) (l : List Int) : spenceref17_RightPiece.f o g i l = some (decide (OkP o g i l.length)) := by
  unfold spenceref17_RightPiece.f OkP
  rw [refowner_is, Option.bind_some]
  by_cases h : Own o g
  · rw [if_pos (decide_eq_true h)]
    by_cases h1 : i ≥ 0
    · rw [if_pos h1]
      by_cases h2 : i ≤ 4096
      · rw [if_pos h2]
        by_cases h3 : (l.length : Int) ≥ 1
        · rw [if_pos h3]; congr 1; exact decide_eq_decide.2 ⟨fun h3 => ⟨h, by omega⟩, fun h3 => by omega⟩
        · rw [if_neg h3, decide_eq_false (by omega)]
      · rw [if_neg h2, decide_eq_false (by omega)]
    · rw [if_neg h1, decide_eq_false (by omega)]
  · rw [if_neg (by simpa using h), decide_eq_false (fun h3 => h h3.1)]
theorem bytes_loop (n : Nat) : ∀ (k i : Nat) (a b : List Int), a.length = b.length → i + n = a.length → a.length ≤ 9223372036854775806 → n < k → spenceref01_Bytes.l0 k a b (a.length : Int) (i : Int) = some (decide (a.drop i = b.drop i)) := by
  induction n with
  | zero =>
    intro k i a b hab hi hm hk
    obtain ⟨k, rfl⟩ : ∃ m, k = m + 1 := ⟨k - 1, by omega⟩
    simp only [spenceref01_Bytes.l0]
    rw [if_neg (by omega), List.drop_of_length_le (by omega), List.drop_of_length_le (by omega)]
    simp
  | succ n ih =>
    intro k i a b hab hi hm hk
    obtain ⟨k, rfl⟩ : ∃ m, k = m + 1 := ⟨k - 1, by omega⟩
    have ea : a.drop i = rd a i :: a.drop (i + 1) := by
      rw [List.drop_eq_getElem_cons (by omega)]
      simp [rd, List.getD_eq_getElem?_getD, List.getElem?_eq_getElem (show i < a.length by omega)]
    have eb : b.drop i = rd b i :: b.drop (i + 1) := by
      rw [List.drop_eq_getElem_cons (by omega)]
      simp [rd, List.getD_eq_getElem?_getD, List.getElem?_eq_getElem (show i < b.length by omega)]
    simp only [spenceref01_Bytes.l0]
    rw [if_pos (by omega), if_pos (by omega), if_pos (by omega), if_pos (by omega), ea, eb]
    by_cases h : rd a i = rd b i
    · rw [if_pos h, wr (a := (i : Int) + 1) (by omega) (by omega), show (i : Int) + 1 = ((i + 1 : Nat) : Int) by omega, ih k (i + 1) a b hab (by omega) hm (by omega)]
      simp [h]
    · rw [if_neg h]
      simp [h]
theorem bytes_is (k : Nat) (a b : List Int) (hm : a.length ≤ 9223372036854775806) (hk : a.length < k) : spenceref01_Bytes.f k a b = some (decide (a = b)) := by
  unfold spenceref01_Bytes.f
  by_cases h : a.length = b.length
  · rw [if_pos (by omega)]
    have := bytes_loop a.length k 0 a b h (by omega) hm hk
    simpa using this
  · rw [if_neg (by omega), decide_eq_false (fun e => h (by rw [e]))]
/-- The numbers that bytes begin with. -/
def nO (l : List Int) : Int := rd l 0
def nG (l : List Int) : Int := ((be ((l.drop 1).take 4) : Nat) : Int)
def nI (l : List Int) : Int := ((be ((l.drop 5).take 2) : Nat) : Int)
theorem rd_byt {l : List Int} (hl : Byt l) (h : 0 < l.length) : 0 ≤ rd l 0 ∧ rd l 0 ≤ 255 := by
  have := hl _ (List.getElem_mem h)
  simpa [rd, List.getD_eq_getElem?_getD, List.getElem?_eq_getElem h] using this
theorem be_one {l : List Int} (hl : Byt l) (h : 0 < l.length) : ((be (l.take 1) : Nat) : Int) = rd l 0 := by
  have h1 : l.take 1 = [rd l 0] := by
    rw [List.take_succ_eq_append_getElem h]
    simp [rd, List.getD_eq_getElem?_getD, List.getElem?_eq_getElem h]
  have h2 := rd_byt hl h
  rw [h1]
  show ((0 * 256 + (rd l 0).toNat : Nat) : Int) = rd l 0
  omega
theorem be4_lt (l : List Int) (hl : Byt l) (n : Nat) (hn : n ≤ 4) : be (l.take n) < 256 ^ 4 :=
  Nat.lt_of_lt_of_le (be_lt _ (hl.take n)) (Nat.pow_le_pow_right (by decide) (by rw [List.length_take]; omega))
theorem took_yes (l : List Int) (n : Nat) (h : n ≤ l.length) : took (l, true) n = (wrap64 (beOr (l.take n) 0), l.drop n, true) := by unfold took; rw [if_pos h]
theorem gotP_yes (l : List Int) (hl : Byt l) (h : 7 ≤ l.length) : gotP l = (nO l, nG l, nI l, l.drop 7, true) := by
  have e1 := took_yes l 1 (by omega)
  have e2 := took_yes (l.drop 1) 4 (by rw [List.length_drop]; omega)
  have e3 := took_yes ((l.drop 1).drop 4) 2 (by rw [List.length_drop, List.length_drop]; omega)
  simp only [gotP, e1, e2, e3]
  have b1 := be4_lt l hl 1 (by omega)
  have b2 := be4_lt (l.drop 1) (hl.drop 1) 4 (by omega)
  have b3 := be4_lt (l.drop 5) (hl.drop 5) 2 (by omega)
  have h1 := be_one hl (by omega)
  rw [List.drop_drop, List.drop_drop, beOr_is _ (hl.take 1) (by rw [List.length_take]; omega), beOr_is _ ((hl.drop 1).take 4) (by rw [List.length_take]; omega), beOr_is _ ((hl.drop _).take 2) (by rw [List.length_take]; omega)]
  rw [wr (by omega) (by omega), wr (by omega) (by omega), show 1 + 4 = 5 from rfl, wr (by omega) (by omega), h1]
  rfl
theorem took_flag (s : List Int × Bool) (n : Nat) : (took s n).2.2 = true → s.2 = true ∧ n ≤ s.1.length ∧ (took s n).2.1 = s.1.drop n := by
  unfold took
  split
  · intro h; exact ⟨h, by assumption, rfl⟩
  · intro h; cases h
theorem gotP_no (l : List Int) (h : l.length < 7) : (gotP l).2.2.2.2 = false := by
  cases hf : (gotP l).2.2.2.2 with
  | false => rfl
  | true =>
    exfalso
    obtain ⟨f2, n3, _⟩ := took_flag _ 2 hf
    obtain ⟨f1, n2, d2⟩ := took_flag _ 4 f2
    obtain ⟨_, n1, d1⟩ := took_flag _ 1 f1
    have e1 : (took (l, true) 1).2.1.length = l.length - 1 := by rw [d1, List.length_drop]
    have e2 : (took (took (l, true) 1).2 4).2.1.length = (took (l, true) 1).2.1.length - 4 := by rw [d2, List.length_drop]
    omega
theorem getP_is (l : List Int) (hl : Byt l) (hm : l.length ≤ 1000000) : codec_GetPiece.f l = some (if 7 ≤ l.length ∧ OkP (nO l) (nG l) (nI l) (l.drop 7).length then (nO l, nG l, nI l, l.drop 7, 0) else (0, 0, 0, [], 3)) := by
  unfold codec_GetPiece.f
  by_cases h : 7 ≤ l.length
  · rw [gotP_yes l hl h]
    simp only
    rw [if_pos ⟨trivial, by omega⟩, piece_is, Option.bind_some]
    by_cases h2 : OkP (nO l) (nG l) (nI l) (l.drop 7).length
    · rw [if_pos (decide_eq_true h2), if_pos ⟨h, h2⟩]
    · rw [if_neg (by simpa using h2), if_neg (fun x => h2 x.2)]
  · rw [gotP_no l (by omega), if_neg (by simp), if_pos (by omega), if_neg (fun x => h x.1)]
theorem refgetP_is (k : Nat) (l : List Int) (hl : Byt l) (hm : l.length ≤ 1000000) (hk : 9 ≤ k) : spenceref17_GetPiece.f k l = some (if 7 ≤ l.length ∧ OkP (nO l) (nG l) (nI l) (l.drop 7).length then (nO l, nG l, nI l, l.drop 7, true) else (0, 0, 0, [], false)) := by
  unfold spenceref17_GetPiece.f
  by_cases h : 7 ≤ l.length
  · have b2 := be4_lt (l.drop 1) (hl.drop 1) 4 (by omega)
    have b3 := be4_lt (l.drop 5) (hl.drop 5) 2 (by omega)
    have r := rd_byt hl (by omega)
    rw [if_neg (by omega), if_pos (by omega), if_pos (by omega), if_pos (by omega), List.drop_take, List.drop_take, number_is k _ ((hl.drop 1).take _) (by rw [List.length_take]; omega) (by rw [List.length_take]; omega), Option.bind_some, if_pos (by omega), if_pos (by omega), number_is k _ ((hl.drop 5).take _) (by rw [List.length_take]; omega) (by rw [List.length_take]; omega), Option.bind_some, if_pos (by simp; omega), Option.bind_some,
      List.nil_append, wr (by omega) (by omega), show 5 - 1 = 4 from rfl, show 7 - 5 = 2 from rfl, wr (by omega) (by omega), wr (by omega) (by omega), refpiece_is, Option.bind_some, ← show nO l = rd l 0 from rfl, ← show nG l = ((be ((l.drop 1).take 4) : Nat) : Int) from rfl, ← show nI l = ((be ((l.drop 5).take 2) : Nat) : Int) from rfl]
    by_cases h2 : OkP (nO l) (nG l) (nI l) (l.drop 7).length
    · rw [if_pos (decide_eq_true h2), if_pos ⟨h, h2⟩]
    · rw [if_neg (fun x => h2 (of_decide_eq_true x)), if_neg (fun x => h2 x.2)]
  · rw [if_pos (by omega), if_neg (fun x => h x.1)]
theorem awake_is (k : Nat) (hk : 9 ≤ k) : spencelaw17_awake.f k = some true := by
  unfold spencelaw17_awake.f codec_PutDrop.f
  rw [owner_is, Option.bind_some, if_pos (by decide), show (1 : Int) = ((1 : Nat) : Int) from rfl, show (2 : Int) = ((2 : Nat) : Int) from rfl, begin_is k 1 2 (by decide) (by decide) hk]
  decide +kernel
end Go.Proofs.Ytkbialmlddhclaa.CodecFacts

/- What binds and drops as bytes, and bytes as binds and drops, come to; and the law CodecDrops. -/
namespace Go.Proofs.Ytkbialmlddhclaa.CodecFacts
open Go.RowKit Go.Proofs.YtkbialmlddhclaaW.PrintWords Go.Proofs.YtkbialmlddhclaaW.PrintLast Go.Proofs.YtkbialmlddhclaaW.PrintMore Go.Proofs.Ytkbialmlddhclaa.QCodec Go.Proofs.Ytkbialmlddhclaa.NumMath

/-- A byte that a tag may hold. -/
abbrev OkC (b : Int) : Prop := b = 33 ∨ (35 ≤ b ∧ b ≠ 127)
def tg (s : ByteArray) : Nat → Nat → Bool
  | 0, _ => true
  | d + 1, i => if OkC (bt s (i : Int)) then tg s d (i + 1) else false
theorem may_is (a : Int) : etag_may.f a = some (decide (OkC a)) := by
  unfold etag_may.f OkC
  by_cases h1 : a ≥ 128
  · rw [if_pos h1, decide_eq_true (by omega)]
  rw [if_neg h1]
  by_cases h2 : a = 33
  · rw [if_pos h2, decide_eq_true (by omega)]
  rw [if_neg h2]
  by_cases h3 : a = 127
  · rw [if_pos h3, decide_eq_false (by omega)]
  rw [if_neg h3]
  congr 1
  exact decide_eq_decide.2 ⟨fun h => .inr ⟨h, h3⟩, fun h => by omega⟩
theorem plain_loop (d : Nat) : ∀ (k i : Nat) (s : ByteArray), s.size ≤ 1000000 → i + d = s.size → d < k → etag_plain.l0 k s (s.size : Int) (i : Int) = some (tg s d i) := by
  induction d with
  | zero =>
    intro k i s hs hi hk
    obtain ⟨k, rfl⟩ : ∃ m, k = m + 1 := ⟨k - 1, by omega⟩
    rw [etag_plain.l0, if_neg (by omega), tg]
  | succ d ih =>
    intro k i s hs hi hk
    obtain ⟨k, rfl⟩ : ∃ m, k = m + 1 := ⟨k - 1, by omega⟩
    rw [etag_plain.l0, if_pos (by omega), if_pos (by omega), if_pos (by omega), may_is, Option.bind_some, tg]
    by_cases h : OkC (bt s (i : Int))
    · rw [if_pos (decide_eq_true h), if_pos h, wr (a := (i : Int) + 1) (by omega) (by omega), show (i : Int) + 1 = ((i + 1 : Nat) : Int) by omega]
      exact ih k (i + 1) s hs (by omega) (by omega)
    · rw [if_neg (fun x => h (of_decide_eq_true x)), if_neg h]
theorem tag_loop (d : Nat) : ∀ (k i : Nat) (s : ByteArray), s.size ≤ 1000000 → i + d = s.size → d < k → spenceref04_Tag.l0 k s (i : Int) = some (tg s d i) := by
  induction d with
  | zero =>
    intro k i s hs hi hk
    obtain ⟨k, rfl⟩ : ∃ m, k = m + 1 := ⟨k - 1, by omega⟩
    rw [spenceref04_Tag.l0, if_neg (by omega), tg]
  | succ d ih =>
    intro k i s hs hi hk
    obtain ⟨k, rfl⟩ : ∃ m, k = m + 1 := ⟨k - 1, by omega⟩
    rw [spenceref04_Tag.l0, if_pos (by omega), if_pos (by omega), tg, wr (a := (i : Int) + 1) (by omega) (by omega), show (i : Int) + 1 = ((i + 1 : Nat) : Int) by omega]
    have e := ih k (i + 1) s hs (by omega) (by omega)
    by_cases h1 : bt s (i : Int) = 33
    · rw [if_pos h1, if_pos (c := OkC _) (.inl h1), e]
    rw [if_neg h1]
    by_cases h2 : bt s (i : Int) < 35
    · rw [if_pos h2, if_neg (c := OkC _) (by omega)]
    rw [if_neg h2]
    by_cases h3 : bt s (i : Int) = 127
    · rw [if_pos h3, if_neg (c := OkC _) (by omega)]
    · rw [if_neg h3, if_pos (c := OkC _) (by omega), e]
theorem bind_agree (k : Nat) (o g : Int) (s : ByteArray) (n t : Int) (hs : s.size ≤ 1000000) (hk : s.size < k) : ∃ r, codec_bind.f k o g s n t = some r ∧ spenceref17_RightBind.f k o g s n t = some r := by
  unfold codec_bind.f spenceref17_RightBind.f
  rw [owner_is, refowner_is, Option.bind_some, Option.bind_some]
  by_cases h1 : Own o g
  · rw [if_pos (decide_eq_true h1), if_pos (decide_eq_true h1), fits_is, Option.bind_some]
    by_cases h2 : 0 ≤ n ∧ n ≤ 4096
    · rw [if_pos (decide_eq_true h2), if_pos (by omega), if_pos (by omega), fits_is, Option.bind_some]
      by_cases h3 : 0 ≤ t ∧ t ≤ 4611686018427387903
      · have e1 := plain_loop s.size k 0 s hs (by omega) hk
        have e2 := tag_loop s.size k 0 s hs (by omega) hk
        rw [if_pos (decide_eq_true h3), if_pos (by omega), if_pos (by omega)]
        unfold etag_Right.f etag_plain.f spenceref04_Tag.f
        rw [show (0 : Int) = ((0 : Nat) : Int) from rfl, e1, e2, Option.bind_some]
        by_cases h4 : (s.size : Int) ≤ 40
        · rw [if_pos h4, decide_eq_true h4]
          cases tg s s.size 0 <;> exact ⟨_, rfl, rfl⟩
        · rw [if_neg h4, decide_eq_false h4]
          cases tg s s.size 0 <;> exact ⟨_, rfl, rfl⟩
      · rw [if_neg (fun x => h3 (of_decide_eq_true x))]
        refine ⟨false, rfl, ?_⟩
        by_cases h4 : t ≥ 0
        · rw [if_pos h4, if_neg (by omega)]
        · rw [if_neg h4]
    · rw [if_neg (fun x => h2 (of_decide_eq_true x))]
      refine ⟨false, rfl, ?_⟩
      by_cases h4 : n ≥ 0
      · rw [if_pos h4, if_neg (by omega)]
      · rw [if_neg h4]
  · rw [if_neg (fun x => h1 (of_decide_eq_true x)), if_neg (fun x => h1 (of_decide_eq_true x))]
    exact ⟨_, rfl, rfl⟩
/-- The moment that a bind's bytes tell. -/
def nT (l : List Int) : Int := wrap64 ((be ((l.drop 7).take 8) : Nat) : Int)
theorem got_yes (l : List Int) (hl : Byt l) (h : 15 ≤ l.length) : got l = (nO l, nG l, nI l, nT l, l.drop 15, true) := by
  have e1 := took_yes l 1 (by omega)
  have e2 := took_yes (l.drop 1) 4 (by rw [List.length_drop]; omega)
  have e3 := took_yes ((l.drop 1).drop 4) 2 (by rw [List.length_drop, List.length_drop]; omega)
  have e4 := took_yes (((l.drop 1).drop 4).drop 2) 8 (by rw [List.length_drop, List.length_drop, List.length_drop]; omega)
  simp only [got, e1, e2, e3, e4]
  have b1 := be4_lt l hl 1 (by omega)
  have b2 := be4_lt (l.drop 1) (hl.drop 1) 4 (by omega)
  have b3 := be4_lt (l.drop 5) (hl.drop 5) 2 (by omega)
  have h1 := be_one hl (by omega)
  rw [List.drop_drop, List.drop_drop, List.drop_drop, beOr_is _ (hl.take 1) (by rw [List.length_take]; omega), beOr_is _ ((hl.drop 1).take 4) (by rw [List.length_take]; omega), beOr_is _ ((hl.drop _).take 2) (by rw [List.length_take]; omega), beOr_is _ ((hl.drop _).take 8) (by rw [List.length_take]; omega)]
  rw [wr (by omega) (by omega), wr (by omega) (by omega), show 1 + 4 = 5 from rfl, wr (by omega) (by omega), h1]
  rfl
theorem got_no (l : List Int) (h : l.length < 15) : (got l).2.2.2.2.2 = false := by
  cases hf : (got l).2.2.2.2.2 with
  | false => rfl
  | true =>
    exfalso
    obtain ⟨f3, n4, _⟩ := took_flag _ 8 hf
    obtain ⟨f2, n3, d3⟩ := took_flag _ 2 f3
    obtain ⟨f1, n2, d2⟩ := took_flag _ 4 f2
    obtain ⟨_, n1, d1⟩ := took_flag _ 1 f1
    have e1 : (took (l, true) 1).2.1.length = l.length - 1 := by rw [d1, List.length_drop]
    have e2 : (took (took (l, true) 1).2 4).2.1.length = (took (l, true) 1).2.1.length - 4 := by rw [d2, List.length_drop]
    have e3 : (took (took (took (l, true) 1).2 4).2 2).2.1.length = (took (took (l, true) 1).2 4).2.1.length - 2 := by rw [d3, List.length_drop]
    omega
theorem getB_agree (k : Nat) (l : List Int) (hl : Byt l) (hm : l.length ≤ 1000000) (hk : l.length + 9 ≤ k) :
    ∃ (o : Int) (r : Bool), (∃ a b c d, codec_GetBind.f k l = some (o, a, b, c, d, if r = true then 0 else 3)) ∧ (∃ a b c d, spenceref17_GetBind.f k l = some (o, a, b, c, d, r)) := by
  by_cases h : 15 ≤ l.length
  · have b2 := be4_lt (l.drop 1) (hl.drop 1) 4 (by omega)
    have b3 := be4_lt (l.drop 5) (hl.drop 5) 2 (by omega)
    have r := rd_byt hl (by omega)
    have hsz : (strOfNums (l.drop 15)).size = l.length - 15 := by rw [strOfNums_size, List.length_drop]
    obtain ⟨x, x1, x2⟩ := bind_agree k (nO l) (nG l) (strOfNums (l.drop 15)) (nI l) (nT l) (by omega) (by omega)
    have e2 : spenceref17_GetBind.f k l = if x = true then some (nO l, nG l, strOfNums (l.drop 15), nI l, nT l, true) else some (0, 0, (⟨#[]⟩ : ByteArray), 0, 0, false) := by
      unfold spenceref17_GetBind.f
      rw [if_neg (by omega), if_pos (by omega), if_pos (by omega), if_pos (by omega), List.drop_take, List.drop_take, List.drop_take, number_is k _ ((hl.drop 1).take _) (by rw [List.length_take]; omega) (by rw [List.length_take]; omega), Option.bind_some, if_pos (by omega), if_pos (by omega), number_is k _ ((hl.drop 5).take _) (by rw [List.length_take]; omega) (by rw [List.length_take]; omega), Option.bind_some, if_pos (by omega), if_pos (by omega), number_is k _ ((hl.drop 7).take _) (by rw [List.length_take]; omega) (by rw [List.length_take]; omega), Option.bind_some,
        wr (a := rd l 0) (by omega) (by omega), show 5 - 1 = 4 from rfl, show 7 - 5 = 2 from rfl, show 15 - 7 = 8 from rfl, wr (a := ((be ((l.drop 1).take 4) : Nat) : Int)) (by omega) (by omega), wr (a := ((be ((l.drop 5).take 2) : Nat) : Int)) (by omega) (by omega),
        ← show nO l = rd l 0 from rfl, ← show nG l = ((be ((l.drop 1).take 4) : Nat) : Int) from rfl, ← show nI l = ((be ((l.drop 5).take 2) : Nat) : Int) from rfl, ← show nT l = wrap64 ((be ((l.drop 7).take 8) : Nat) : Int) from rfl, x2, Option.bind_some]
    have e1 : codec_GetBind.f k l = if x = true then some (nO l, nG l, strOfNums (l.drop 15), nI l, nT l, 0) else some (0, 0, (⟨#[]⟩ : ByteArray), 0, 0, 3) := by
      unfold codec_GetBind.f
      rw [got_yes l hl h]
      simp only
      rw [if_pos trivial, x1, Option.bind_some]
    rw [e1, e2]
    cases x with
    | true => exact ⟨nO l, true, ⟨_, _, _, _, rfl⟩, ⟨_, _, _, _, rfl⟩⟩
    | false => exact ⟨0, false, ⟨_, _, _, _, rfl⟩, ⟨_, _, _, _, rfl⟩⟩
  · unfold codec_GetBind.f spenceref17_GetBind.f
    rw [got_no l (by omega), if_neg (by decide), if_pos (by omega)]
    exact ⟨0, false, ⟨_, _, _, _, rfl⟩, ⟨_, _, _, _, rfl⟩⟩
theorem gotD_yes (l : List Int) (hl : Byt l) (h : 5 ≤ l.length) : gotD l = (nO l, nG l, l.drop 5, true) := by
  have e1 := took_yes l 1 (by omega)
  have e2 := took_yes (l.drop 1) 4 (by rw [List.length_drop]; omega)
  simp only [gotD, e1, e2]
  have b1 := be4_lt l hl 1 (by omega)
  have b2 := be4_lt (l.drop 1) (hl.drop 1) 4 (by omega)
  have h1 := be_one hl (by omega)
  rw [List.drop_drop, beOr_is _ (hl.take 1) (by rw [List.length_take]; omega), beOr_is _ ((hl.drop 1).take 4) (by rw [List.length_take]; omega)]
  rw [wr (by omega) (by omega), wr (by omega) (by omega), h1]
  rfl
theorem gotD_no (l : List Int) (h : l.length < 5) : (gotD l).2.2.2 = false := by
  cases hf : (gotD l).2.2.2 with
  | false => rfl
  | true =>
    exfalso
    obtain ⟨f1, n2, d2⟩ := took_flag _ 4 hf
    obtain ⟨_, n1, d1⟩ := took_flag _ 1 f1
    have e1 : (took (l, true) 1).2.1.length = l.length - 1 := by rw [d1, List.length_drop]
    omega
theorem getD_is (kind : Int) (l : List Int) (hl : Byt l) : codec_GetDrop.f kind l = some (if l.length = 5 ∧ Own (nO l) (nG l) then (nO l, nG l, (kind == 5), 0) else (0, 0, false, 3)) := by
  unfold codec_GetDrop.f
  by_cases h : 5 ≤ l.length
  · rw [gotD_yes l hl h]
    simp only
    by_cases h5 : l.length = 5
    · rw [if_pos ⟨trivial, by rw [List.length_drop]; omega⟩, owner_is, Option.bind_some]
      by_cases h2 : Own (nO l) (nG l)
      · rw [if_pos (decide_eq_true h2), if_pos ⟨h5, h2⟩]
      · rw [if_neg (fun x => h2 (of_decide_eq_true x)), if_neg (fun x => h2 x.2)]
    · rw [if_neg (by rw [List.length_drop]; omega), if_neg (fun x => h5 x.1)]
  · rw [gotD_no l (by omega), if_neg (by simp), if_neg (by omega)]
theorem refD_right (o g : Int) (b : Bool) : spenceref17_RightDrop.f o g b = some (decide (Own o g)) := by
  unfold spenceref17_RightDrop.f
  rw [refowner_is, Option.bind_some]
theorem refgetD_is (k : Nat) (kind : Int) (l : List Int) (hl : Byt l) (hk : 9 ≤ k) : spenceref17_GetDrop.f k kind l = some (if l.length = 5 ∧ Own (nO l) (nG l) then (nO l, nG l, (kind == 5), true) else (0, 0, false, false)) := by
  unfold spenceref17_GetDrop.f
  by_cases h : l.length = 5
  · have b2 := be4_lt (l.drop 1) (hl.drop 1) 4 (by omega)
    have r := rd_byt hl (by omega)
    rw [if_pos (by omega), if_pos (by omega), if_pos (by omega), if_pos (by omega), List.drop_take, number_is k _ ((hl.drop 1).take _) (by rw [List.length_take]; omega) (by rw [List.length_take]; omega), Option.bind_some,
      wr (a := rd l 0) (by omega) (by omega), show 5 - 1 = 4 from rfl, wr (by omega) (by omega), refD_right, Option.bind_some, ← show nO l = rd l 0 from rfl, ← show nG l = ((be ((l.drop 1).take 4) : Nat) : Int) from rfl]
    by_cases h2 : Own (nO l) (nG l)
    · rw [if_pos (decide_eq_true h2), if_pos ⟨h, h2⟩]
    · rw [if_neg (fun x => h2 (of_decide_eq_true x)), if_neg (fun x => h2 x.2)]
  · rw [if_neg (by omega), if_neg (fun x => h x.1)]
theorem obj_agree (k : Nat) (kind : Int) (l : List Int) (hl : Byt l) (hm : l.length ≤ 1000000) (hk : l.length + 9 ≤ k) : ∃ o g r, codec_Object.f k kind l = some (o, r) ∧ spenceref17_Owner.f k 0 0 0 0 kind l = some (o, g, r) := by
  unfold codec_Object.f spenceref17_Owner.f
  by_cases h2 : kind = 2
  · rw [if_pos h2, if_pos h2]
    obtain ⟨o, r, ⟨a, b, c, d, e1⟩, ⟨a', b', c', d', e2⟩⟩ := getB_agree k l hl hm hk
    rw [e1, e2]
    refine ⟨o, a', r, ?_, rfl⟩
    cases r <;> rfl
  rw [if_neg h2, if_neg h2]
  by_cases h3 : kind = 3
  · rw [if_pos h3, if_pos h3, getP_is l hl hm, refgetP_is k l hl hm (by omega)]
    by_cases h : 7 ≤ l.length ∧ OkP (nO l) (nG l) (nI l) (l.drop 7).length
    · rw [if_pos h, if_pos h]; exact ⟨_, _, _, rfl, rfl⟩
    · rw [if_neg h, if_neg h]; exact ⟨_, _, _, rfl, rfl⟩
  rw [if_neg h3, if_neg h3, getD_is kind l hl, refgetD_is k kind l hl (by omega)]
  by_cases h4 : kind = 4
  · rw [if_pos h4, if_pos h4]
    by_cases h : l.length = 5 ∧ Own (nO l) (nG l)
    · rw [if_pos h, if_pos h]; exact ⟨_, _, _, rfl, rfl⟩
    · rw [if_neg h, if_neg h]; exact ⟨_, _, _, rfl, rfl⟩
  rw [if_neg h4, if_neg h4]
  by_cases h5 : kind = 5
  · rw [if_pos h5, if_pos h5]
    by_cases h : l.length = 5 ∧ Own (nO l) (nG l)
    · rw [if_pos h, if_pos h]; exact ⟨_, _, _, rfl, rfl⟩
    · rw [if_neg h, if_neg h]; exact ⟨_, _, _, rfl, rfl⟩
  · rw [if_neg h5, if_neg h5]; exact ⟨_, _, _, rfl, rfl⟩
theorem begun_byt (o g : Nat) : Byt (begun o g) := (bb_byt _ _).app (bb_byt _ _)
theorem begun_parts (o g : Int) (h : Own o g) : nO (begun o.toNat g.toNat) = o ∧ nG (begun o.toNat g.toNat) = g := by
  have h1 : (begun o.toNat g.toNat).take 1 = bb o.toNat 1 := List.take_left' (bb_len _ _)
  have h2 : (begun o.toNat g.toNat).drop 1 = bb g.toNat 4 := List.drop_left' (bb_len _ _)
  constructor
  · rw [nO, ← be_one (begun_byt _ _) (by rw [begun_len]; omega), h1, be_bb _ _ (by omega)]
    omega
  · rw [nG, h2, List.take_of_length_le (by rw [bb_len]; omega), be_bb _ _ (by omega)]
    omega
theorem putD_is (k : Nat) (o g : Int) (b : Bool) (hk : 9 ≤ k) : codec_PutDrop.f k o g b = some (if Own o g then (begun o.toNat g.toNat, 0) else ([], 1)) := by
  unfold codec_PutDrop.f
  rw [owner_is, Option.bind_some]
  by_cases h : Own o g
  · have e := begin_is k o.toNat g.toNat (by omega) (by omega) hk
    rw [show ((o.toNat : Nat) : Int) = o by omega, show ((g.toNat : Nat) : Int) = g by omega] at e
    rw [if_pos (decide_eq_true h), if_pos h, e, Option.bind_some]
  · rw [if_neg (fun x => h (of_decide_eq_true x)), if_neg h]
theorem refD_is (k : Nat) (o g : Int) (b : Bool) (hk : 9 ≤ k) (h : Own o g) : spenceref17_Drop.f k o g b = some (begun o.toNat g.toNat) := by
  unfold spenceref17_Drop.f
  have e := refbegin_is k o.toNat g.toNat (by omega) (by omega) hk
  rw [show ((o.toNat : Nat) : Int) = o by omega, show ((g.toNat : Nat) : Int) = g by omega] at e
  rw [e, Option.bind_some]
theorem drops_j0 (k : Nat) (o g : Int) (b : Bool) (hk : 9 ≤ k) (x7 : List Int) (x8 : Int) (hx : (x7, x8) = if Own o g then (begun o.toNat g.toNat, 0) else ([], 1)) : spencelaw17_CodecDrops.j0 (k + 1) x7 x8 false o g b = some true := by
  rw [spencelaw17_CodecDrops.j0, if_neg (by decide), refD_right, Option.bind_some]
  by_cases h : Own o g
  · rw [if_pos h] at hx
    injection hx with h7 h8
    subst h7; subst h8
    obtain ⟨p1, p2⟩ := begun_parts o g h
    rw [if_pos (decide_eq_true h), getD_is 5 _ (begun_byt _ _), p1, p2, if_pos ⟨begun_len _ _, h⟩, Option.bind_some, if_pos rfl, refD_is k o g b hk h, Option.bind_some, bytes_is k _ _ (by rw [begun_len]; omega) (by rw [begun_len]; omega), Option.bind_some, if_pos (decide_eq_true rfl)]
    simp
  · rw [if_neg h] at hx
    injection hx with h7 h8
    subst h7; subst h8
    rw [if_neg (fun x => h (of_decide_eq_true x)), if_pos rfl]
    rfl
theorem drops_pure (o g : Int) (b : Bool) (kind : Int) (l : List Int) (hl : Byt l) : spencelaw17_CodecDrops.f 501 o g b kind l = some true := by
  unfold spencelaw17_CodecDrops.f
  rw [awake_is _ (by omega), Option.bind_some, if_pos rfl]
  by_cases hm : (l.length : Int) > 300
  · rw [if_pos hm]
  obtain ⟨ob, gb, r, e1, e2⟩ := obj_agree 501 kind l hl (by omega) (by omega)
  rw [if_neg hm, putD_is 501 o g b (by omega), Option.bind_some, getD_is kind l hl, Option.bind_some, refgetD_is 501 kind l hl (by omega), Option.bind_some, e1, Option.bind_some, e2, Option.bind_some]
  have J := drops_j0 500 o g b (by omega) _ _ (rfl : (if Own o g then (begun o.toNat g.toNat, (0 : Int)) else ([], 1)) = _)
  by_cases h : l.length = 5 ∧ Own (nO l) (nG l)
  · rw [if_pos h, if_pos h]
    dsimp only
    rw [if_neg (by simp), if_neg (by simp), if_pos rfl, if_neg (by simp)]
    cases r with
    | true => rw [if_pos rfl, show (ob != ob) = false by simp]; exact J
    | false => rw [if_neg (by decide)]; exact J
  · rw [if_neg h, if_neg h]
    dsimp only
    rw [if_neg (by simp), if_neg (by simp), if_neg (by decide), if_pos rfl, if_neg (by simp)]
    cases r with
    | true => rw [if_pos rfl, show (ob != ob) = false by simp]; exact J
    | false => rw [if_neg (by decide)]; exact J
theorem drops_walk (o g : Int) (b : Bool) (kind : Int) (B : Option Addr) (d : Nat) (l : List Int) (w : World) (_ : (Lit.int .i64 o).wf = true) (_ : (Lit.int .i64 g).wf = true) (_ : (Lit.int .u8 kind).wf = true)
    (hr : Kd.C (Kd.int .u8) w B l.length l) (hc : l.length ≤ d) (_ : l.length ≤ maxLen) (hw : ∀ n ∈ l, (Lit.int .u8 n).wf = true) (_ : l.length * 1 ≤ 140737488351232) :
    Calls Try.prog 14 #[.agg #[.int .i64 o, .int .i64 g, .bool b], .int .u8 kind, .slice B l.length d] w fun e w' => e = .returned (.bool true) ∧ Below w.heap.size w w' :=
  spencelaw17_CodecDrops.calls 501 o g b kind B d l true w hr hc (drops_pure o g b kind l (fun x hx => Go.bounds_u8 (hw x hx)))
end Go.Proofs.Ytkbialmlddhclaa.CodecFacts

