/- The parts of this proof, one after the other (wip/tools/scratch/packbinds.py). -/
import Derived.ProofKit
import Derived.Lib.SmallJoins
import Derived.Test.YtkbialmlddhclaaWMore
import Derived.Laws.BitsLemmas
import Derived.Tactics
import Derived.IntWalk
import Derived.Test.YtkbialmlddhclaaQCodecx3
import Derived.Test.YtkbialmlddhclaaQCodecx8
import Derived.Test.YtkbialmlddhclaaQCodecx18
import Derived.Test.YtkbialmlddhclaaQCodecx13
import Derived.Test.YtkbialmlddhclaaQCodecx9
import Derived.Test.YtkbialmlddhclaaQCodecx11
import Derived.Test.YtkbialmlddhclaaQCodecx15
import Derived.Test.YtkbialmlddhclaaQCodecx5
import Derived.OpenShut
import Derived.Test.YtkbialmlddhclaaPackE
/- How arguments of a law are opened to values: small facts for the rows. -/
namespace Go.Proofs.Ytkbialmlddhclaa.Opens
open Go.ChangeShapes Go.WideShapes Go.ChangeAt Go.RowKit Go.Joins Go.Deep Go.Proofs.YtkbialmlddhclaaW.PrintWords
section
variable {H : Type} {enc : TypeId × Value → H} {P : Program} {w : World} {base : Nat} {spare : Nat → Bool} {held : Bool}
theorem open_agg5 {r : Reach} {b0 : Nat} {t : TypeId} {f0 f1 f2 f3 f4 : Field} {v : Value} {d : DataW H} {p : List MemPlace} (hs : P.underlying t = some (.struct #[f0, f1, f2, f3, f4])) (hone : oneCellFields P #[f0, f1, f2, f3, f4] = true) (hC : P.cellsOf t = 5)
    (hv : Value.okWide P w r b0 t v) (h : DataW.Trod enc P w base spare held t v d p) :
    ∃ (v0 v1 v2 v3 v4 : Value) (y0 y1 y2 y3 y4 : DataW H × List MemPlace) (n : Nat), v = .agg #[v0, v1, v2, v3, v4] ∧ d = .agg [y0.1, y1.1, y2.1, y3.1, y4.1] ∧ p = y0.2 ++ (y1.2 ++ (y2.2 ++ (y3.2 ++ y4.2))) ∧
      DataW.trod enc P w base spare held n f0.type [v0] = some y0 ∧ DataW.trod enc P w base spare held n f1.type [v1] = some y1 ∧ DataW.trod enc P w base spare held n f2.type [v2] = some y2 ∧ DataW.trod enc P w base spare held n f3.type [v3] = some y3 ∧ DataW.trod enc P w base spare held n f4.type [v4] = some y4 := by
  obtain ⟨cs, rfl, hsz⟩ := okWide_struct hs hv
  obtain ⟨l⟩ := cs
  match l, hsz.trans hC with
  | [c0, c1, c2, c3, c4], _ =>
    obtain ⟨fuel, hf⟩ := h
    obtain ⟨xs, n, _, hx, _, hlen, hg⟩ := DataW.trod_struct hs hf
    obtain ⟨o0, k0⟩ := hone_of hone 0 f0 rfl
    obtain ⟨o1, k1⟩ := hone_of hone 1 f1 rfl
    obtain ⟨o2, k2⟩ := hone_of hone 2 f2 rfl
    obtain ⟨o3, k3⟩ := hone_of hone 3 f3 rfl
    obtain ⟨o4, k4⟩ := hone_of hone 4 f4 rfl
    match xs, hlen with
    | [y0, y1, y2, y3, y4], _ =>
      simp only [Prod.mk.injEq] at hx
      exact ⟨c0, c1, c2, c3, c4, y0, y1, y2, y3, y4, n, rfl, by simpa using hx.1, by simpa using hx.2, by simpa [Value.cells, o0, k0] using hg 0 f0 rfl, by simpa [Value.cells, o1, k1] using hg 1 f1 rfl, by simpa [Value.cells, o2, k2] using hg 2 f2 rfl, by simpa [Value.cells, o3, k3] using hg 3 f3 rfl, by simpa [Value.cells, o4, k4] using hg 4 f4 rfl⟩

/-- A slice of whole numbers, laid in one cell. -/
theorem cell_ints {t e : TypeId} {k : IntKind} {fuel : Nat} {u : Value} {x : DataW H × List MemPlace} (ht : P.underlying t = some (.slice e)) (he : P.underlying e = some (.int k)) (hC : P.cellsOf e = 1)
    (h : DataW.trod enc P w base spare held fuel t [u] = some x) :
    ∃ (A : Option Addr) (c : Nat) (l : List Int), [u] = [Value.slice A l.length c] ∧ Kd.C (Kd.int k) w A l.length l ∧ l.length ≤ c ∧ l.length ≤ maxLen ∧ (∀ n ∈ l, (Lit.int k n).wf = true) := by
  rcases open_ints ht he hC h with ⟨hcs, _⟩ | ⟨a, len, cap, zs, hcs, _, hl, hm, hz, _, hcell, hwz⟩
  · refine ⟨none, 0, [], hcs, ?_, Nat.le_refl _, Nat.zero_le _, fun n hn => by cases hn⟩
    exact Kd.C_of_reads (d := (0 : Int)) (h1 := fun _ => rfl) ⟨rfl, by simp, fun h => absurd h (by simp)⟩
  · have hlz : len ≤ zs.length := by
      rw [hz]
      split
      · exact hl
      · exact Nat.le_refl _
    have e : (zs.take len).length = len := by rw [List.length_take]; omega
    refine ⟨some a, cap, zs.take len, by rw [e]; exact hcs, ?_, by omega, by rw [e]; omega, fun n hn => hwz n (List.mem_of_mem_take hn)⟩
    refine Kd.C_of_reads (d := (0 : Int)) (h1 := fun _ => rfl) ⟨rfl, by rw [e]; unfold maxLen at hm; omega, fun _ => ⟨a, rfl, fun j hj => ?_⟩⟩
    rw [e] at hj
    rw [hcell j (by omega)]
    simp [List.getD_eq_getElem?_getD, hj]

/-- An argument that is a slice of whole numbers. -/
theorem row_ints {t e : TypeId} {k : IntKind} {A : Option Addr} {len c : Nat} {d : DataW H} {p : List MemPlace} (ht : P.underlying t = some (.slice e)) (he : P.underlying e = some (.int k)) (hC : P.cellsOf e = 1)
    (h : DataW.Trod enc P w base spare held t (.slice A len c) d p) :
    ∃ l : List Int, len = l.length ∧ Kd.C (Kd.int k) w A l.length l ∧ l.length ≤ c ∧ l.length ≤ maxLen ∧ (∀ n ∈ l, (Lit.int k n).wf = true) := by
  obtain ⟨fuel, hf⟩ := h
  obtain ⟨A', c', l, hu, h1, h2, h3, h4⟩ := cell_ints (u := .slice A len c) ht he hC hf
  simp only [List.cons.injEq, Value.slice.injEq, and_true] at hu
  obtain ⟨rfl, rfl, rfl⟩ := hu
  exact ⟨l, rfl, h1, h2, h3, h4⟩
end
end Go.Proofs.Ytkbialmlddhclaa.Opens

/- Numbers as bytes, the highest first: plain arithmetic. -/
namespace Go.Proofs.Ytkbialmlddhclaa.NumMath
open Go.RowKit
/-- Bytes: each is from 0 to 255. -/
def Byt (l : List Int) : Prop := ∀ x ∈ l, 0 ≤ x ∧ x ≤ 255
theorem Byt.take {l : List Int} (h : Byt l) (k : Nat) : Byt (l.take k) := fun x hx => h x (List.mem_of_mem_take hx)
theorem Byt.drop {l : List Int} (h : Byt l) (k : Nat) : Byt (l.drop k) := fun x hx => h x (List.mem_of_mem_drop hx)
theorem Byt.app {l m : List Int} (h : Byt l) (h' : Byt m) : Byt (l ++ m) := by
  intro x hx
  rcases List.mem_append.1 hx with h1 | h1
  · exact h x h1
  · exact h' x h1
/-- So many bytes of a number. -/
def bb (n : Nat) : Nat → List Int
  | 0 => []
  | m + 1 => ((n / 256 ^ m % 256 : Nat) : Int) :: bb n m
theorem bb_len (n m : Nat) : (bb n m).length = m := by
  induction m with
  | zero => rfl
  | succ m ih => simp [bb, ih]
theorem bb_byt (n m : Nat) : Byt (bb n m) := by
  induction m with
  | zero => intro x hx; cases hx
  | succ m ih =>
    intro x hx
    rcases List.mem_cons.1 hx with h | h
    · subst h; omega
    · exact ih x h
/-- Bytes as a number. -/
def beFrom (a : Nat) (l : List Int) : Nat := l.foldl (fun a x => a * 256 + x.toNat) a
def be (l : List Int) : Nat := beFrom 0 l
theorem be_bb_from (n m : Nat) : ∀ a, beFrom a (bb n m) = a * 256 ^ m + n % 256 ^ m := by
  induction m with
  | zero => intro a; simp [beFrom, bb, Nat.mod_one]
  | succ m ih =>
    intro a
    show beFrom (a * 256 + ((n / 256 ^ m % 256 : Nat) : Int).toNat) (bb n m) = _
    have hm : n % (256 ^ m * 256) = n % 256 ^ m + 256 ^ m * (n / 256 ^ m % 256) := Nat.mod_mul
    rw [ih, Int.toNat_natCast, Nat.add_mul, Nat.pow_succ, hm, Nat.mul_assoc, Nat.mul_comm 256 (256 ^ m), Nat.mul_comm (256 ^ m) (n / 256 ^ m % 256)]
    omega
theorem be_bb (n m : Nat) (h : n < 256 ^ m) : be (bb n m) = n := by
  unfold be
  rw [be_bb_from, Nat.mod_eq_of_lt h, Nat.zero_mul, Nat.zero_add]
theorem be_lt_from (l : List Int) (hl : Byt l) : ∀ a, beFrom a l < (a + 1) * 256 ^ l.length := by
  induction l with
  | nil => intro a; simp [beFrom]
  | cons x l ih =>
    intro a
    have hx := hl x (by simp)
    have h := ih (fun y hy => hl y (by simp [hy])) (a * 256 + x.toNat)
    show beFrom (a * 256 + x.toNat) l < _
    refine Nat.lt_of_lt_of_le h ?_
    rw [List.length_cons, Nat.pow_succ, Nat.mul_comm (256 ^ l.length) 256, ← Nat.mul_assoc]
    exact Nat.mul_le_mul_right _ (by omega)
theorem be_lt (l : List Int) (hl : Byt l) : be l < 256 ^ l.length := by
  have := be_lt_from l hl 0
  simpa [be] using this
theorem bb_be (l : List Int) (hl : Byt l) : bb (be l) l.length = l := by
  have key : ∀ (l : List Int), Byt l → ∀ a, bb (beFrom a l) l.length = l := by
    intro l
    induction l with
    | nil => intro _ a; rfl
    | cons x l ih =>
      intro hl a
      have hx := hl x (by simp)
      have hl' : Byt l := fun y hy => hl y (by simp [hy])
      show ((beFrom (a * 256 + x.toNat) l / 256 ^ l.length % 256 : Nat) : Int) :: bb (beFrom (a * 256 + x.toNat) l) l.length = x :: l
      rw [ih hl' (a * 256 + x.toNat)]
      congr 1
      have h1 : ∀ (l : List Int), Byt l → ∀ a, beFrom a l = a * 256 ^ l.length + be l := by
        intro l
        induction l with
        | nil => intro _ a; simp [beFrom, be]
        | cons y l ih2 =>
          intro hl a
          have hl' : Byt l := fun z hz => hl z (by simp [hz])
          show beFrom (a * 256 + y.toNat) l = a * 256 ^ (l.length + 1) + beFrom (0 * 256 + y.toNat) l
          rw [ih2 hl' (a * 256 + y.toNat), ih2 hl' (0 * 256 + y.toNat), Nat.pow_succ, Nat.add_mul, Nat.zero_mul, Nat.zero_add, Nat.mul_assoc, Nat.mul_comm 256]
          omega
      rw [h1 l hl' (a * 256 + x.toNat), Nat.mul_comm, Nat.mul_add_div (Nat.pow_pos (by decide)), Nat.div_eq_of_lt (be_lt l hl')]
      omega
  exact key l hl 0
theorem u64_wrap (n : Int) (h0 : 0 ≤ n) (h1 : n < 18446744073709551616) : IntKind.u64.wrap n = n := by
  simp [IntKind.wrap, IntKind.bits, IntKind.signed]
  omega
theorem wraps_u64 (n : Int) (h₀ : 0 ≤ n) (h₁ : n < 2 ^ 64) : IntKind.u64.wrap n = n := u64_wrap n h₀ (by omega)
theorem or_add (n x : Nat) (hn : n < 2 ^ 56) (hx : x < 256) : Go.bits .or .u64 (IntKind.u64.wrap ((n : Int) * 256)) (IntKind.u64.wrap (x : Int)) = ((n * 256 + x : Nat) : Int) := by
  rw [u64_wrap _ (by omega) (by omega), u64_wrap _ (by omega) (by omega), show ((n : Int) * 256) = ((n * 256 : Nat) : Int) by omega]
  rw [(bits_nat .u64 64 (by decide) wraps_u64 (n * 256) x (by omega) (by omega)).2]
  congr 1
  have := Nat.two_pow_add_eq_or_of_lt (i := 8) (b := x) (by omega) n
  rw [Nat.mul_comm n 256]
  exact this.symm
theorem wr {a : Int} (h1 : -9223372036854775808 ≤ a) (h2 : a ≤ 9223372036854775807) : wrap64 a = a := by unfold wrap64; omega
end Go.Proofs.Ytkbialmlddhclaa.NumMath

/- What numbers laid as bytes, and read of them, come to, in plain words. -/
namespace Go.Proofs.Ytkbialmlddhclaa.CodecFacts
open Go.RowKit Go.Proofs.YtkbialmlddhclaaW.PrintWords Go.Proofs.YtkbialmlddhclaaW.PrintLast Go.Proofs.YtkbialmlddhclaaW.PrintMore Go.Proofs.Ytkbialmlddhclaa.QCodec Go.Proofs.Ytkbialmlddhclaa.NumMath

theorem shr8 (n i : Nat) (hi : i ≤ 7) : shr .u64 (n : Int) (8 * (i : Int)) = ((n / 256 ^ i : Nat) : Int) := by
  unfold shr
  have e : (8 * (i : Int)).toNat = 8 * i := by omega
  rw [e, show IntKind.u64.bits = 64 from rfl, Nat.min_eq_left (by omega), show (256 : Nat) = 2 ^ 8 from rfl, ← Nat.pow_mul]
  norm_cast
theorem put_loop (j : Nat) : ∀ (k n : Nat) (l : List Int), j ≤ 8 → l.length + j ≤ 1000010 → j < k → nums_Put.l0 k (n : Int) l ((j : Int) - 1) = some (l ++ bb n j) := by
  induction j with
  | zero =>
    intro k n l hj hl hk
    obtain ⟨k, rfl⟩ : ∃ m, k = m + 1 := ⟨k - 1, by omega⟩
    simp only [nums_Put.l0]
    rw [if_neg (by omega)]
    simp [bb]
  | succ j ih =>
    intro k n l hj hl hk
    obtain ⟨k, rfl⟩ : ∃ m, k = m + 1 := ⟨k - 1, by omega⟩
    simp only [nums_Put.l0]
    rw [if_pos (by omega), show ((j + 1 : Nat) : Int) - 1 = (j : Int) by omega, wr (a := 8 * (j : Int)) (by omega) (by omega), if_pos (by omega), if_pos (by omega), wr (a := (j : Int) - 1) (by omega) (by omega), shr8 n j (by omega), ih k n _ (by omega) (by simp; omega) (by omega), List.append_assoc]
    simp [bb]
theorem put_is (k n m : Nat) (l : List Int) (hm : m ≤ 8) (hl : l.length ≤ 1000000) (hk : 9 ≤ k) : nums_Put.f k l (n : Int) (m : Int) = some (l ++ bb n m) := by
  unfold nums_Put.f slices_Clone_byte_byte.f
  rw [if_pos (by omega), Option.bind_some]
  have e : mn (mx (m : Int) 0) 8 = (m : Int) := by unfold mn mx; split <;> split <;> omega
  rw [e]
  exact put_loop m k n l hm (by omega) (by omega)
theorem lay_loop (d : Nat) : ∀ (k n c i : Nat) (l : List Int), i + d = 8 → c ≤ 8 → l.length + d ≤ 1000000 → d < k → spenceref01_Lay.l0 k (n : Int) (c : Int) l (i : Int) = some (l ++ bb n (min c d)) := by
  induction d with
  | zero =>
    intro k n c i l hi hc hl hk
    obtain ⟨k, rfl⟩ : ∃ m, k = m + 1 := ⟨k - 1, by omega⟩
    simp only [spenceref01_Lay.l0]
    rw [if_neg (by omega), Nat.min_zero]
    simp [bb]
  | succ d ih =>
    intro k n c i l hi hc hl hk
    obtain ⟨k, rfl⟩ : ∃ m, k = m + 1 := ⟨k - 1, by omega⟩
    simp only [spenceref01_Lay.l0]
    have e1 : wrap64 (8 * (i : Int)) = 8 * (i : Int) := wr (by omega) (by omega)
    have e2 : wrap64 (56 - 8 * (i : Int)) = 8 * (d : Int) := by rw [wr (by omega) (by omega)]; omega
    rw [if_pos (by omega), wr (a := 8 - (c : Int)) (by omega) (by omega), e1, e2, wr (a := (i : Int) + 1) (by omega) (by omega), show (i : Int) + 1 = ((i + 1 : Nat) : Int) by omega]
    by_cases h : (i : Int) ≥ 8 - (c : Int)
    · rw [if_pos h, if_pos (by omega), if_pos (by omega), shr8 n d (by omega), ih k n c (i + 1) _ (by omega) hc (by simp; omega) (by omega), Nat.min_eq_right (by omega), Nat.min_eq_right (by omega), List.append_assoc]
      simp [bb]
    · rw [if_neg h, ih k n c (i + 1) _ (by omega) hc (by omega) (by omega), Nat.min_eq_left (by omega), Nat.min_eq_left (by omega)]
theorem lay_is (k n c : Nat) (hc : c ≤ 8) (hk : 9 ≤ k) : spenceref01_Lay.f k (n : Int) (c : Int) = some (bb n c) := by
  have h := lay_loop 8 k n c 0 [] rfl hc (by simp) (by omega)
  rw [Nat.min_eq_left hc, List.nil_append] at h
  exact h
/-- An object's and a generation's bytes. -/
def begun (o g : Nat) : List Int := bb o 1 ++ bb g 4
theorem begun_len (o g : Nat) : (begun o g).length = 5 := by simp [begun, bb_len]
theorem begin_is (k o g : Nat) (ho : o < 2 ^ 63) (hg : g < 2 ^ 63) (hk : 9 ≤ k) : codec_begin.f k (o : Int) (g : Int) = some (begun o g) := by
  unfold codec_begin.f
  rw [u64_wrap _ (by omega) (by omega), u64_wrap _ (by omega) (by omega)]
  rw [show (1 : Int) = ((1 : Nat) : Int) from rfl, put_is k o 1 [] (by omega) (by simp) hk, Option.bind_some, show (4 : Int) = ((4 : Nat) : Int) from rfl, put_is k g 4 _ (by omega) (by simp [bb_len]) hk]
  rfl
theorem refbegin_is (k o g : Nat) (_ho : o < 2 ^ 63) (hg : g < 2 ^ 63) (hk : 9 ≤ k) : spenceref17_begin.f k (o : Int) (g : Int) = some (begun o g) := by
  unfold spenceref17_begin.f
  rw [Option.bind_some, u64_wrap _ (by omega) (by omega), show (4 : Int) = ((4 : Nat) : Int) from rfl, lay_is k g 4 (by omega) hk, Option.bind_some, if_pos (by simp [bb_len])]
  simp [begun, bb]
theorem beOr_from (l : List Int) (hl : Byt l) : ∀ a : Nat, a < 256 ^ (8 - l.length) → l.length ≤ 8 → beOr l (a : Int) = ((beFrom a l : Nat) : Int) := by
  induction l with
  | nil => intro a _ _; rfl
  | cons x l ih =>
    intro a ha h8
    have hx := hl x (by simp)
    have hl' : Byt l := fun y hy => hl y (by simp [hy])
    simp only [List.length_cons] at ha h8
    have ha2 : a < 2 ^ 56 := Nat.lt_of_lt_of_le ha (by
      rw [show (2 : Nat) ^ 56 = 256 ^ 7 by decide]
      exact Nat.pow_le_pow_right (by decide) (by omega))
    obtain ⟨x, rfl⟩ := Int.eq_ofNat_of_zero_le hx.1
    show beOr l (Go.bits .or .u64 (IntKind.u64.wrap ((a : Int) * 256)) (IntKind.u64.wrap (x : Int))) = _
    rw [or_add a x ha2 (by omega)]
    have hstep : a * 256 + x < 256 ^ (8 - l.length) := by
      rw [show 8 - l.length = (8 - (l.length + 1)) + 1 by omega, Nat.pow_succ]
      omega
    exact ih hl' _ hstep (by omega)
theorem beOr_is (l : List Int) (hl : Byt l) (h8 : l.length ≤ 8) : beOr l 0 = ((be l : Nat) : Int) :=
  beOr_from l hl 0 (Nat.pow_pos (by decide)) h8
theorem number_loop (d : Nat) : ∀ (k i : Nat) (l : List Int), Byt l → l.length ≤ 8 → i + d = l.length → d < k → spenceref17_number.l0 k ((be (l.take i) : Nat) : Int) l (l.length : Int) (i : Int) = some (wrap64 ((be l : Nat) : Int)) := by
  induction d with
  | zero =>
    intro k i l hl h8 hi hk
    obtain ⟨k, rfl⟩ : ∃ m, k = m + 1 := ⟨k - 1, by omega⟩
    simp only [spenceref17_number.l0]
    rw [if_neg (by omega), List.take_of_length_le (by omega)]
  | succ d ih =>
    intro k i l hl h8 hi hk
    obtain ⟨k, rfl⟩ : ∃ m, k = m + 1 := ⟨k - 1, by omega⟩
    have hlt : i < l.length := by omega
    have hr : rd l (i : Int) = l[i] := by simp [rd, List.getD_eq_getElem?_getD, List.getElem?_eq_getElem hlt]
    have hx := hl _ (List.getElem_mem hlt)
    have hb : be (l.take i) < 256 ^ 7 := Nat.lt_of_lt_of_le (be_lt _ (hl.take i)) (Nat.pow_le_pow_right (by decide) (by rw [List.length_take]; omega))
    have hs : be (l.take (i + 1)) = be (l.take i) * 256 + (l[i]).toNat := by
      rw [List.take_succ_eq_append_getElem hlt, be, beFrom, List.foldl_append]
      rfl
    simp only [spenceref17_number.l0]
    rw [if_pos (by omega), if_pos (by omega), if_pos (by omega), hr, u64_wrap (l[i]) (by omega) (by omega), u64_wrap (((be (l.take i) : Nat) : Int) * 256) (by omega) (by omega), u64_wrap _ (by omega) (by omega), wr (a := (i : Int) + 1) (by omega) (by omega), show (i : Int) + 1 = ((i + 1 : Nat) : Int) by omega,
      show (((be (l.take i) : Nat) : Int) * 256 + l[i]) = ((be (l.take (i + 1)) : Nat) : Int) by rw [hs]; omega]
    exact ih k (i + 1) l hl h8 (by omega) (by omega)
theorem number_is (k : Nat) (l : List Int) (hl : Byt l) (h8 : l.length ≤ 8) (hk : l.length < k) : spenceref17_number.f k l = some (wrap64 ((be l : Nat) : Int)) :=
  number_loop l.length k 0 l hl h8 (by omega) hk
end Go.Proofs.Ytkbialmlddhclaa.CodecFacts

/- What pieces as bytes, and bytes as pieces, come to, in plain words. -/
namespace Go.Proofs.Ytkbialmlddhclaa.CodecFacts
open Go.RowKit Go.Proofs.YtkbialmlddhclaaW.PrintWords Go.Proofs.YtkbialmlddhclaaW.PrintLast Go.Proofs.YtkbialmlddhclaaW.PrintMore Go.Proofs.Ytkbialmlddhclaa.QCodec Go.Proofs.Ytkbialmlddhclaa.NumMath

abbrev Own (o g : Int) : Prop := 0 ≤ o ∧ o ≤ 15 ∧ 1 ≤ g ∧ g ≤ 2147483647
abbrev OkP (o g i : Int) (n : Nat) : Prop := Own o g ∧ 0 ≤ i ∧ i ≤ 4096 ∧ 1 ≤ n ∧ n ≤ 64
theorem fits_is (a b c : Int) : nums_Fits.f a b c = some (decide (b ≤ a ∧ a ≤ c)) := by
  unfold nums_Fits.f
  by_cases h : a ≥ b
  · rw [if_pos h]; congr 1; exact decide_eq_decide.2 ⟨fun h2 => ⟨h, h2⟩, fun h2 => h2.2⟩
  · rw [if_neg h, decide_eq_false (by omega)]
theorem owner_is (o g : Int) : codec_owner.f o g = some (decide (Own o g)) := by
  unfold codec_owner.f Own
  rw [fits_is, fits_is, Option.bind_some]
  by_cases h : 0 ≤ o ∧ o ≤ 15
  · rw [if_pos (decide_eq_true h), Option.bind_some]; congr 1; exact decide_eq_decide.2 (by omega)
  · rw [if_neg (by simpa using h), decide_eq_false (by omega)]
theorem refowner_is (o g : Int) : spenceref17_owner.f o g = some (decide (Own o g)) := by
  unfold spenceref17_owner.f Own
  by_cases h1 : o ≥ 0
  · rw [if_pos h1]
    by_cases h2 : o ≤ 15
    · rw [if_pos h2]
      by_cases h3 : g ≥ 1
      · rw [if_pos h3]; congr 1; exact decide_eq_decide.2 (by omega)
      · rw [if_neg h3, decide_eq_false (by omega)]
    · rw [if_neg h2, decide_eq_false (by omega)]
  · rw [if_neg h1, decide_eq_false (by omega)]
theorem bytes_loop (n : Nat) : ∀ (k i : Nat) (a b : List Int), a.length = b.length → i + n = a.length → a.length ≤ 9223372036854775806 → n < k → spenceref01_Bytes.l0 k a b (a.length : Int) (i : Int) = some (decide (a.drop i = b.drop i)) := by
  induction n with
  | zero =>
    intro k i a b hab hi hm hk
    obtain ⟨k, rfl⟩ : ∃ m, k = m + 1 := ⟨k - 1, by omega⟩
    simp only [spenceref01_Bytes.l0]
    rw [if_neg (by omega), List.drop_of_length_le (by omega), List.drop_of_length_le (by omega)]
    simp
  | succ n ih =>
    intro k i a b hab hi hm hk
    obtain ⟨k, rfl⟩ : ∃ m, k = m + 1 := ⟨k - 1, by omega⟩
    have ea : a.drop i = rd a i :: a.drop (i + 1) := by
      rw [List.drop_eq_getElem_cons (by omega)]
      simp [rd, List.getD_eq_getElem?_getD, List.getElem?_eq_getElem (show i < a.length by omega)]
    have eb : b.drop i = rd b i :: b.drop (i + 1) := by
      rw [List.drop_eq_getElem_cons (by omega)]
      simp [rd, List.getD_eq_getElem?_getD, List.getElem?_eq_getElem (show i < b.length by omega)]
    simp only [spenceref01_Bytes.l0]
    rw [if_pos (by omega), if_pos (by omega), if_pos (by omega), if_pos (by omega), ea, eb]
    by_cases h : rd a i = rd b i
    · rw [if_pos h, wr (a := (i : Int) + 1) (by omega) (by omega), show (i : Int) + 1 = ((i + 1 : Nat) : Int) by omega, ih k (i + 1) a b hab (by omega) hm (by omega)]
      simp [h]
    · rw [if_neg h]
      simp [h]
theorem bytes_is (k : Nat) (a b : List Int) (hm : a.length ≤ 9223372036854775806) (hk : a.length < k) : spenceref01_Bytes.f k a b = some (decide (a = b)) := by
  unfold spenceref01_Bytes.f
  by_cases h : a.length = b.length
  · rw [if_pos (by omega)]
    have := bytes_loop a.length k 0 a b h (by omega) hm hk
    simpa using this
  · rw [if_neg (by omega), decide_eq_false (fun e => h (by rw [e]))]
/-- The numbers that bytes begin with. -/
def nO (l : List Int) : Int := rd l 0
def nG (l : List Int) : Int := ((be ((l.drop 1).take 4) : Nat) : Int)
def nI (l : List Int) : Int := ((be ((l.drop 5).take 2) : Nat) : Int)
theorem rd_byt {l : List Int} (hl : Byt l) (h : 0 < l.length) : 0 ≤ rd l 0 ∧ rd l 0 ≤ 255 := by
  have := hl _ (List.getElem_mem h)
  simpa [rd, List.getD_eq_getElem?_getD, List.getElem?_eq_getElem h] using this
theorem be_one {l : List Int} (hl : Byt l) (h : 0 < l.length) : ((be (l.take 1) : Nat) : Int) = rd l 0 := by
  have h1 : l.take 1 = [rd l 0] := by
    rw [List.take_succ_eq_append_getElem h]
    simp [rd, List.getD_eq_getElem?_getD, List.getElem?_eq_getElem h]
  have h2 := rd_byt hl h
  rw [h1]
  show ((0 * 256 + (rd l 0).toNat : Nat) : Int) = rd l 0
  omega
theorem be4_lt (l : List Int) (hl : Byt l) (n : Nat) (hn : n ≤ 4) : be (l.take n) < 256 ^ 4 :=
  Nat.lt_of_lt_of_le (be_lt _ (hl.take n)) (Nat.pow_le_pow_right (by decide) (by rw [List.length_take]; omega))
theorem took_yes (l : List Int) (n : Nat) (h : n ≤ l.length) : took (l, true) n = (wrap64 (beOr (l.take n) 0), l.drop n, true) := by unfold took; rw [if_pos h]
theorem took_flag (s : List Int × Bool) (n : Nat) : (took s n).2.2 = true → s.2 = true ∧ n ≤ s.1.length ∧ (took s n).2.1 = s.1.drop n := by
  unfold took
  split
  · intro h; exact ⟨h, by assumption, rfl⟩
  · intro h; cases h
theorem awake_is (k : Nat) (hk : 9 ≤ k) : spencelaw17_awake.f k = some true := by
  unfold spencelaw17_awake.f codec_PutDrop.f
  rw [owner_is, Option.bind_some, if_pos (by decide), show (1 : Int) = ((1 : Nat) : Int) from rfl, show (2 : Int) = ((2 : Nat) : Int) from rfl, begin_is k 1 2 (by decide) (by decide) hk]
  decide +kernel
end Go.Proofs.Ytkbialmlddhclaa.CodecFacts

/- What binds and drops as bytes, and bytes as binds and drops, come to; and the law CodecDrops. -/
namespace Go.Proofs.Ytkbialmlddhclaa.CodecFacts
open Go.RowKit Go.Proofs.YtkbialmlddhclaaW.PrintWords Go.Proofs.YtkbialmlddhclaaW.PrintLast Go.Proofs.YtkbialmlddhclaaW.PrintMore Go.Proofs.Ytkbialmlddhclaa.QCodec Go.Proofs.Ytkbialmlddhclaa.NumMath

/-- A byte that a tag may hold. -/
abbrev OkC (b : Int) : Prop := b = 33 ∨ (35 ≤ b ∧ b ≠ 127)
def tg (s : ByteArray) : Nat → Nat → Bool
  | 0, _ => true
  | d + 1, i => if OkC (bt s (i : Int)) then tg s d (i + 1) else false
theorem may_is (a : Int) : etag_may.f a = some (decide (OkC a)) := by
  unfold etag_may.f OkC
  by_cases h1 : a ≥ 128
  · rw [if_pos h1, decide_eq_true (by omega)]
  rw [if_neg h1]
  by_cases h2 : a = 33
  · rw [if_pos h2, decide_eq_true (by omega)]
  rw [if_neg h2]
  by_cases h3 : a = 127
  · rw [if_pos h3, decide_eq_false (by omega)]
  rw [if_neg h3]
  congr 1
  exact decide_eq_decide.2 ⟨fun h => .inr ⟨h, h3⟩, fun h => by omega⟩
theorem plain_loop (d : Nat) : ∀ (k i : Nat) (s : ByteArray), s.size ≤ 1000000 → i + d = s.size → d < k → etag_plain.l0 k s (s.size : Int) (i : Int) = some (tg s d i) := by
  induction d with
  | zero =>
    intro k i s hs hi hk
    obtain ⟨k, rfl⟩ : ∃ m, k = m + 1 := ⟨k - 1, by omega⟩
    rw [etag_plain.l0, if_neg (by omega), tg]
  | succ d ih =>
    intro k i s hs hi hk
    obtain ⟨k, rfl⟩ : ∃ m, k = m + 1 := ⟨k - 1, by omega⟩
    rw [etag_plain.l0, if_pos (by omega), if_pos (by omega), if_pos (by omega), may_is, Option.bind_some, tg]
    by_cases h : OkC (bt s (i : Int))
    · rw [if_pos (decide_eq_true h), if_pos h, wr (a := (i : Int) + 1) (by omega) (by omega), show (i : Int) + 1 = ((i + 1 : Nat) : Int) by omega]
      exact ih k (i + 1) s hs (by omega) (by omega)
    · rw [if_neg (fun x => h (of_decide_eq_true x)), if_neg h]
theorem tag_loop (d : Nat) : ∀ (k i : Nat) (s : ByteArray), s.size ≤ 1000000 → i + d = s.size → d < k → spenceref04_Tag.l0 k s (i : Int) = some (tg s d i) := by
  induction d with
  | zero =>
    intro k i s hs hi hk
    obtain ⟨k, rfl⟩ : ∃ m, k = m + 1 := ⟨k - 1, by omega⟩
    rw [spenceref04_Tag.l0, if_neg (by omega), tg]
  | succ d ih =>
    intro k i s hs hi hk
    obtain ⟨k, rfl⟩ : ∃ m, k = m + 1 := ⟨k - 1, by omega⟩
    rw [spenceref04_Tag.l0, if_pos (by omega), if_pos (by omega), tg, wr (a := (i : Int) + 1) (by omega) (by omega), show (i : Int) + 1 = ((i + 1 : Nat) : Int) by omega]
    have e := ih k (i + 1) s hs (by omega) (by omega)
    by_cases h1 : bt s (i : Int) = 33
    · rw [if_pos h1, if_pos (c := OkC _) (.inl h1), e]
    rw [if_neg h1]
    by_cases h2 : bt s (i : Int) < 35
    · rw [if_pos h2, if_neg (c := OkC _) (by omega)]
    rw [if_neg h2]
    by_cases h3 : bt s (i : Int) = 127
    · rw [if_pos h3, if_neg (c := OkC _) (by omega)]
    · rw [if_neg h3, if_pos (c := OkC _) (by omega), e]
theorem bind_agree (k : Nat) (o g : Int) (s : ByteArray) (n t : Int) (hs : s.size ≤ 1000000) (hk : s.size < k) : ∃ r, codec_bind.f k o g s n t = some r ∧ spenceref17_RightBind.f k o g s n t = some r := by
  unfold codec_bind.f spenceref17_RightBind.f
  rw [owner_is, refowner_is, Option.bind_some, Option.bind_some]
  by_cases h1 : Own o g
  · rw [if_pos (decide_eq_true h1), if_pos (decide_eq_true h1), fits_is, Option.bind_some]
    by_cases h2 : 0 ≤ n ∧ n ≤ 4096
    · rw [if_pos (decide_eq_true h2), if_pos (by omega), if_pos (by omega), fits_is, Option.bind_some]
      by_cases h3 : 0 ≤ t ∧ t ≤ 4611686018427387903
      · have e1 := plain_loop s.size k 0 s hs (by omega) hk
        have e2 := tag_loop s.size k 0 s hs (by omega) hk
        rw [if_pos (decide_eq_true h3), if_pos (by omega), if_pos (by omega)]
        unfold etag_Right.f etag_plain.f spenceref04_Tag.f
        rw [show (0 : Int) = ((0 : Nat) : Int) from rfl, e1, e2, Option.bind_some]
        by_cases h4 : (s.size : Int) ≤ 40
        · rw [if_pos h4, decide_eq_true h4]
          cases tg s s.size 0 <;> exact ⟨_, rfl, rfl⟩
        · rw [if_neg h4, decide_eq_false h4]
          cases tg s s.size 0 <;> exact ⟨_, rfl, rfl⟩
      · rw [if_neg (fun x => h3 (of_decide_eq_true x))]
        refine ⟨false, rfl, ?_⟩
        by_cases h4 : t ≥ 0
        · rw [if_pos h4, if_neg (by omega)]
        · rw [if_neg h4]
    · rw [if_neg (fun x => h2 (of_decide_eq_true x))]
      refine ⟨false, rfl, ?_⟩
      by_cases h4 : n ≥ 0
      · rw [if_pos h4, if_neg (by omega)]
      · rw [if_neg h4]
  · rw [if_neg (fun x => h1 (of_decide_eq_true x)), if_neg (fun x => h1 (of_decide_eq_true x))]
    exact ⟨_, rfl, rfl⟩
/-- The moment that a bind's bytes tell. -/
def nT (l : List Int) : Int := wrap64 ((be ((l.drop 7).take 8) : Nat) : Int)
theorem got_yes (l : List Int) (hl : Byt l) (h : 15 ≤ l.length) : got l = (nO l, nG l, nI l, nT l, l.drop 15, true) := by
  have e1 := took_yes l 1 (by omega)
  have e2 := took_yes (l.drop 1) 4 (by rw [List.length_drop]; omega)
  have e3 := took_yes ((l.drop 1).drop 4) 2 (by rw [List.length_drop, List.length_drop]; omega)
  have e4 := took_yes (((l.drop 1).drop 4).drop 2) 8 (by rw [List.length_drop, List.length_drop, List.length_drop]; omega)
  simp only [got, e1, e2, e3, e4]
  have b1 := be4_lt l hl 1 (by omega)
  have b2 := be4_lt (l.drop 1) (hl.drop 1) 4 (by omega)
  have b3 := be4_lt (l.drop 5) (hl.drop 5) 2 (by omega)
  have h1 := be_one hl (by omega)
  rw [List.drop_drop, List.drop_drop, List.drop_drop, beOr_is _ (hl.take 1) (by rw [List.length_take]; omega), beOr_is _ ((hl.drop 1).take 4) (by rw [List.length_take]; omega), beOr_is _ ((hl.drop _).take 2) (by rw [List.length_take]; omega), beOr_is _ ((hl.drop _).take 8) (by rw [List.length_take]; omega)]
  rw [wr (by omega) (by omega), wr (by omega) (by omega), show 1 + 4 = 5 from rfl, wr (by omega) (by omega), h1]
  rfl
theorem got_no (l : List Int) (h : l.length < 15) : (got l).2.2.2.2.2 = false := by
  cases hf : (got l).2.2.2.2.2 with
  | false => rfl
  | true =>
    exfalso
    obtain ⟨f3, n4, _⟩ := took_flag _ 8 hf
    obtain ⟨f2, n3, d3⟩ := took_flag _ 2 f3
    obtain ⟨f1, n2, d2⟩ := took_flag _ 4 f2
    obtain ⟨_, n1, d1⟩ := took_flag _ 1 f1
    have e1 : (took (l, true) 1).2.1.length = l.length - 1 := by rw [d1, List.length_drop]
    have e2 : (took (took (l, true) 1).2 4).2.1.length = (took (l, true) 1).2.1.length - 4 := by rw [d2, List.length_drop]
    have e3 : (took (took (took (l, true) 1).2 4).2 2).2.1.length = (took (took (l, true) 1).2 4).2.1.length - 2 := by rw [d3, List.length_drop]
    omega
theorem begun_byt (o g : Nat) : Byt (begun o g) := (bb_byt _ _).app (bb_byt _ _)
end Go.Proofs.Ytkbialmlddhclaa.CodecFacts

/- The law CodecBinds. -/
namespace Go.Proofs.Ytkbialmlddhclaa.CodecFacts
open Go.RowKit Go.Proofs.YtkbialmlddhclaaW.PrintWords Go.Proofs.YtkbialmlddhclaaW.PrintLast Go.Proofs.YtkbialmlddhclaaW.PrintMore Go.Proofs.Ytkbialmlddhclaa.QCodec Go.Proofs.Ytkbialmlddhclaa.NumMath

/-- Whether a bind may be. -/
def okB (o g : Int) (s : ByteArray) (n t : Int) : Bool := decide (Own o g) && decide (0 ≤ n ∧ n ≤ 4096) && decide (0 ≤ t ∧ t ≤ 4611686018427387903) && (tg s s.size 0 && decide ((s.size : Int) ≤ 40))
theorem okB_true {o g : Int} {s : ByteArray} {n t : Int} (h : okB o g s n t = true) : Own o g ∧ (0 ≤ n ∧ n ≤ 4096) ∧ (0 ≤ t ∧ t ≤ 4611686018427387903) ∧ (s.size : Int) ≤ 40 := by
  unfold okB at h
  rw [Bool.and_eq_true, Bool.and_eq_true, Bool.and_eq_true, Bool.and_eq_true] at h
  exact ⟨of_decide_eq_true h.1.1.1, of_decide_eq_true h.1.1.2, of_decide_eq_true h.1.2, of_decide_eq_true h.2.2⟩
theorem bind_is (k : Nat) (o g : Int) (s : ByteArray) (n t : Int) (hs : s.size ≤ 1000000) (hk : s.size < k) : codec_bind.f k o g s n t = some (okB o g s n t) := by
  unfold codec_bind.f okB
  rw [owner_is, Option.bind_some]
  by_cases h1 : Own o g
  · rw [if_pos (decide_eq_true h1), fits_is, Option.bind_some, decide_eq_true h1]
    by_cases h2 : 0 ≤ n ∧ n ≤ 4096
    · rw [if_pos (decide_eq_true h2), fits_is, Option.bind_some, decide_eq_true h2]
      by_cases h3 : 0 ≤ t ∧ t ≤ 4611686018427387903
      · have e1 := plain_loop s.size k 0 s hs (by omega) hk
        rw [if_pos (decide_eq_true h3), decide_eq_true h3]
        unfold etag_Right.f etag_plain.f
        rw [show etag_plain.l0 k s (s.size : Int) 0 = _ from e1, Option.bind_some]
        cases tg s s.size 0 <;> rfl
      · rw [if_neg (fun x => h3 (of_decide_eq_true x)), decide_eq_false h3]; rfl
    · rw [if_neg (fun x => h2 (of_decide_eq_true x)), decide_eq_false h2]; rfl
  · rw [if_neg (fun x => h1 (of_decide_eq_true x)), decide_eq_false h1]; rfl
theorem refbind_is (k : Nat) (o g : Int) (s : ByteArray) (n t : Int) (hs : s.size ≤ 1000000) (hk : s.size < k) : spenceref17_RightBind.f k o g s n t = some (okB o g s n t) := by
  obtain ⟨r, h1, h2⟩ := bind_agree k o g s n t hs hk
  rw [h2, ← h1, bind_is k o g s n t hs hk]
theorem bytes_str (l : List Int) (hl : Byt l) : bytesOf (strOfNums l) = l := by
  rw [bytesOf, strOfNums_data, List.map_map]
  conv => rhs; rw [← List.map_id l]
  refine List.map_congr_left fun x hx => ?_
  have := hl x hx
  simp only [Function.comp, id, UInt8.toNat_ofNat']
  omega
theorem str_bytes (s : ByteArray) : strOfNums (bytesOf s) = s := by
  obtain ⟨⟨d⟩⟩ := s
  simp only [strOfNums, bytesOf, List.map_map]
  congr 2
  conv => rhs; rw [← List.map_id d]
  refine List.map_congr_left fun x _ => ?_
  simp
/-- A bind's bytes. -/
def encB (o g : Int) (s : ByteArray) (n t : Int) : List Int := begun o.toNat g.toNat ++ bb n.toNat 2 ++ bb t.toNat 8 ++ bytesOf s
theorem encB_len (o g : Int) (s : ByteArray) (n t : Int) : (encB o g s n t).length = s.size + 15 := by simp [encB, begun_len, bb_len, bytesOf_length]; omega
theorem bytesOf_byt (s : ByteArray) : Byt (bytesOf s) := by
  intro x hx
  unfold bytesOf at hx
  obtain ⟨b, _, rfl⟩ := List.mem_map.1 hx
  have := UInt8.toNat_lt b
  omega
theorem encB_byt (o g : Int) (s : ByteArray) (n t : Int) : Byt (encB o g s n t) := (((begun_byt _ _).app (bb_byt _ _)).app (bb_byt _ _)).app (bytesOf_byt s)
theorem putB_is (k : Nat) (o g : Int) (s : ByteArray) (n t : Int) (hs : s.size ≤ 1000000) (hk : s.size + 9 ≤ k) : codec_PutBind.f k o g s n t = some (if okB o g s n t = true then (encB o g s n t, 0) else ([], 1)) := by
  unfold codec_PutBind.f
  rw [bind_is k o g s n t hs (by omega), Option.bind_some]
  by_cases h : okB o g s n t = true
  · obtain ⟨h1, h2, h3, h4⟩ := okB_true h
    have e := begin_is k o.toNat g.toNat (by omega) (by omega) (by omega)
    rw [show ((o.toNat : Nat) : Int) = o by omega, show ((g.toNat : Nat) : Int) = g by omega] at e
    have en := put_is k n.toNat 2 (begun o.toNat g.toNat) (by omega) (by rw [begun_len]; omega) (by omega)
    have et := put_is k t.toNat 8 (begun o.toNat g.toNat ++ bb n.toNat 2) (by omega) (by rw [List.length_append, begun_len, bb_len]; omega) (by omega)
    rw [show ((n.toNat : Nat) : Int) = n by omega] at en
    rw [show ((t.toNat : Nat) : Int) = t by omega] at et
    rw [if_pos h, if_pos h, e, Option.bind_some, u64_wrap n (by omega) (by omega), show (2 : Int) = ((2 : Nat) : Int) from rfl, en, Option.bind_some, u64_wrap t (by omega) (by omega), show (8 : Int) = ((8 : Nat) : Int) from rfl, et, Option.bind_some, if_pos (by rw [List.length_append, List.length_append, begun_len, bb_len, bb_len]; omega)]
    rfl
  · rw [if_neg h, if_neg h]
theorem refB_is (k : Nat) (o g : Int) (s : ByteArray) (n t : Int) (hk : 9 ≤ k) (h : okB o g s n t = true) : spenceref17_Bind.f k o g s n t = some (encB o g s n t) := by
  unfold spenceref17_Bind.f
  obtain ⟨h1, h2, h3, h4⟩ := okB_true h
  have e := refbegin_is k o.toNat g.toNat (by omega) (by omega) hk
  rw [show ((o.toNat : Nat) : Int) = o by omega, show ((g.toNat : Nat) : Int) = g by omega] at e
  have en := lay_is k n.toNat 2 (by omega) hk
  have et := lay_is k t.toNat 8 (by omega) hk
  rw [show ((n.toNat : Nat) : Int) = n by omega] at en
  rw [show ((t.toNat : Nat) : Int) = t by omega] at et
  rw [e, Option.bind_some, u64_wrap n (by omega) (by omega), show (2 : Int) = ((2 : Nat) : Int) from rfl, en, Option.bind_some, if_pos (by rw [begun_len, bb_len]; omega), Option.bind_some, u64_wrap t (by omega) (by omega), show (8 : Int) = ((8 : Nat) : Int) from rfl, et, Option.bind_some, if_pos (by rw [List.length_append, begun_len, bb_len, bb_len]; omega), Option.bind_some, if_pos (by rw [List.length_append, List.length_append, begun_len, bb_len, bb_len]; omega)]
  rfl
theorem getB_is (k : Nat) (l : List Int) (hl : Byt l) (hm : l.length ≤ 1000000) (hk : l.length + 9 ≤ k) (h : 15 ≤ l.length) :
    codec_GetBind.f k l = some (if okB (nO l) (nG l) (strOfNums (l.drop 15)) (nI l) (nT l) = true then (nO l, nG l, strOfNums (l.drop 15), nI l, nT l, 0) else (0, 0, (⟨#[]⟩ : ByteArray), 0, 0, 3)) ∧
    spenceref17_GetBind.f k l = some (if okB (nO l) (nG l) (strOfNums (l.drop 15)) (nI l) (nT l) = true then (nO l, nG l, strOfNums (l.drop 15), nI l, nT l, true) else (0, 0, (⟨#[]⟩ : ByteArray), 0, 0, false)) := by
  have b2 := be4_lt (l.drop 1) (hl.drop 1) 4 (by omega)
  have b3 := be4_lt (l.drop 5) (hl.drop 5) 2 (by omega)
  have r := rd_byt hl (by omega)
  have hsz : (strOfNums (l.drop 15)).size = l.length - 15 := by rw [strOfNums_size, List.length_drop]
  have x1 := bind_is k (nO l) (nG l) (strOfNums (l.drop 15)) (nI l) (nT l) (by omega) (by omega)
  have x2 := refbind_is k (nO l) (nG l) (strOfNums (l.drop 15)) (nI l) (nT l) (by omega) (by omega)
  constructor
  · unfold codec_GetBind.f
    rw [got_yes l hl h]
    simp only
    rw [if_pos trivial, x1, Option.bind_some]
    cases okB (nO l) (nG l) (strOfNums (l.drop 15)) (nI l) (nT l) <;> rfl
  · unfold spenceref17_GetBind.f
    rw [if_neg (by omega), if_pos (by omega), if_pos (by omega), if_pos (by omega), List.drop_take, List.drop_take, List.drop_take, number_is k _ ((hl.drop 1).take _) (by rw [List.length_take]; omega) (by rw [List.length_take]; omega), Option.bind_some, if_pos (by omega), if_pos (by omega), number_is k _ ((hl.drop 5).take _) (by rw [List.length_take]; omega) (by rw [List.length_take]; omega), Option.bind_some, if_pos (by omega), if_pos (by omega), number_is k _ ((hl.drop 7).take _) (by rw [List.length_take]; omega) (by rw [List.length_take]; omega), Option.bind_some,
      wr (a := rd l 0) (by omega) (by omega), show 5 - 1 = 4 from rfl, show 7 - 5 = 2 from rfl, show 15 - 7 = 8 from rfl, wr (a := ((be ((l.drop 1).take 4) : Nat) : Int)) (by omega) (by omega), wr (a := ((be ((l.drop 5).take 2) : Nat) : Int)) (by omega) (by omega),
      ← show nO l = rd l 0 from rfl, ← show nG l = ((be ((l.drop 1).take 4) : Nat) : Int) from rfl, ← show nI l = ((be ((l.drop 5).take 2) : Nat) : Int) from rfl, ← show nT l = wrap64 ((be ((l.drop 7).take 8) : Nat) : Int) from rfl, x2, Option.bind_some]
    cases okB (nO l) (nG l) (strOfNums (l.drop 15)) (nI l) (nT l) <;> rfl
theorem getB_short (k : Nat) (l : List Int) (h : l.length < 15) : codec_GetBind.f k l = some (0, 0, (⟨#[]⟩ : ByteArray), 0, 0, 3) ∧ spenceref17_GetBind.f k l = some (0, 0, (⟨#[]⟩ : ByteArray), 0, 0, false) := by
  unfold codec_GetBind.f spenceref17_GetBind.f
  rw [got_no l h, if_neg (by decide), if_pos (by omega)]
  exact ⟨rfl, rfl⟩
theorem wrap_pos (n : Nat) (h : n < 18446744073709551616) (h0 : 0 ≤ wrap64 (n : Int)) : (wrap64 (n : Int)).toNat = n := by
  by_cases h1 : n ≤ 9223372036854775807
  · rw [wr (by omega) (by omega)]; omega
  · exfalso
    have : wrap64 (n : Int) = (n : Int) - 18446744073709551616 := by unfold wrap64; omega
    omega
theorem enc_get (l : List Int) (hl : Byt l) (h : 15 ≤ l.length) (hok : okB (nO l) (nG l) (strOfNums (l.drop 15)) (nI l) (nT l) = true) : encB (nO l) (nG l) (strOfNums (l.drop 15)) (nI l) (nT l) = l := by
  obtain ⟨_, _, h3, _⟩ := okB_true hok
  have b1 := bb_be (l.take 1) (hl.take 1)
  have b2 := bb_be ((l.drop 1).take 4) ((hl.drop 1).take 4)
  have b3 := bb_be ((l.drop 5).take 2) ((hl.drop 5).take 2)
  have b4 := bb_be ((l.drop 7).take 8) ((hl.drop 7).take 8)
  have l1 : (l.take 1).length = 1 := by rw [List.length_take]; omega
  have l2 : ((l.drop 1).take 4).length = 4 := by rw [List.length_take, List.length_drop]; omega
  have l3 : ((l.drop 5).take 2).length = 2 := by rw [List.length_take, List.length_drop]; omega
  have l4 : ((l.drop 7).take 8).length = 8 := by rw [List.length_take, List.length_drop]; omega
  have lt4 := be_lt ((l.drop 7).take 8) ((hl.drop 7).take 8)
  rw [l4] at lt4 b4
  rw [l1] at b1
  rw [l2] at b2
  rw [l3] at b3
  have e1 : (nO l).toNat = be (l.take 1) := by rw [nO, ← be_one hl (by omega)]; omega
  have e2 : (nG l).toNat = be ((l.drop 1).take 4) := by rw [nG]; omega
  have e3 : (nI l).toNat = be ((l.drop 5).take 2) := by rw [nI]; omega
  have e4 : (nT l).toNat = be ((l.drop 7).take 8) := wrap_pos _ (Nat.lt_of_lt_of_le lt4 (by decide)) h3.1
  rw [encB, begun, e1, e2, e3, e4, b1, b2, b3, b4, bytes_str _ (hl.drop 15)]
  have s1 : l.take 1 ++ l.drop 1 = l := List.take_append_drop 1 l
  have s2 : (l.drop 1).take 4 ++ l.drop 5 = l.drop 1 := by have := List.take_append_drop 4 (l.drop 1); rwa [List.drop_drop] at this
  have s3 : (l.drop 5).take 2 ++ l.drop 7 = l.drop 5 := by have := List.take_append_drop 2 (l.drop 5); rwa [List.drop_drop] at this
  have s4 : (l.drop 7).take 8 ++ l.drop 15 = l.drop 7 := by have := List.take_append_drop 8 (l.drop 7); rwa [List.drop_drop] at this
  rw [List.append_assoc, List.append_assoc, List.append_assoc, s4, s3, s2, s1]
theorem encB_parts (o g : Int) (s : ByteArray) (n t : Int) (h : okB o g s n t = true) : nO (encB o g s n t) = o ∧ nG (encB o g s n t) = g ∧ strOfNums ((encB o g s n t).drop 15) = s ∧ nI (encB o g s n t) = n ∧ nT (encB o g s n t) = t := by
  obtain ⟨h1, h2, h3, h4⟩ := okB_true h
  have e : encB o g s n t = bb o.toNat 1 ++ (bb g.toNat 4 ++ (bb n.toNat 2 ++ (bb t.toNat 8 ++ bytesOf s))) := by simp [encB, begun]
  have d1 : (encB o g s n t).drop 1 = bb g.toNat 4 ++ (bb n.toNat 2 ++ (bb t.toNat 8 ++ bytesOf s)) := by rw [e, List.drop_left' (bb_len _ _)]
  have d5 : (encB o g s n t).drop 5 = bb n.toNat 2 ++ (bb t.toNat 8 ++ bytesOf s) := by
    have := List.drop_drop (i := 4) (j := 1) (l := encB o g s n t)
    rw [d1, List.drop_left' (bb_len _ _)] at this
    exact this.symm
  have d7 : (encB o g s n t).drop 7 = bb t.toNat 8 ++ bytesOf s := by
    have := List.drop_drop (i := 2) (j := 5) (l := encB o g s n t)
    rw [d5, List.drop_left' (bb_len _ _)] at this
    exact this.symm
  have d15 : (encB o g s n t).drop 15 = bytesOf s := by
    have := List.drop_drop (i := 8) (j := 7) (l := encB o g s n t)
    rw [d7, List.drop_left' (bb_len _ _)] at this
    exact this.symm
  refine ⟨?_, ?_, ?_, ?_, ?_⟩
  · rw [nO, ← be_one (encB_byt _ _ _ _ _) (by rw [encB_len]; omega), e, List.take_left' (bb_len _ _), be_bb _ _ (by omega)]; omega
  · rw [nG, d1, List.take_left' (bb_len _ _), be_bb _ _ (by omega)]; omega
  · rw [d15, str_bytes]
  · rw [nI, d5, List.take_left' (bb_len _ _), be_bb _ _ (by omega)]; omega
  · rw [nT, d7, List.take_left' (bb_len _ _), be_bb _ _ (by omega), wr (by omega) (by omega)]; omega
theorem binds_j2 (k : Nat) (o g : Int) (s : ByteArray) (n t : Int) (hs : s.size ≤ 200) (hk : 300 ≤ k) (x5 : List Int) (x6 : Int) (hx : (x5, x6) = if okB o g s n t = true then (encB o g s n t, 0) else ([], 1)) : spencelaw17_CodecBinds.j2 (k + 1) x5 x6 o g s n t = some true := by
  rw [spencelaw17_CodecBinds.j2, refbind_is k o g s n t (by omega) (by omega), Option.bind_some]
  by_cases h : okB o g s n t = true
  · rw [if_pos h] at hx
    injection hx with h7 h8
    subst h7; subst h8
    obtain ⟨p1, p2, p3, p4, p5⟩ := encB_parts o g s n t h
    have hlen := encB_len o g s n t
    have G := (getB_is k _ (encB_byt o g s n t) (by omega) (by omega) (by omega)).1
    rw [p1, p2, p3, p4, p5, if_pos h] at G
    rw [if_pos h, G, Option.bind_some, if_pos rfl, refB_is k o g s n t (by omega) h, Option.bind_some, bytes_is k _ _ (by omega) (by omega), Option.bind_some, if_pos (decide_eq_true rfl)]
    simp
  · rw [if_neg h] at hx
    injection hx with h7 h8
    subst h7; subst h8
    rw [if_neg h, if_pos rfl]
    rfl
theorem binds_j1 (k : Nat) (o g : Int) (s : ByteArray) (n t : Int) (hs : s.size ≤ 200) (hk : 400 ≤ k) (x5 : List Int) (x6 : Int) (hx : (x5, x6) = if okB o g s n t = true then (encB o g s n t, 0) else ([], 1)) (l : List Int) (_hl : Byt l) (hm : l.length ≤ 300)
    (is : Bool) (o2 g2 : Int) (s2 : ByteArray) (n2 t2 : Int) (hi : is = true → okB o2 g2 s2 n2 t2 = true ∧ encB o2 g2 s2 n2 t2 = l ∧ s2.size ≤ 300) : spencelaw17_CodecBinds.j1 (k + 2) l x5 x6 is false o g s n t o2 g2 s2 n2 t2 = some true := by
  have J := binds_j2 k o g s n t hs (by omega) x5 x6 hx
  rw [spencelaw17_CodecBinds.j1, if_neg (by decide)]
  cases is with
  | false => rw [if_neg (by decide)]; exact J
  | true =>
    obtain ⟨i1, i2, i3⟩ := hi rfl
    rw [if_pos rfl, putB_is (k + 1) o2 g2 s2 n2 t2 (by omega) (by omega), if_pos i1, Option.bind_some, i2]
    dsimp only
    rw [if_pos rfl, bytes_is (k + 1) l l (by omega) (by omega), Option.bind_some, if_pos (decide_eq_true rfl)]
    exact J
theorem binds_pure (o g : Int) (s : ByteArray) (n t : Int) (l : List Int) (hl : Byt l) : spencelaw17_CodecBinds.f 503 o g s n t l = some true := by
  unfold spencelaw17_CodecBinds.f
  rw [awake_is _ (by omega), Option.bind_some, if_pos rfl]
  by_cases hs : (s.size : Int) > 200
  · rw [if_pos hs, spencelaw17_CodecBinds.j0, if_pos rfl]
  rw [if_neg hs]
  by_cases hm : (l.length : Int) > 300
  · rw [decide_eq_true hm, spencelaw17_CodecBinds.j0, if_pos rfl]
  rw [decide_eq_false hm, spencelaw17_CodecBinds.j0, if_neg (by decide), putB_is 502 o g s n t (by omega) (by omega), Option.bind_some]
  have J := binds_j1 500 o g s n t (by omega) (by omega) _ _ (rfl : (if okB o g s n t = true then (encB o g s n t, (0 : Int)) else ([], 1)) = _) l hl (by omega)
  by_cases h15 : 15 ≤ l.length
  · obtain ⟨e1, e2⟩ := getB_is 502 l hl (by omega) (by omega) h15
    rw [e1, Option.bind_some, e2, Option.bind_some]
    by_cases hok : okB (nO l) (nG l) (strOfNums (l.drop 15)) (nI l) (nT l) = true
    · rw [if_pos hok, if_pos hok]
      dsimp only
      rw [if_neg (by simp), if_neg (by simp), if_pos rfl]
      exact J true _ _ _ _ _ (fun _ => ⟨hok, enc_get l hl h15 hok, by rw [strOfNums_size, List.length_drop]; omega⟩)
    · rw [if_neg hok, if_neg hok]
      dsimp only
      rw [if_neg (by simp), if_neg (by simp), if_neg (by decide)]
      exact J false _ _ _ _ _ (fun x => by cases x)
  · obtain ⟨e1, e2⟩ := getB_short 502 l (by omega)
    rw [e1, Option.bind_some, e2, Option.bind_some]
    dsimp only
    rw [if_neg (by simp), if_neg (by simp), if_neg (by decide)]
    exact J false _ _ _ _ _ (fun x => by cases x)
theorem binds_walk (o g : Int) (s : ByteArray) (n t : Int) (B : Option Addr) (d : Nat) (l : List Int) (w : World) (_ : (Lit.int .i64 o).wf = true) (_ : (Lit.int .i64 g).wf = true) (_ : s.size ≤ maxLen) (_ : (Lit.int .i64 n).wf = true) (_ : (Lit.int .i64 t).wf = true)
    (hr : Kd.C (Kd.int .u8) w B l.length l) (hc : l.length ≤ d) (_ : l.length ≤ maxLen) (hw : ∀ n ∈ l, (Lit.int .u8 n).wf = true) (_ : l.length * 1 ≤ 140737488351232) :
    Calls Try.prog 13 #[.agg #[.int .i64 o, .int .i64 g, .string s, .int .i64 n, .int .i64 t], .slice B l.length d] w fun e w' => e = .returned (.bool true) ∧ Below w.heap.size w w' :=
  spencelaw17_CodecBinds.calls 503 o g s n t B d l true w hr hc (binds_pure o g s n t l (fun x hx => Go.bounds_u8 (hw x hx)))
end Go.Proofs.Ytkbialmlddhclaa.CodecFacts

