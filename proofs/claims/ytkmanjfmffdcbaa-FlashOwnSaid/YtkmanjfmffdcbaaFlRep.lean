/- bytes.Repeat of one byte, walked. No condition. -/
import Derived.Test.YtkmanjfmffdcbaaFlFn1
import Derived.Lib.MakeNoZero
import Derived.Laws.CopyOwn
import Derived.Laws.Externs
import Derived.Deep.RegionLaw
namespace Go.Proofs.Ytkmanjfmffdcbaa.Fl
open Go.RowKit Go.Proofs.YtkmanjfmffdcbaaW.PrintWords Go.Proofs.YtkmanjfmffdcbaaW.PrintMore Go.Maps
set_option linter.unusedSimpArgs false
set_option linter.unusedVariables false
theorem and_mask (n : Nat) (h : n < 4294967296) : Go.bits .and .u64 (n : Int) 4294967295 = (n : Int) := by
  have h2 := bits_and_u64_nat n 4294967295 (by omega) (by omega)
  have h3 : n &&& 4294967295 = n := by
    have := Nat.and_two_pow_sub_one_eq_mod n 32
    rw [show (2 : Nat) ^ 32 - 1 = 4294967295 from rfl] at this
    exact this.trans (Nat.mod_eq_of_lt h)
  rw [h3] at h2
  exact h2
set_option maxHeartbeats 1000000 in
set_option maxRecDepth 100000 in
theorem Mul64_one (n : Nat) (h : n ≤ 8192) (w : World) : Calls Try.prog 97 #[.int .u64 1, .int .u64 (n : Int)] w fun e w' => e = .returned (.tuple #[.int .u64 0, .int .u64 (n : Int)]) ∧ w = w' := by
  have ha := and_mask n (by omega)
  have h0 : (n : Int) / 4294967296 = 0 := by omega
  have h1 : Go.bits .and .u64 1 4294967295 = 1 := by decide
  have h2 : Go.bits .and .u64 0 4294967295 = 0 := by decide
  have hz : (0 : Int) ≤ n := by omega
  have hn : (n : Int) ≤ 8192 := by omega
  go_enter Try.func97, Try.ntmps97
  go_wp2
  go_ret2
  exact ⟨rfl, rfl⟩
set_option maxHeartbeats 1000000 in
set_option maxRecDepth 100000 in
theorem Mul_one (n : Nat) (h : n ≤ 8192) (w : World) : Calls Try.prog 87 #[.int .u64 1, .int .u64 (n : Int)] w fun e w' => e = .returned (.tuple #[.int .u64 0, .int .u64 (n : Int)]) ∧ w = w' := by
  go_enter Try.func87, Try.ntmps87
  go_wp2_with (go_at_call 97; ((with_reducible refine (Mul64_one n h _).mono ?_); rintro e w' ⟨rfl, rfl⟩))
  go_ret2
  exact ⟨rfl, rfl⟩
theorem size_u8 : (Try.prog.info? TB).map (·.size) = some 1 := by kernel_rfl
/-- The cells of a row that holds 255 k times. -/
def ff (k : Nat) : List Value := List.replicate k (.int .u8 255)
theorem ff_get {k j : Nat} {v : Value} (h : (ff k)[j]? = some v) : v = .int .u8 255 ∧ j < k := by
  unfold ff at h
  rw [List.getElem?_replicate] at h
  split at h
  · exact ⟨(Option.some.inj h).symm, by assumption⟩
  · cases h
theorem ff_one (k : Nat) : ∀ v ∈ ff k, v.oneCell' = true := by
  intro v hv
  rw [List.eq_of_mem_replicate hv]
  rfl
theorem splice_ff {cur : List Value} {k m : Nat} (hl : k + m ≤ cur.length) (h : cur.take k = ff k) : (splice cur k (ff m)).take (k + m) = ff (k + m) ∧ (splice cur k (ff m)).length = cur.length := by
  have hm : (ff m).length = m := by simp [ff]
  refine ⟨?_, length_splice _ _ _ (by rw [hm]; exact hl)⟩
  unfold splice
  rw [← List.append_assoc, List.take_append_of_le_length (by simp [hm]; omega), h, List.take_of_length_le (by simp [ff])]
  simp [ff]
theorem cells_ff {w : World} {g : Nat} {cur : List Value} {k : Nat} (hg : w.heap[g]? = some (.cells cur.toArray TB (0, 0))) (h : cur.take k = ff k) (m : Nat) (hm : m ≤ k) : ∀ j v, (ff m)[j]? = some v → w.cell? ((⟨g, 0, none⟩ : Addr).add j) = some v := by
  intro j v hv
  obtain ⟨rfl, hj⟩ := ff_get hv
  rw [Addr.add_lit, bcell hg]
  have h2 : (cur.take k)[j]? = some (.int .u8 255) := by rw [h, ff, List.getElem?_replicate, if_pos (by omega)]
  rw [List.getElem?_take, if_pos (by omega)] at h2
  simpa using h2
theorem blt_of_cell {w : World} {a : Addr} {v : Value} (h : w.cell? a = some v) : a.block < w.heap.size := World.block_lt_of_cell? w a h
attribute [local go_sem] min_two min2_int
set_option maxHeartbeats 1000000 in
set_option maxRecDepth 100000 in
theorem Repeat_any (b n : Nat) (w : World) (hb : w.cell? ⟨b, 0, none⟩ = some (.int .u8 255)) (h0 : 1 ≤ n) (h1 : n ≤ 8192) :
    Calls Try.prog 64 #[.slice (some ⟨b, 0, none⟩) 1 1, .int .i64 (n : Int)] w fun e w' => ∃ g cur, e = .returned (.slice (some ⟨g, 0, none⟩) n n) ∧ w.heap.size ≤ g ∧ w'.heap[g]? = some (.cells (cur : List Value).toArray TB (0, 0)) ∧ cur.take n = ff n ∧ n ≤ cur.length ∧ Below w.heap.size w w' := by
  obtain ⟨cs, hrunM, hle, hmax⟩ := Lib.run_makeNoZero (P := Try.prog) w #[3] 22 TB Try.underlying22 n (by omega)
  have hcall : (callFunc 88 #[.int .i64 (n : Int)]).run Try.prog w = .ok (.value (.slice (some ⟨w.heap.size, 0, none⟩) n cs.size)) ((w.alloc (.cells cs TB)).drewN 2) := by
    rw [run_callFunc_extern Try.func88 (by kernel_rfl) (by kernel_rfl) (by kernel_rfl) (e := Extern.BytealgMakeNoZero.makeNoZero #[3] #[22]) (by kernel_rfl), hrunM]
    rfl
  clear hrunM
  have i0 : (1 : Int) ≤ (n : Int) := by omega
  have i1 : (n : Int) ≤ 8192 := by omega
  have i2 : (n : Int) ≤ (cs.size : Int) := by omega
  have e1 : ((n : Int) == 0) = false := by simp; omega
  go_enter Try.func64, Try.ntmps64
  have hlt := blt_of_cell hb
  have HC0 : Hid ((((w.alloc (.cells cs TB)).drewN 2)).heap[w.heap.size]? = some (.cells cs.toList.toArray TB (0, 0))) := Lib.hid (by rw [Array.toArray_toList]; exact blk_new w _)
  have HS0 : Hid (∀ j v, (ff 1)[j]? = some v → ((w.alloc (.cells cs TB)).drewN 2).cell? ((⟨b, 0, none⟩ : Addr).add j) = some v) := Lib.hid (fun j v hv => by
    obtain ⟨rfl, hj⟩ := ff_get hv
    obtain rfl : j = 0 := by omega
    rw [Addr.add_lit]
    exact (World.cell?_alloc_lt w _ _ hlt).trans hb)
  have HB0 : Aside0 (Below w.heap.size w ((w.alloc (.cells cs TB)).drewN 2)) := Aside0.mk (pw_below_drewN (below_alloc (Below.refl _ _) _) 2)
  go_wp2_with (first | (go_at_call 87; ((with_reducible refine (Mul_one n h1 _).mono ?_); rintro e w' ⟨rfl, rfl⟩)) | ((with_reducible refine gate_builtin (b := .copy) rfl ?_); refine wpList_copy_splice rfl (.tmp 58) (.tmp 59) 22 22 rfl TB Try.underlying22 size_u8 _ _ _ _ _ _ rfl rfl w.heap.size 0 cs.toList TB HC0.out (ff 1) (by simp [ff, Nat.min_eq_left h0]) (fun _ => ⟨rfl, _, rfl, HS0.out⟩) (by simp [ff]; omega) (ff_one 1) w.heap.size w HB0.out (Nat.le_refl _) ?_; intro w2 hg2 hb2))
  clear HC0 HS0 HB0 hcall
  have hsp := splice_ff (cur := cs.toList) (k := 0) (m := 1) (by simp; omega) rfl
  have HB2 := Aside0.mk hb2
  have HG2 := Lib.hid (⟨_, hg2.out, hsp.1, by rw [hsp.2]; simpa using hle⟩ : ∃ cur, w2.heap[w.heap.size]? = some (.cells (cur : List Value).toArray TB (0, 0)) ∧ cur.take (0 + 1) = ff (0 + 1) ∧ n ≤ cur.length)
  clear hg2 hb2 hsp
  go_loopw [10, 11] (fun v10 v11 wr => ∃ k : Nat, v10 = .int .i64 (k : Int) ∧ 1 ≤ k ∧ k ≤ n ∧ (∃ cur, wr.heap[w.heap.size]? = some (.cells (cur : List Value).toArray TB (0, 0)) ∧ cur.take k = ff k ∧ n ≤ cur.length) ∧ Below w.heap.size w wr) (fun v10 _ _ => n - (intOf v10).toNat)
  case atStart => exact ⟨1, rfl, Nat.le_refl _, h0, HG2.out, HB2.out⟩
  case round =>
    obtain ⟨k, rfl, hk1, hk2, ⟨cur, hg, ht, hl⟩, hb3⟩ := hrel
    have HG := Lib.hid hg
    have HT := Lib.hid ht
    have HB3 := Aside0.mk hb3
    clear hg ht hb3
    have j0 : (1 : Int) ≤ (k : Int) := by omega
    have j1 : (k : Int) ≤ (n : Int) := by omega
    by_cases hlt : k < n
    · have j2 : (k : Int) < (n : Int) := by omega
      have j3 : ¬ (n = k) := by omega
      have HD : Hid (∀ W : World, W.heap[w.heap.size]? = some (.cells cur.toArray TB (0, 0)) → ∀ j v, (ff (min k (n - k)))[j]? = some v → W.cell? ((⟨w.heap.size, 0, none⟩ : Addr).add j) = some v) := Lib.hid (fun W hW => cells_ff hW HT.out _ (Nat.min_le_left _ _))
      have hm : (ff (min k (n - k))).length = min k (n - k) := by simp [ff]
      have HM := Lib.hid hm
      obtain ⟨K2, hK2⟩ : ∃ K2, K2 = k + min k (n - k) := ⟨_, rfl⟩
      have hwr : IntKind.i64.wrap ((k : Int) + ((ff (min k (n - k))).length : Int)) = (K2 : Int) := by
        rw [hm, IntWalk.i64_in _ (by omega)]
        omega
      have HK2 := Lib.hid hK2
      clear hm hK2
      go_wp2
      go_region_law (refine step_copy_splice rfl (.tmp 70) (.tmp 73) 22 22 rfl TB Try.underlying22 size_u8 (some ⟨w.heap.size, k, none⟩) (some ⟨w.heap.size, 0, none⟩) (n - k) (n - k) k n (by simp [Act.eval, Act.put]) (by simp [Act.eval, Act.put]) w.heap.size k cur TB HG.out (ff (min k (n - k))) HM.out (fun _ => ⟨rfl, _, rfl, HD.out _ HG.out⟩) (by rw [HM.out]; omega) (ff_one _) w.heap.size w HB3.out.drew (Nat.le_refl _) ?_; intro w4 hg4 hb4)
      have hsp := splice_ff (cur := cur) (k := k) (m := min k (n - k)) (by omega) HT.out
      have HB4 := Aside0.mk hb4
      have HG4 := hg4
      clear hg4 hb4
      simp [Act.put, hwr]
      clear hwr
      go_wp2
      have hK2 := HK2.out
      go_roundw
      case rel => exact ⟨K2, rfl, by omega, by omega, ⟨_, HG4.out, by rw [hK2]; exact hsp.1, by rw [hsp.2]; exact hl⟩, HB4.out⟩
      case measure => simp [intOf]; omega
    · obtain rfl : k = n := by omega
      go_wp2
      go_ret
      exact ⟨_, _, rfl, Nat.le_refl _, HG.out, HT.out, hl, HB3.out⟩
/-- Bytes, with what is erased behind them. -/
def full (n : Nat) (b : List Int) : List Int := b ++ List.replicate (n - b.length) 255
/-- What copy lays over a row of 255. -/
theorem splice_full {cur : List Value} {n : Nat} {b : List Int} (hl : n ≤ cur.length) (h : cur.take n = ff n) (hb : b.length ≤ n) :
    (splice cur 0 (b.map (Value.int .u8))).length = cur.length ∧ ∀ j x, (full n b)[j]? = some x → (splice cur 0 (b.map (Value.int .u8))).toArray[0 + j]? = some (.int .u8 x) := by
  refine ⟨length_splice _ _ _ (by simp; omega), fun j x hj => ?_⟩
  rw [Nat.zero_add]
  simp only [List.getElem?_toArray, splice, List.take_zero, List.nil_append, List.length_map, Nat.zero_add]
  unfold full at hj
  rcases Nat.lt_or_ge j b.length with hlt | hge
  · rw [List.getElem?_append_left hlt] at hj
    rw [List.getElem?_append_left (by simpa using hlt), List.getElem?_map, hj]
    rfl
  · rw [List.getElem?_append_right hge, List.getElem?_replicate] at hj
    split at hj
    · rename_i h2
      rw [List.getElem?_append_right (by simpa using hge), List.getElem?_drop, List.length_map, show b.length + (j - b.length) = j by omega]
      have h3 : (cur.take n)[j]? = some (.int .u8 255) := by rw [h, ff, List.getElem?_replicate, if_pos (by omega)]
      rw [List.getElem?_take, if_pos (by omega)] at h3
      rw [h3]
      rw [← Option.some.inj hj]
    · cases hj
theorem full_length {n : Nat} {b : List Int} (h : b.length ≤ n) : (full n b).length = n := by simp [full]; omega
/-- The cells of bytes that are read. -/
theorem C_cells {w : World} {A : Option Addr} {l : List Int} (h : kB.C w A l.length l) (h0 : 0 < l.length) : ∃ ad, A = some ad ∧ ∀ j v, (l.map (Value.int .u8))[j]? = some v → w.cell? (ad.add j) = some v := by
  obtain ⟨ad, e, hc⟩ := (Kd.reads_of_C (d := (0 : Int)) h).2.2 h0
  refine ⟨ad, e, fun j v hj => ?_⟩
  rw [List.getElem?_map] at hj
  obtain ⟨x, hx, rfl⟩ := Option.map_eq_some_iff.1 hj
  have hl := (List.getElem?_eq_some_iff.1 hx).1
  have := hc j hl
  rwa [List.getD_eq_getElem?_getD, hx] at this
theorem u8_one (l : List Int) : ∀ v ∈ l.map (Value.int .u8), v.oneCell' = true := by
  intro v hv
  obtain ⟨x, _, rfl⟩ := List.mem_map.1 hv
  rfl
set_option maxHeartbeats 1000000 in
set_option maxRecDepth 100000 in
/-- filled: a new row that holds the bytes, and 255 behind them. -/
theorem filled_blk {w : World} {p : Nat} {s : Int × Int × Int} {c3 c4 : Value} (hs : ShapeOk s) (hp : w.heap[p]? = some (.cells #[.int .i64 s.1, .int .i64 s.2.1, .int .i64 s.2.2, c3, c4] TD (0, 0))) (A : Option Addr) (c : Nat) (b : List Int) (hb : kB.C w A b.length b) (hlen : b.length ≤ s.2.2.toNat) :
    Calls Try.prog 70 #[.pointer (some ⟨p, 0, none⟩), .slice A b.length c] w fun e w' => ∃ v, e = .returned v ∧ Row w' w.heap.size (fun k => w.heap.size ≤ k) v (full s.2.2.toNat b) ∧ Below w.heap.size w w' := by
  obtain ⟨s1, s2, s3⟩ := s
  have h1 := hs.c0; have h2 := hs.c1
  clear hs
  simp only at h1 h2 hlen hp
  obtain ⟨n, rfl⟩ := Int.eq_ofNat_of_zero_le (show (0 : Int) ≤ s3 by omega)
  simp only [Int.toNat_natCast] at hlen ⊢
  have hl := blt hp
  have hc2 : w.cell? ⟨p, 2, none⟩ = some (.int .i64 (n : Int)) := bcell hp 2
  have HC2 : (w.alloc (.cells #[.int .u8 255] TB)).cell? ⟨p, 2, none⟩ = some (.int .i64 (n : Int)) := (World.cell?_alloc_lt w _ _ hl).trans hc2
  have HB := Aside0.mk hb
  have HM : Hid ((b.map (Value.int .u8)).length = Nat.min b.length n) := Lib.hid (by rw [List.length_map]; exact (Nat.min_eq_left hlen).symm)
  have HA : Hid ((w.alloc (.cells #[.int .u8 255] TB)).cell? ⟨w.heap.size, 0, none⟩ = some (.int .u8 255)) := Lib.hid (by rw [bcell (blk_new w _)]; rfl)
  clear hp hb
  go_enter Try.func70, Try.ntmps70
  go_wp2_with (first | (go_at_call 64; (with_reducible refine (Repeat_any _ n _ HA.out (by omega) (by omega)).mono ?_); rintro e w1 ⟨g, cur, rfl, hg1, hg2, hg3, hg4, hb1⟩; have G1 : Hid (w.heap.size ≤ g) := Lib.hid (by simp at hg1; omega); have G2 := Lib.hid hg2; have G3 := Lib.hid hg3; have G4 := Lib.hid hg4; have HB1 : Aside0 (Below w.heap.size w w1) := Aside0.mk ((below_alloc (Below.refl _ _) _).trans (hb1.mono (by simp))); clear hg1 hg2 hg3 hg4 hb1; clear HC2 HA) | ((with_reducible refine gate_builtin (b := .copy) rfl ?_); refine wpList_copy_splice rfl (.tmp 13) (.tmp 14) 22 22 rfl TB Try.underlying22 size_u8 _ _ _ _ _ _ rfl rfl g 0 cur TB G2.out (b.map (Value.int .u8)) HM.out (fun h0 => ⟨rfl, C_cells (Kd.C_below HB.out HB1.out) (by simpa using h0)⟩) (by have := G4.out; simp; omega) (u8_one b) w.heap.size w HB1.out G1.out ?_; intro w2 hg2 hb2))
  have hb2' := Aside0.mk hb2
  clear hb2
  go_ret
  obtain ⟨h5, h6⟩ := splice_full G4.out G3.out hlen
  refine ⟨_, rfl, ⟨some ⟨g, 0, none⟩, n, ?_, ?_, ?_, .inr ⟨g, 0, _, rfl, G1.out, G1.out, hg2.out, h6⟩⟩, hb2'.out⟩
  · rw [full_length hlen]; rfl
  · rw [full_length hlen]; exact Nat.le_refl _
  · rw [full_length hlen]; omega
end Go.Proofs.Ytkmanjfmffdcbaa.Fl
