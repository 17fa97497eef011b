/- The document's device: Full, Read, Dirty, Shape, walked. No condition. -/
import Derived.Test.YtkmanjfmffdcbaaFlRef1
namespace Go.Proofs.Ytkmanjfmffdcbaa.Fl
open Go.RowKit Go.Proofs.YtkmanjfmffdcbaaW.PrintWords Go.Proofs.YtkmanjfmffdcbaaW.PrintMore Go.Maps
set_option linter.unusedSimpArgs false
set_option linter.unusedVariables false
def fullT (n : Nat) (b : List Int) : List Int := full n (b.take n)
theorem fullT_length (n : Nat) (b : List Int) : (fullT n b).length = n := full_length (by rw [List.length_take]; omega)
theorem fullT_lt {n k : Nat} {b : List Int} (hk : k < n) (hb : k < b.length) : (fullT n b).take (k + 1) = (fullT n b).take k ++ [rd b (k : Int)] := by
  rw [List.take_add_one]
  congr 1
  unfold fullT full
  rw [List.getElem?_append_left (by rw [List.length_take]; omega), List.getElem?_take, if_pos hk, List.getElem?_eq_getElem hb]
  simp [rd, hb]
theorem fullT_ge {n k : Nat} {b : List Int} (hk : k < n) (hb : b.length ≤ k) : (fullT n b).take (k + 1) = (fullT n b).take k ++ [255] := by
  rw [List.take_add_one]
  congr 1
  unfold fullT full
  rw [List.getElem?_append_right (by rw [List.length_take]; omega), List.getElem?_replicate, if_pos (by rw [List.length_take]; omega)]
  rfl
theorem fullT_full {n : Nat} {b : List Int} (h : b.length ≤ n) : fullT n b = full n b := by rw [fullT, List.take_of_length_le h]
theorem info_u8 : (Try.prog.info? TB).map (fun i => (i.zero, i.size, i.bytes)) = some (some (.int .u8 0), 1, 1) := by kernel_rfl
theorem C_cell {w : World} {A : Option Addr} {n : Nat} {l : List Int} (h : kB.C w A n l) (i : Nat) (hi : i < n) :
    ∃ ad, A = some ad ∧ w.cell? (ad.add i) = some (.int .u8 (rd l (i : Int))) := by
  have h' := (Kd.reads_of_C (d := (0 : Int)) h).at_ (i : Int) (by omega) (by omega)
  simpa [rdOf, rd] using h'
section
variable {N0 x : Nat} {s : Int × Int × Int} {ps : List Pg} {ok : Nat → Prop} {w : World}
set_option maxHeartbeats 2000000 in
set_option maxRecDepth 100000 in
theorem RFull_any (hX : RefIs N0 x s ps ok w) (hs : ShapeOk s) (A : Option Addr) (c : Nat) (b : List Int) (hb : kB.C w A b.length b) (hl : b.length < 1000000) :
    Calls Try.prog 44 #[.pointer (some ⟨x, 0, none⟩), .slice A b.length c] w fun e w' => ∃ v, e = .returned v ∧ kB.R TB w' w.heap.size (fun k => w.heap.size ≤ k) v (fullT s.2.2.toNat b) ∧ Below w.heap.size w w' := by
  obtain ⟨_, _, v, hx, _⟩ := hX
  obtain ⟨n, hn⟩ : ∃ n : Nat, s.2.2 = (n : Int) := ⟨s.2.2.toNat, by have := hs.c0; omega⟩
  have hn1 : n ≤ 256 := by have := hs.c1; omega
  rw [hn] at hx
  rw [hn]
  simp only [Int.toNat_natCast]
  have HX := Lib.hid hx
  have HB := Aside0.mk hb
  obtain ⟨bl, hbl⟩ : ∃ bl, bl = b.length := ⟨_, rfl⟩
  have HBL := Lib.hid hbl
  rw [← hbl] at hl
  rw [← hbl]
  have bl2 : (bl : Int) < 1000000 := by omega
  have hn2 : (n : Int) ≤ 256 := by omega
  clear hx hb hn hs hbl
  go_enter Try.func44, Try.ntmps44
  go_wp2
  go_loopw [5, 6] (fun v5 v6 wr => ∃ k : Nat, k ≤ n ∧ v6 = .int .i64 (k : Int) ∧ Below w.heap.size w wr ∧ kB.R TB wr w.heap.size (fun j => w.heap.size ≤ j) v5 ((fullT n b).take k)) (fun _ v6 _ => n - (intOf v6).toNat)
  case atStart => exact ⟨0, Nat.zero_le _, rfl, Below.refl _ _, Kd.R_nil _ _ _ _ _⟩
  case round =>
    obtain ⟨k, hk, rfl, hb1, hR⟩ := hrel
    have HB1 := Aside0.mk hb1
    have HR := Aside0.mk hR
    have hx1 : wr.cell? ⟨x, 2, none⟩ = some (.int .i64 (n : Int)) := bcell ((hb1.block x (blt HX.out)).trans HX.out) 2
    have k0 : (0 : Int) ≤ (k : Int) := by omega
    have htk : ((fullT n b).take k).length = k := by rw [List.length_take, fullT_length]; omega
    have HTK := Lib.hid htk
    clear hb1 hR htk
    by_cases hlt : k < n
    · have k1 : (k : Int) < (n : Int) := by omega
      by_cases hkb : k < bl
      · have k2 : (k : Int) < (bl : Int) := by omega
        obtain ⟨ad, rfl, hcb⟩ := C_cell (Kd.C_below HB.out HB1.out) k (by have := HBL.out; omega)
        have HT := Lib.hid (fullT_lt hlt (show k < b.length by have := HBL.out; omega))
        go_wp2_with (at_builtin; refine Kd.R_append kB (w0 := w) w.heap.size rfl (.tmp 20) (.tmp 25) 22 TB (.int .u8 0) 1 rfl Try.underlying22 info_u8 rfl (by decide) (by decide) _ ((fullT n b).take k) (rd b (k : Int)) [.int .u8 (rd b (k : Int))] (fun j => w.heap.size ≤ j) (fun _ => False) rfl rfl rfl (fun _ h => h.elim) (fun j hj => Nat.le_trans HB1.out.size hj) HR.out HB1.out HB1.out.size (by rw [HTK.out]; omega) ?_; intro v1 w1 hr1 hb2 hg hat; have HR1 := Aside0.mk hr1; have HB2 := Aside0.mk hb2; clear hr1 hb2 hg hat)
        exact ⟨⟨k + 1, by omega, by go_num, HB2.out, by rw [HT.out]; exact HR1.out⟩, by simp [intOf]; omega⟩
      · have k2 : ¬ (k : Int) < (bl : Int) := by omega
        have k3 : decide ((k : Int) < (bl : Int)) = false := by simpa using k2
        have HT := Lib.hid (fullT_ge (b := b) hlt (by have := HBL.out; omega))
        go_wp2_with (at_builtin; refine Kd.R_append kB (w0 := w) w.heap.size rfl (.tmp 27) (.tmp 28) 22 TB (.int .u8 0) 1 rfl Try.underlying22 info_u8 rfl (by decide) (by decide) _ ((fullT n b).take k) 255 [.int .u8 255] (fun j => w.heap.size ≤ j) (fun _ => False) rfl rfl rfl (fun _ h => h.elim) (fun j hj => Nat.le_trans HB1.out.size hj) HR.out HB1.out HB1.out.size (by rw [HTK.out]; omega) ?_; intro v1 w1 hr1 hb2 hg hat; have HR1 := Aside0.mk hr1; have HB2 := Aside0.mk hb2; clear hr1 hb2 hg hat)
        exact ⟨⟨k + 1, by omega, by go_num, HB2.out, by rw [HT.out]; exact HR1.out⟩, by simp [intOf]; omega⟩
    · obtain rfl : k = n := by omega
      go_wp2
      go_ret
      refine ⟨_, rfl, ?_, HB1.out⟩
      have := HR.out
      rw [List.take_of_length_le (by rw [fullT_length]; exact Nat.le_refl _)] at this
      exact this
/-- What the document's page reads as. -/
def readP (n : Nat) (a b : Int) (ps : List Pg) : List Int := match ps.find? (atB a b) with | some p => p.2.1 | none => fullT n []
theorem find_idx {α : Type} (q : α → Bool) : ∀ (l : List α), l.find? q = (idxOf q l).bind (fun i => l[i]?)
  | [] => rfl
  | a :: l => by
    unfold idxOf
    rw [List.find?_cons]
    cases h : q a with
    | true => simp
    | false =>
      simp only [Bool.false_eq_true, if_false]
      rw [find_idx q l]
      cases idxOf q l <;> simp
theorem find_none {α : Type} {q : α → Bool} {l : List α} (h : idxI q l = -1) : l.find? q = none := by
  rw [find_idx]
  unfold idxI at h
  cases hi : idxOf q l with
  | none => rfl
  | some i => rw [hi] at h; simp only at h; omega
theorem find_some {α : Type} {q : α → Bool} {l : List α} {i : Nat} {a : α} (h : idxI q l = (i : Int)) (ha : l[i]? = some a) : l.find? q = some a := by
  rw [find_idx]
  unfold idxI at h
  cases hi : idxOf q l with
  | none => rw [hi] at h; simp only at h; omega
  | some j =>
    rw [hi] at h
    simp only at h
    obtain rfl : j = i := by omega
    simpa using ha
set_option maxHeartbeats 2000000 in
set_option maxRecDepth 100000 in
theorem RRead_any (hX : RefIs N0 x s ps ok w) (hs : ShapeOk s) (hl : ps.length < 1000000) (a b : Int) :
    Calls Try.prog 49 #[.pointer (some ⟨x, 0, none⟩), .int .i64 a, .int .i64 b] w fun e w' => ∃ v, e = .returned v ∧ Row w' N0 (fun k => ok k ∨ w.heap.size ≤ k) v (readP s.2.2.toNat a b ps) ∧ Below w.heap.size w w' := by
  have hcall := RFind_any hX hl a b
  have HX := Aside0.mk hX
  have hN : N0 ≤ w.heap.size := by
    obtain ⟨h1, _, v, hx, _⟩ := hX
    exact Nat.le_of_lt (Nat.lt_of_le_of_lt h1 (blt hx))
  have HN := Lib.hid hN
  have HS := Lib.hid hs
  rcases idxI_spec (atB a b) ps with ⟨e1, e2⟩ | ⟨i, p, e1, e2, e3, e4⟩
  · have h0 : findI a b ps = -1 := e1
    rw [h0] at hcall
    have HC := Aside0.mk hcall
    have HQ := Lib.hid (show readP s.2.2.toNat a b ps = fullT s.2.2.toNat [] by rw [readP, find_none e1])
    clear hX hcall e1 e2 h0 hl hN hs
    go_enter Try.func49, Try.ntmps49
    go_wp2_with (first | (go_at_call 48; (with_reducible refine HC.out.mono ?_); rintro e w1 ⟨rfl, hb⟩; have HB := Aside0.mk hb; clear hb) | (go_at_call 44; refine (RFull_any (HX.out.below HB.out) HS.out none 0 [] (Kd.C_nil _ _) (by simp)).mono ?_; rintro e w2 ⟨v2, rfl, hr2, hb2⟩; have HR2 := Aside0.mk hr2; have HB2 := Aside0.mk hb2; clear hr2 hb2))
    go_ret
    have hs1 := HB.out.size
    exact ⟨_, rfl, by rw [HQ.out]; exact ((Row.ofR HR2.out).lower (Nat.le_trans HN.out hs1)).mono (fun k hk => .inr (Nat.le_trans hs1 hk)), HB.out.trans (HB2.out.mono hs1)⟩
  · have h0 : findI a b ps = (i : Int) := e1
    rw [h0] at hcall
    have HC := Aside0.mk hcall
    have HQ := Lib.hid (show readP s.2.2.toNat a b ps = p.2.1 by rw [readP, find_some e1 e2])
    obtain ⟨n, hn⟩ : ∃ n, n = ps.length := ⟨_, rfl⟩
    have hin : i < n := by rw [hn]; exact (List.getElem?_eq_some_iff.1 e2).1
    obtain ⟨_, _, v, hx, hR⟩ := hX
    obtain ⟨g, cap, rfl, hg, ho, hrow⟩ := PRow.of_R hR (fun e => by
      subst e
      obtain ⟨A, c, he⟩ := Kd.R_slice hR
      injection he with _ h2 _
      omega)
    rw [← hn] at hx
    have HXB := Lib.hid hx
    have HR := Aside0.mk hrow
    have HE := Lib.hid e2
    have i0 : (0 : Int) ≤ (i : Int) := by omega
    have i1 : (i : Int) < (n : Int) := by omega
    have i2 : ¬ ((i : Int) < 0) := by omega
    clear hx hR hrow hcall e1 e2 e3 e4 h0 hl hn hin hN hs
    go_enter Try.func49, Try.ntmps49
    go_wp2_with (go_at_call 48; (with_reducible refine HC.out.mono ?_); rintro e w1 ⟨rfl, hb⟩; have hx1 : w1.cell? ⟨x, 3, none⟩ = some (.slice (some ⟨g, 0, none⟩) n cap) := bcell ((hb.block x (blt HXB.out)).trans HXB.out) 3; obtain ⟨A1, c1, hc⟩ := (HR.out.below hb).cell HE.out; have d2 := hc.c2; have HRW := Aside0.mk hc.row; have HB := Aside0.mk hb; clear hb hc)
    go_ret
    exact ⟨_, rfl, by rw [HQ.out]; exact HRW.out.mono (fun _ h => .inl h), HB.out⟩
end
end Go.Proofs.Ytkmanjfmffdcbaa.Fl
