/- FlashOwn: walked. No condition but what every argument brings. -/
import Derived.Test.YtkmanjfmffdcbaaFlTri
import Derived.Test.YtkmanjfmffdcbaaFlCrashes
import Derived.Deep.DeepCutAuto
import Derived.Test.YtkmanjfmffdcbaaOpens
import Derived.Deep.Slices
namespace Go.Proofs.Ytkmanjfmffdcbaa.Fl
open Go.RowKit Go.Proofs.YtkmanjfmffdcbaaW.PrintWords Go.Proofs.YtkmanjfmffdcbaaW.PrintMore Go.Maps
set_option linter.unusedSimpArgs false
set_option linter.unusedVariables false
theorem own_read {D : PD} {s : Int × Int × Int} {ps : List Pg} (hs : Sim D s ps) {a b : Int} {l : List Int} (h : writeE D a b l = 0) : gotD (writeD D a b l) a b = fullT s.2.2.toNat l := by
  have h1 : hasB D.s a b = true ∧ (l.length : Int) ≤ D.s.2.2 := by
    unfold writeE at h
    split at h
    · omega
    · split at h
      · omega
      · rename_i x y
        exact ⟨by simpa using x, by omega⟩
  have h2 : l.length ≤ s.2.2.toNat := by rw [← hs.sh]; omega
  have h3 : l.take s.2.2.toNat = l := List.take_of_length_le h2
  unfold gotD writeD
  rw [if_pos h]
  simp only [h1.1, if_true]
  unfold readD numB
  simp only [look_put, if_true, Option.getD_some, hs.sh]
  rw [full_self (full_length h2), fullT, h3]
theorem got_len {D : PD} {a b : Int} (hs : ShapeOk D.s) (hl : ∀ q ∈ D.mp, q.2.length = D.s.2.2.toNat) : (gotD D a b).length ≤ 256 := by
  unfold gotD readD numB
  split
  · rw [full_length (look_len hl _)]
    have := hs.c1
    omega
  · simp
section
variable {K : Nat → Prop} {N0 p x c : Nat} {D E : PD} {s : Int × Int × Int} {ps : List Pg} {w : World}
theorem Tri.read (h : Tri K N0 p x c D s ps E w) (a b : Int) : Calls Try.prog 38 #[.pointer (some ⟨p, 0, none⟩), .int .i64 a, .int .i64 b] w fun e w' => ∃ A c2, e = .returned (.tuple #[.slice A (gotD D a b).length c2, .int .i64 (hasE D.s a b)]) ∧ Row w' w.heap.size (fun k => w.heap.size ≤ k) (.slice A (gotD D a b).length c2) (gotD D a b) ∧ Below w.heap.size w w' := by
  obtain ⟨okD, okX, okC, hD, hX, hC, _⟩ := h
  refine (Read_any hD a b).mono fun e w' ⟨v, he, hr, hb⟩ => ?_
  obtain ⟨A, c2, e2, _⟩ := id hr
  subst e2
  exact ⟨A, c2, he, hr, hb⟩
theorem Tri.rfull (h : Tri K N0 p x c D s ps E w) (hs : ShapeOk s) (A : Option Addr) (c2 : Nat) (b : List Int) (hb : kB.C w A b.length b) (hl : b.length < 1000000) :
    Calls Try.prog 44 #[.pointer (some ⟨x, 0, none⟩), .slice A b.length c2] w fun e w' => ∃ A1 c1, e = .returned (.slice A1 (fullT s.2.2.toNat b).length c1) ∧ kB.C w' A1 (fullT s.2.2.toNat b).length (fullT s.2.2.toNat b) ∧ Below w.heap.size w w' := by
  obtain ⟨okD, okX, okC, hD, hX, hC, _⟩ := h
  refine (RFull_any hX hs A c2 b hb hl).mono fun e w' ⟨v, he, hr, hb⟩ => ?_
  obtain ⟨A1, c1, e2, _, hC⟩ := (Row.ofR hr).reads
  exact ⟨A1, c1, by rw [he, e2], hC, hb⟩
theorem Tri.glen (h : Tri K N0 p x c D s ps E w) (a b : Int) : (gotD D a b).length ≤ 256 := by
  obtain ⟨okD, okX, okC, ⟨_, _, _, _, hD⟩, _⟩ := h
  exact got_len hD.shape hD.lens
end
set_option maxHeartbeats 8000000 in
set_option maxRecDepth 100000 in
theorem FlashOwn_any {w : World} {A B : Option Addr} {c d : Nat} (s : Int × Int × Int) {ds : List DeedT} {bs : List Int} (seg page : Int) (hr : DRow w A ds) (h0 : ds.length ≤ 9223372036854775807) (hp : ∀ d ∈ ds, PlanOk d.P) (hb : kB.C w B bs.length bs) (hbd : B = none → d = 0) :
    Calls Try.prog 9 #[.agg #[.int .i64 s.1, .int .i64 s.2.1, .int .i64 s.2.2], .slice A ds.length c, .slice B bs.length d, .int .i64 seg, .int .i64 page] w fun e w' => e = .returned (.bool true) ∧ Below w.heap.size w w' := by
  obtain ⟨n, hn⟩ : ∃ n, n = ds.length := ⟨_, rfl⟩
  obtain ⟨m, hm⟩ : ∃ m, m = bs.length := ⟨_, rfl⟩
  have hbl : bs.length ≤ 9223372036854775807 := Kd.C_max hb
  obtain ⟨W, hW⟩ : ∃ W, W = w.alloc (.cells #[.int .i64 s.1, .int .i64 s.2.1, .int .i64 s.2.2] 46) := ⟨_, rfl⟩
  have q0 : W.heap[w.heap.size]? = some (.cells #[.int .i64 s.1, .int .i64 s.2.1, .int .i64 s.2.2] 46 (0, 0)) := by rw [hW]; exact blk_new w _
  have qb : Below w.heap.size w W := by rw [hW]; exact below_alloc (Below.refl _ _) _
  have hbox : ∀ V : World, Below W.heap.size W V → V.cell? ⟨w.heap.size, 0, none⟩ = some (.int .i64 s.1) ∧ V.cell? ⟨w.heap.size, 1, none⟩ = some (.int .i64 s.2.1) ∧ V.cell? ⟨w.heap.size, 2, none⟩ = some (.int .i64 s.2.2) := fun V hV => by
    have := (hV.block w.heap.size (blt q0)).trans q0
    exact ⟨bcell this 0, bcell this 1, bcell this 2⟩
  have hfew : ∀ V : World, Below W.heap.size W V → Calls Try.prog 25 #[.slice A n c] V fun e w' => e = .returned (.bool (fewB ds)) ∧ Below W.heap.size W w' := fun V hV => by
    rw [hn]
    exact (Few_any ((hr.below qb).below hV) h0).mono fun e w' ⟨h1, h2⟩ => ⟨h1, hV.trans (h2.mono hV.size)⟩
  have hmade : shapeB s = true → fewB ds = true → ∀ V : World, Below W.heap.size W V → Calls Try.prog 29 #[.agg #[.int .i64 s.1, .int .i64 s.2.1, .int .i64 s.2.2], .slice A n c] V fun e w' => ∃ p x, e = .returned (.tuple #[.pointer (some ⟨p, 0, none⟩), .pointer (some ⟨x, 0, none⟩), .bool true]) ∧ (∃ D ps, Two (fun _ => False) W.heap.size p x D s ps w' ∧ Sim D s ps ∧ ps.length ≤ 60) ∧ Below W.heap.size W w' := fun hs hf V hV => by
    rw [hn]
    refine (Made_any hs ((hr.below qb).below hV) (few_len hf) hp).mono fun e w' ⟨p, x, D, ps, h1, h2, h3, h4, h5⟩ => ⟨p, x, h1, ⟨D, ps, ?_, h3, h4⟩, hV.trans (h5.mono hV.size)⟩
    exact h2.low hV.size
  have hbw : kB.C W B m bs := by rw [hm]; exact Kd.C_below hb qb
  have HBOX := Lib.hid hbox
  have HFEW := Lib.hid hfew
  have HMADE := Lib.hid hmade
  have HW := Lib.hid hW
  have QB := Aside0.mk qb
  have HBW := Aside0.mk hbw
  have HM := Lib.hid hm
  have HBD := Lib.hid hbd
  rw [← hn, ← hm]
  clear hr hn hp hbox hfew hmade hW q0 qb hb hbw h0
  rw [← hm] at hbl
  clear hm hbd
  have m0 : (0 : Int) ≤ (m : Int) := by omega
  cases hf : fewB ds with
  | false =>
    have HF := Lib.hid hf
    clear hf hbl HMADE
    go_enter Try.func9, Try.ntmps9
    go_wp2_with fail
    rw [← HW.out]
    go_wp2_with (first
      | (go_at_call 24; (with_reducible refine (Awake_any _).mono ?_); rintro e w1 ⟨rfl, hb⟩; have HB1 := Aside0.mk hb; clear hb)
      | (go_at_call 38; (with_reducible refine (Read_nil _ _ _).mono ?_); rintro e w2 ⟨rfl, rfl⟩)
      | (go_at_call 31; (with_reducible refine (Sync_nil _).mono ?_); rintro e w3 ⟨rfl, rfl⟩)
      | (go_at_call 36; (with_reducible refine (Crash_nil _ _ _ _).mono ?_); rintro e w4 ⟨rfl, hb⟩; have HB4 := Aside0.mk (HB1.out.trans (hb.mono HB1.out.size)); clear hb)
      | (go_at_call 34; (with_reducible refine (Write_nil _ _ _ _ _ _).mono ?_); rintro e w5 ⟨rfl, hb⟩; have HB5 := Aside0.mk (HB4.out.trans (hb.mono HB4.out.size)); clear hb)
      | (go_at_call 41; (with_reducible refine (Erase_nil _ _).mono ?_); rintro e w6 ⟨rfl, hb⟩; have HB6 := Aside0.mk (HB5.out.trans (hb.mono HB5.out.size)); clear hb)
      | (go_at_call 39; (with_reducible refine (Used_nil _ _ _).mono ?_); rintro e w7 ⟨rfl, rfl⟩)
      | (go_at_call 40; (with_reducible refine (Dirty_nil _).mono ?_); rintro e w7 ⟨rfl, rfl⟩)
      | (go_at_call 42; (with_reducible refine (Copy_nil _).mono ?_); rintro e w7 ⟨rfl, rfl⟩)
      | (go_at_call 43; (with_reducible refine (Shape_nil _).mono ?_); rintro e w8 ⟨rfl, hb⟩; have HB8 := Aside0.mk (HB6.out.trans (hb.mono HB6.out.size)); clear hb)
      | (go_at_call 25; (with_reducible refine (HFEW.out _ HB8.out).mono ?_); rw [HF.out]; rintro e w9 ⟨rfl, hb⟩; obtain ⟨k1, k2, k3⟩ := HBOX.out _ hb; have HB9 := Aside0.mk hb; clear hb))
    go_ret
    exact ⟨rfl, QB.out.trans (HB9.out.mono QB.out.size)⟩
  | true =>
   have HF := Lib.hid hf
   by_cases h300 : 300 < m
   · have e3 : decide (300 < (m : Int)) = true := by simp; omega
     clear hf hbl HMADE h300
     go_enter Try.func9, Try.ntmps9
     go_wp2_with fail
     rw [← HW.out]
     go_wp2_with (first
       | (go_at_call 24; (with_reducible refine (Awake_any _).mono ?_); rintro e w1 ⟨rfl, hb⟩; have HB1 := Aside0.mk hb; clear hb)
       | (go_at_call 38; (with_reducible refine (Read_nil _ _ _).mono ?_); rintro e w2 ⟨rfl, rfl⟩)
       | (go_at_call 31; (with_reducible refine (Sync_nil _).mono ?_); rintro e w3 ⟨rfl, rfl⟩)
       | (go_at_call 36; (with_reducible refine (Crash_nil _ _ _ _).mono ?_); rintro e w4 ⟨rfl, hb⟩; have HB4 := Aside0.mk (HB1.out.trans (hb.mono HB1.out.size)); clear hb)
       | (go_at_call 34; (with_reducible refine (Write_nil _ _ _ _ _ _).mono ?_); rintro e w5 ⟨rfl, hb⟩; have HB5 := Aside0.mk (HB4.out.trans (hb.mono HB4.out.size)); clear hb)
       | (go_at_call 41; (with_reducible refine (Erase_nil _ _).mono ?_); rintro e w6 ⟨rfl, hb⟩; have HB6 := Aside0.mk (HB5.out.trans (hb.mono HB5.out.size)); clear hb)
       | (go_at_call 39; (with_reducible refine (Used_nil _ _ _).mono ?_); rintro e w7 ⟨rfl, rfl⟩)
       | (go_at_call 40; (with_reducible refine (Dirty_nil _).mono ?_); rintro e w7 ⟨rfl, rfl⟩)
       | (go_at_call 42; (with_reducible refine (Copy_nil _).mono ?_); rintro e w7 ⟨rfl, rfl⟩)
       | (go_at_call 43; (with_reducible refine (Shape_nil _).mono ?_); rintro e w8 ⟨rfl, hb⟩; have HB8 := Aside0.mk (HB6.out.trans (hb.mono HB6.out.size)); clear hb)
       | (go_at_call 25; (with_reducible refine (HFEW.out _ HB8.out).mono ?_); rw [HF.out]; rintro e w9 ⟨rfl, hb⟩; obtain ⟨k1, k2, k3⟩ := HBOX.out _ hb; have HB9 := Aside0.mk hb; clear hb))
     go_ret
     exact ⟨rfl, QB.out.trans (HB9.out.mono QB.out.size)⟩
   · have e3 : decide (300 < (m : Int)) = false := by simp; omega
     cases hs : shapeB s with
     | false =>
      have HS := Lib.hid hs
      clear hf hbl HMADE h300 hs
      go_enter Try.func9, Try.ntmps9
      go_wp2_with fail
      rw [← HW.out]
      go_wp2_with (first
        | (go_at_call 24; (with_reducible refine (Awake_any _).mono ?_); rintro e w1 ⟨rfl, hb⟩; have HB1 := Aside0.mk hb; clear hb)
        | (go_at_call 38; (with_reducible refine (Read_nil _ _ _).mono ?_); rintro e w2 ⟨rfl, rfl⟩)
        | (go_at_call 31; (with_reducible refine (Sync_nil _).mono ?_); rintro e w3 ⟨rfl, rfl⟩)
        | (go_at_call 36; (with_reducible refine (Crash_nil _ _ _ _).mono ?_); rintro e w4 ⟨rfl, hb⟩; have HB4 := Aside0.mk (HB1.out.trans (hb.mono HB1.out.size)); clear hb)
        | (go_at_call 34; (with_reducible refine (Write_nil _ _ _ _ _ _).mono ?_); rintro e w5 ⟨rfl, hb⟩; have HB5 := Aside0.mk (HB4.out.trans (hb.mono HB4.out.size)); clear hb)
        | (go_at_call 41; (with_reducible refine (Erase_nil _ _).mono ?_); rintro e w6 ⟨rfl, hb⟩; have HB6 := Aside0.mk (HB5.out.trans (hb.mono HB5.out.size)); clear hb)
        | (go_at_call 39; (with_reducible refine (Used_nil _ _ _).mono ?_); rintro e w7 ⟨rfl, rfl⟩)
        | (go_at_call 40; (with_reducible refine (Dirty_nil _).mono ?_); rintro e w7 ⟨rfl, rfl⟩)
        | (go_at_call 42; (with_reducible refine (Copy_nil _).mono ?_); rintro e w7 ⟨rfl, rfl⟩)
        | (go_at_call 43; (with_reducible refine (Shape_nil _).mono ?_); rintro e w8 ⟨rfl, hb⟩; have HB8 := Aside0.mk (HB6.out.trans (hb.mono HB6.out.size)); clear hb)
        | (go_at_call 25; (with_reducible refine (HFEW.out _ HB8.out).mono ?_); rw [HF.out]; rintro e w9 ⟨rfl, hb⟩; obtain ⟨k1, k2, k3⟩ := HBOX.out _ hb; have HB9 := Aside0.mk hb; clear hb)
        | (go_at_call 26; (with_reducible refine (RShape_any _ _).mono ?_); rw [HS.out]; rintro e w10 ⟨rfl, hb⟩; have HB10 := Aside0.mk (HB9.out.trans (hb.mono HB9.out.size)); clear hb; obtain ⟨j1, j2, j3⟩ := HBOX.out _ HB10.out))
      go_ret
      exact ⟨rfl, QB.out.trans (HB10.out.mono QB.out.size)⟩
     | true =>
      have HS := Lib.hid hs
      have HMD := Lib.hid (HMADE.out hs hf)
      have H300 := Lib.hid (show m ≤ 300 by omega)
      clear hf hbl HMADE h300 hs
      go_enter Try.func9, Try.ntmps9
      go_wp2_with fail
      rw [← HW.out]
      go_wp2_with (first
      | (go_at_call 24; (with_reducible refine (Awake_any _).mono ?_); rintro e w1 ⟨rfl, hb⟩; have HB1 := Aside0.mk hb; clear hb)
      | (go_at_call 38; (with_reducible refine (Read_nil _ _ _).mono ?_); rintro e w2 ⟨rfl, rfl⟩)
      | (go_at_call 31; (with_reducible refine (Sync_nil _).mono ?_); rintro e w3 ⟨rfl, rfl⟩)
      | (go_at_call 36; (with_reducible refine (Crash_nil _ _ _ _).mono ?_); rintro e w4 ⟨rfl, hb⟩; have HB4 := Aside0.mk (HB1.out.trans (hb.mono HB1.out.size)); clear hb)
      | (go_at_call 34; (with_reducible refine (Write_nil _ _ _ _ _ _).mono ?_); rintro e w5 ⟨rfl, hb⟩; have HB5 := Aside0.mk (HB4.out.trans (hb.mono HB4.out.size)); clear hb)
      | (go_at_call 41; (with_reducible refine (Erase_nil _ _).mono ?_); rintro e w6 ⟨rfl, hb⟩; have HB6 := Aside0.mk (HB5.out.trans (hb.mono HB5.out.size)); clear hb)
      | (go_at_call 39; (with_reducible refine (Used_nil _ _ _).mono ?_); rintro e w7 ⟨rfl, rfl⟩)
      | (go_at_call 40; (with_reducible refine (Dirty_nil _).mono ?_); rintro e w7 ⟨rfl, rfl⟩)
      | (go_at_call 42; (with_reducible refine (Copy_nil _).mono ?_); rintro e w7 ⟨rfl, rfl⟩)
      | (go_at_call 43; (with_reducible refine (Shape_nil _).mono ?_); rintro e w8 ⟨rfl, hb⟩; have HB8 := Aside0.mk (HB6.out.trans (hb.mono HB6.out.size)); clear hb)
      | (go_at_call 25; (with_reducible refine (HFEW.out _ HB8.out).mono ?_); rw [HF.out]; rintro e w9 ⟨rfl, hb⟩; obtain ⟨k1, k2, k3⟩ := HBOX.out _ hb; have HB9 := Aside0.mk hb; clear hb)
      | (go_at_call 26; (with_reducible refine (RShape_any _ _).mono ?_); rw [HS.out]; rintro e w10 ⟨rfl, hb⟩; have HB10 := Aside0.mk (HB9.out.trans (hb.mono HB9.out.size)); clear hb; obtain ⟨j1, j2, j3⟩ := HBOX.out _ HB10.out)
      | (go_at_call 29; (with_reducible refine (HMD.out _ HB10.out).mono ?_); rintro e w11 ⟨p, x, rfl, ⟨D, ps, ht, hsim, hl⟩, hb⟩; have HT11 := Aside0.mk ht; have HSIM := Aside0.mk hsim; have HL := Lib.hid hl; have HB11 := Aside0.mk hb; clear ht hb hsim hl)
      | (go_at_call 42; (with_reducible refine (HT11.out.copy (by have := HL.out; exact Nat.lt_of_le_of_lt HSIM.out.dirtyLe (by omega))).mono ?_); rintro e w12 ⟨cc, rfl, ht, hb⟩; have HT12 := Aside0.mk ht; have HB12 := Aside0.mk (HB11.out.trans (hb.mono HB11.out.size)); clear ht hb)
      | (at_builtin; refine append_bytes rfl (.tmp 102) rfl B m d bs rfl HBD.out (Kd.C_below HBW.out HB12.out) HM.out H300.out ?_; intro A1 c1 w13 hr hb; have hT := HT12.out.keep hb; obtain ⟨A9, c9, e9, _, hC9⟩ := hr.reads; injection e9 with e91 e92 e93; subst e91 e93; have hwr := hT.write seg page A1 c1 bs hC9 (by have := HL.out; exact Nat.lt_of_le_of_lt HSIM.out.dirtyLe (by omega)); rw [← HM.out] at hwr; have hmi := hr.mine; rw [← HM.out] at hmi; have HWR := Lib.hid hwr; have HMI := Lib.hid hmi; have HB13 := Aside0.mk (HB12.out.trans (hb.mono HB12.out.size)); clear hr hb hT e92 hC9 hwr hmi)
      | (go_at_call 34; (with_reducible refine HWR.out.mono ?_); rintro e w14 ⟨rfl, ht, hb, hk⟩; have HT14 := Aside0.mk ht; have HB14 := Aside0.mk (HB13.out.trans hb); have HM14 := Lib.hid (HMI.out.step (w' := w14) (fun _ h => h) (fun k hk2 _ => hk k hk2)); clear ht hb hk))
      obtain ⟨D', hD'⟩ : ∃ D', D' = writeD D seg page bs := ⟨_, rfl⟩
      obtain ⟨ER, hER⟩ : ∃ ER, ER = writeE D seg page bs := ⟨_, rfl⟩
      have hrd : ER = 0 → gotD D' seg page = fullT s.2.2.toNat bs := fun h => by rw [hD']; exact own_read HSIM.out (by rw [← hER]; exact h)
      obtain ⟨K1, hK1⟩ : ∃ K1 : Nat → Prop, K1 = (fun k => w12.heap.size ≤ k ∧ k < w13.heap.size) := ⟨_, rfl⟩
      have ht14 := HT14.out
      have hm14 := HM14.out
      rw [← hD', ← hK1] at ht14
      rw [← hK1] at hm14
      have hk1 : ∀ k, K1 k → W.heap.size ≤ k := fun k h => by rw [hK1] at h; exact Nat.le_trans HB12.out.size h.1
      have HK1 := Lib.hid hk1
      have T14 := Aside0.mk ht14
      have M14 := Lib.hid hm14
      have HRD := Lib.hid hrd
      have HSO := Lib.hid (show ShapeOk s by have := HT12.out.px.shape; rwa [HSIM.out.sh] at this)
      rw [← hER]
      have m300 := H300.out
      clear hD' hER hrd hK1 ht14 hm14 hk1 HT14 HM14 HWR HMI
      go_loopw [111] (fun v111 wr => ∃ k : Nat, k ≤ m ∧ v111 = .int .i64 (k : Int) ∧ Tri K1 W.heap.size p x cc D' s ps D wr ∧ Mine wr K1 (.slice A1 m c1) m ∧ Below W.heap.size W wr) (fun v111 _ => m - (intOf v111).toNat)
      case atStart => exact ⟨0, Nat.zero_le _, rfl, T14.out, M14.out, HB14.out⟩
      case round =>
       obtain ⟨k, hk, rfl, ht, hmi, hbw⟩ := hrel
       have HTR := Aside0.mk ht
       have HMI := Lib.hid hmi
       have HBR := Aside0.mk hbw
       clear ht hmi hbw
       by_cases hlt : k < m
       · obtain ⟨A', c', e', h1⟩ := HMI.out
         injection e' with e1 e2 e3
         subst e1 e3
         obtain ⟨g, off, cur, rfl, hKg, hh, hc⟩ := h1 (by omega)
         obtain ⟨z, hz⟩ := hc k hlt
         have hcell : wr.cell? ⟨g, off + k, none⟩ = some (.int .u8 z) := by rw [bcell hh]; exact hz
         have hfz : wr.frozen? ⟨g, off + k, none⟩ = false := bfrozen hh _
         have k0 : (0 : Int) ≤ (k : Int) := by omega
         have k2 : (k : Int) < (m : Int) := by omega
         have HHH := Lib.hid hh
         have HCC := Lib.hid hc
         have HKG := Lib.hid hKg
         clear hh hc h1 hKg hz
         go_wp2
         obtain ⟨cur2, hq1, hq2⟩ := mine_set (k := k) HHH.out HCC.out (z := _)
         exact ⟨⟨k + 1, by omega, by go_num, HTR.out.beside (Upd.setCell (S := fun j => j = g) wr rfl _) (fun j hj _ => by rw [hj]; exact HKG.out), ⟨_, _, rfl, fun _ => ⟨g, off, cur2, rfl, HKG.out, hq1, hq2⟩⟩, Below.setCell HBR.out (HK1.out _ HKG.out) _⟩, by simp [intOf]; omega⟩
       · obtain rfl : k = m := by omega
         obtain ⟨G, hG⟩ : ∃ G, G = gotD D' seg page := ⟨_, rfl⟩
         obtain ⟨gl, hgl⟩ : ∃ gl, gl = G.length := ⟨_, rfl⟩
         have hg256 : gl ≤ 256 := by rw [hgl, hG]; exact HTR.out.glen seg page
         have hread := fun (V : World) (K2 : Nat → Prop) (hV : Tri K2 W.heap.size p x cc D' s ps D V) => hV.read seg page
         rw [← hG, ← hgl] at hread
         have HREAD := Lib.hid hread
         have HGL := Lib.hid hgl
         have HG := Lib.hid hG
         clear hread hgl hG
         go_wp2_with (go_at_call 38; (with_reducible refine (HREAD.out _ _ HTR.out).mono ?_); rintro e w15 ⟨A2, c2, rfl, hr, hb⟩; have hT := HTR.out.keep hb; have hmi := hr.mine; rw [← HGL.out] at hmi; have HTK := Aside0.mk hT; have HMK := Lib.hid hmi; have HB15 := Aside0.mk (HBR.out.trans (hb.mono HBR.out.size)); clear hT hmi hr hb)
         obtain ⟨K2, hK2⟩ : ∃ K2 : Nat → Prop, K2 = (fun k => wr.heap.size ≤ k ∧ k < w15.heap.size) := ⟨_, rfl⟩
         have htk := HTK.out
         have hmk := HMK.out
         rw [← hK2] at htk hmk
         have hk2 : ∀ k, K2 k → W.heap.size ≤ k := fun k h => by rw [hK2] at h; exact Nat.le_trans HBR.out.size h.1
         have HK2 := Lib.hid hk2
         have HTK2 := Aside0.mk htk
         have HMK2 := Lib.hid hmk
         clear hK2 htk hmk hk2 HTK HMK
         go_loopw [130] (fun v130 wr => ∃ k : Nat, k ≤ gl ∧ v130 = .int .i64 (k : Int) ∧ Tri K2 W.heap.size p x cc D' s ps D wr ∧ Mine wr K2 (.slice A2 gl c2) gl ∧ Below W.heap.size W wr) (fun v130 _ => gl - (intOf v130).toNat)
         case atStart => exact ⟨0, Nat.zero_le _, rfl, HTK2.out, HMK2.out, HB15.out⟩
         case round =>
          obtain ⟨k, hk, rfl, ht, hmi, hbw⟩ := hrel
          have HTS := Aside0.mk ht
          have HMS := Lib.hid hmi
          have HBS := Aside0.mk hbw
          clear ht hmi hbw
          by_cases hlt : k < gl
          · obtain ⟨A', c', e', h1⟩ := HMS.out
            injection e' with e1 e2 e3
            subst e1 e3
            obtain ⟨g, off, cur, rfl, hKg, hh, hc⟩ := h1 (by omega)
            obtain ⟨z, hz⟩ := hc k hlt
            have hcell : wr.cell? ⟨g, off + k, none⟩ = some (.int .u8 z) := by rw [bcell hh]; exact hz
            have hfz : wr.frozen? ⟨g, off + k, none⟩ = false := bfrozen hh _
            have k0 : (0 : Int) ≤ (k : Int) := by omega
            have k2 : (k : Int) < (gl : Int) := by omega
            have HHH := Lib.hid hh
            have HCC := Lib.hid hc
            have HKG := Lib.hid hKg
            clear hh hc h1 hKg hz
            go_wp2
            obtain ⟨cur2, hq1, hq2⟩ := mine_set (k := k) HHH.out HCC.out (z := _)
            exact ⟨⟨k + 1, by omega, by go_num, HTS.out.beside (Upd.setCell (S := fun j => j = g) wr rfl _) (fun j hj _ => by rw [hj]; exact HKG.out), ⟨_, _, rfl, fun _ => ⟨g, off, cur2, rfl, HKG.out, hq1, hq2⟩⟩, Below.setCell HBS.out (HK2.out _ HKG.out) _⟩, by simp [intOf]; omega⟩
          · obtain rfl : k = gl := by omega
            have hlike := HSIM.out
            have hl60 := HL.out
            have HL6 := Lib.hid (show ps.length < 1000000 by omega)
            clear hl60 hlike
            by_cases hE : ER = 0
            · have e9 : (ER != 0) = false := by simp [hE]
              have hGe : G = fullT s.2.2.toNat bs := by rw [HG.out]; exact HRD.out hE
              have HGE := Lib.hid hGe
              clear hGe hE
              go_wp2_with (first
                | (go_at_call 38; (with_reducible refine (HREAD.out _ _ HTS.out).mono ?_); rintro e w16 ⟨A3, c3, rfl, hr, hb⟩; obtain ⟨A9, c9, e91, _, hC9⟩ := hr.reads; injection e91 with e92 e93 e94; subst e92 e94; have HC9 := Aside0.mk hC9; have HTW := Aside0.mk (HTS.out.below hb); have HB16 := Aside0.mk (HBS.out.trans (hb.mono HBS.out.size)); clear hr hb hC9 e93)
                | (go_at_call 30; (with_reducible refine (Like_any HTW.out.cx HSIM.out HL6.out).mono ?_); rintro e w17 ⟨rfl, hb⟩; have HTX := Aside0.mk (HTW.out.below hb); have HC10 := Aside0.mk (Kd.C_below HC9.out hb); have HB17 := Aside0.mk (HB16.out.trans (hb.mono HB16.out.size)); clear hb)
                | (go_at_call 44; have hfu := HTX.out.rfull HSO.out B d bs (by rw [← HM.out]; exact Kd.C_below HBW.out HB17.out) (by rw [← HM.out]; have := H300.out; omega); rw [← HM.out, ← HGE.out, ← HGL.out] at hfu; (with_reducible refine hfu.mono ?_); rintro e w18 ⟨A4, c4, rfl, hC, hb⟩; have HC11 := Aside0.mk hC; have HC12 := Aside0.mk (Kd.C_below HC10.out hb); have HB18 := Aside0.mk (HB17.out.trans (hb.mono HB17.out.size)); clear hb hC hfu)
                | (go_at_call 19; have hby := Bytes_any (c := c3) (d := c4) HC12.out (HGL.out ▸ HC11.out) (by rw [← HGL.out]; omega) (by rw [← HGL.out]; omega); rw [← HGL.out] at hby; (with_reducible refine hby.mono ?_); rw [decide_eq_true rfl]; rintro e w19 ⟨rfl, hb⟩; have HB19 := Aside0.mk (HB18.out.trans (hb.mono HB18.out.size)); clear hb hby))
              go_ret
              exact ⟨rfl, QB.out.trans (HB19.out.mono QB.out.size)⟩
            · have e9 : (ER != 0) = true := by simp [hE]
              clear hE
              go_wp2_with (first
                | (go_at_call 38; (with_reducible refine (HREAD.out _ _ HTS.out).mono ?_); rintro e w16 ⟨A3, c3, rfl, hr, hb⟩; have HTW := Aside0.mk (HTS.out.below hb); have HB16 := Aside0.mk (HBS.out.trans (hb.mono HBS.out.size)); clear hr hb)
                | (go_at_call 30; (with_reducible refine (Like_any HTW.out.cx HSIM.out HL6.out).mono ?_); rintro e w17 ⟨rfl, hb⟩; have HB17 := Aside0.mk (HB16.out.trans (hb.mono HB16.out.size)); clear hb))
              go_ret
              exact ⟨rfl, QB.out.trans (HB17.out.mono QB.out.size)⟩
section
open Go.ChangeShapes Go.WideShapes Go.ChangeAt Go.Joins Go.Deep Go.Proofs.Ytkmanjfmffdcbaa.Opens
variable {H : Type} {enc : TypeId × Value → H} {P : Program} {w : World} {base : Nat} {spare : Nat → Bool} {held : Bool}
theorem row_bytes {t e : TypeId} {A : Option Addr} {len c : Nat} {d : DataW H} {p : List MemPlace} (ht : P.underlying t = some (.slice e)) (he : P.underlying e = some (.int .u8)) (hC : P.cellsOf e = 1)
    (h : DataW.Trod enc P w base spare held t (.slice A len c) d p) : ∃ l : List Int, len = l.length ∧ kB.C w A l.length l ∧ (A = none → c = 0) := by
  obtain ⟨l, h1, h2, _⟩ := row_ints ht he hC h
  refine ⟨l, h1, h2, fun hA => ?_⟩
  obtain ⟨fuel, hf⟩ := h
  rcases open_slice ht hf with ⟨hcs, _⟩ | ⟨a, len', cap, m, n, D, Pl, hcs, _⟩
  · simp [Value.cells] at hcs
    exact hcs.2.2
  · simp [Value.cells] at hcs
    rw [hA] at hcs
    exact absurd hcs.1 (by simp)
end
theorem flash_own_walk (a b c : Int) (A : Option Addr) (d : Nat) (ds : List DeedT) (B : Option Addr) (e : Nat) (bs : List Int) (seg page : Int) (W : World) (_ : (Lit.int .i64 a).wf = true) (_ : (Lit.int .i64 b).wf = true) (_ : (Lit.int .i64 c).wf = true)
    (hr : DRow W A ds) (h0 : ds.length ≤ 9223372036854775807) (hp : ∀ d ∈ ds, PlanOk d.P) (hb : kB.C W B bs.length bs) (hd : B = none → e = 0) (_ : (Lit.int .i64 seg).wf = true) (_ : (Lit.int .i64 page).wf = true) :
    Calls Try.prog 9 #[.agg #[.int .i64 a, .int .i64 b, .int .i64 c], .slice A ds.length d, .slice B bs.length e, .int .i64 seg, .int .i64 page] W fun e w' => e = .returned (.bool true) ∧ Below W.heap.size W w' := FlashOwn_any (a, b, c) seg page hr h0 hp hb hd
end Go.Proofs.Ytkmanjfmffdcbaa.Fl
