/- FlashDoes: walked. No condition but what every argument brings. -/
import Derived.Test.YtkmanjfmffdcbaaFlAwake
namespace Go.Proofs.Ytkmanjfmffdcbaa.Fl
open Go.RowKit Go.Proofs.YtkmanjfmffdcbaaW.PrintWords Go.Proofs.YtkmanjfmffdcbaaW.PrintMore Go.Maps
set_option linter.unusedSimpArgs false
set_option linter.unusedVariables false
theorem Right_is (s : Int × Int × Int) (w : World) : Calls Try.prog 28 #[.agg #[.int .i64 s.1, .int .i64 s.2.1, .int .i64 s.2.2]] w fun e w' => e = .returned (.bool (shapeB s)) ∧ Below w.heap.size w w' := Right_any s w
set_option maxHeartbeats 4000000 in
set_option maxRecDepth 100000 in
theorem FlashDoes_any {w : World} {A : Option Addr} {c : Nat} (s : Int × Int × Int) {ds : List DeedT} (hr : DRow w A ds) (h0 : ds.length ≤ 9223372036854775807) (hp : ∀ d ∈ ds, PlanOk d.P) :
    Calls Try.prog 7 #[.agg #[.int .i64 s.1, .int .i64 s.2.1, .int .i64 s.2.2], .slice A ds.length c] w fun e w' => e = .returned (.bool true) ∧ Below w.heap.size w w' := by
  obtain ⟨n, hn⟩ : ∃ n, n = ds.length := ⟨_, rfl⟩
  obtain ⟨W, hW⟩ : ∃ W, W = w.alloc (.cells #[.int .i64 s.1, .int .i64 s.2.1, .int .i64 s.2.2] 46) := ⟨_, rfl⟩
  have q0 : W.heap[w.heap.size]? = some (.cells #[.int .i64 s.1, .int .i64 s.2.1, .int .i64 s.2.2] 46 (0, 0)) := by rw [hW]; exact blk_new w _
  have qb : Below w.heap.size w W := by rw [hW]; exact below_alloc (Below.refl _ _) _
  have hbox : ∀ V : World, Below W.heap.size W V → V.cell? ⟨w.heap.size, 0, none⟩ = some (.int .i64 s.1) ∧ V.cell? ⟨w.heap.size, 1, none⟩ = some (.int .i64 s.2.1) ∧ V.cell? ⟨w.heap.size, 2, none⟩ = some (.int .i64 s.2.2) := fun V hV => by
    have := (hV.block w.heap.size (blt q0)).trans q0
    exact ⟨bcell this 0, bcell this 1, bcell this 2⟩
  have hfew : ∀ V : World, Below W.heap.size W V → Calls Try.prog 25 #[.slice A n c] V fun e w' => e = .returned (.bool (fewB ds)) ∧ Below W.heap.size W w' := fun V hV => by
    rw [hn]
    exact (Few_any ((hr.below qb).below hV) h0).mono fun e w' ⟨h1, h2⟩ => ⟨h1, hV.trans (h2.mono hV.size)⟩
  have hmade : shapeB s = true → fewB ds = true → ∀ V : World, Below W.heap.size W V → Calls Try.prog 29 #[.agg #[.int .i64 s.1, .int .i64 s.2.1, .int .i64 s.2.2], .slice A n c] V fun e w' => ∃ p x, e = .returned (.tuple #[.pointer (some ⟨p, 0, none⟩), .pointer (some ⟨x, 0, none⟩), .bool true]) ∧ (∃ D ps, Two (fun _ => False) V.heap.size p x D s ps w' ∧ Sim D s ps ∧ ps.length ≤ 60) ∧ Below W.heap.size W w' := fun hs hf V hV => by
    rw [hn]
    have h60 : ds.length ≤ 60 := by
      unfold fewB at hf
      simp at hf
      exact hf.2
    exact (Made_any hs ((hr.below qb).below hV) h60 hp).mono fun e w' ⟨p, x, D, ps, h1, h2, h3, h4, h5⟩ => ⟨p, x, h1, ⟨D, ps, h2, h3, h4⟩, hV.trans (h5.mono hV.size)⟩
  have HBOX := Lib.hid hbox
  have HFEW := Lib.hid hfew
  have HMADE := Lib.hid hmade
  have HW := Lib.hid hW
  have QB := Aside0.mk qb
  have HN := Lib.hid hn
  rw [← hn] at h0
  rw [← hn]
  clear hr hn hp hbox hfew hmade hW q0 qb
  cases hf : fewB ds with
  | false =>
    have HF := Lib.hid hf
    clear hf
    go_enter Try.func7, Try.ntmps7
    go_wp2_with fail
    rw [← HW.out]
    go_wp2_with (first
      | (go_at_call 24; (with_reducible refine (Awake_any _).mono ?_); rintro e w1 ⟨rfl, hb⟩; have HB1 := Aside0.mk hb; clear hb)
      | (go_at_call 25; (with_reducible refine (HFEW.out _ HB1.out).mono ?_); rw [HF.out]; rintro e w2 ⟨rfl, hb⟩; have HB2 := Aside0.mk hb; clear hb))
    go_ret
    exact ⟨rfl, QB.out.trans (HB2.out.mono QB.out.size)⟩
  | true =>
    have HF := Lib.hid hf
    clear hf
    cases hs : shapeB s with
    | false =>
      have hno := fun V => New_no s hs V
      have HNO := Lib.hid hno
      have HS := Lib.hid hs
      clear hs hno
      go_enter Try.func7, Try.ntmps7
      go_wp2_with fail
      rw [← HW.out]
      go_wp2_with (first
        | (go_at_call 24; (with_reducible refine (Awake_any _).mono ?_); rintro e w1 ⟨rfl, hb⟩; have HB1 := Aside0.mk hb; clear hb)
        | (go_at_call 25; (with_reducible refine (HFEW.out _ HB1.out).mono ?_); rw [HF.out]; rintro e w2 ⟨rfl, hb⟩; obtain ⟨k1, k2, k3⟩ := HBOX.out _ hb; have HB2 := Aside0.mk hb; clear hb)
        | (go_at_call 26; (with_reducible refine (RShape_any _ _).mono ?_); rw [HS.out]; rintro e w3 ⟨rfl, hb⟩; have HB3 := Aside0.mk (HB2.out.trans (hb.mono HB2.out.size)); clear hb; obtain ⟨j1, j2, j3⟩ := HBOX.out _ HB3.out)
        | (go_at_call 27; (with_reducible refine (HNO.out _).mono ?_); rintro e w4 ⟨rfl, hb⟩; have HB4 := Aside0.mk (HB3.out.trans (hb.mono HB3.out.size)); clear hb; obtain ⟨i1, i2, i3⟩ := HBOX.out _ HB4.out)
        | (go_at_call 28; (with_reducible refine (Right_is _ _).mono ?_); rw [HS.out]; rintro e w5 ⟨rfl, hb⟩; have HB5 := Aside0.mk (HB4.out.trans (hb.mono HB4.out.size)); clear hb))
      go_ret
      exact ⟨rfl, QB.out.trans (HB5.out.mono QB.out.size)⟩
    | true =>
      have HMD := Lib.hid (HMADE.out hs HF.out)
      have HS := Lib.hid hs
      clear hs HMADE
      go_enter Try.func7, Try.ntmps7
      go_wp2_with fail
      rw [← HW.out]
      go_wp2_with (first
        | (go_at_call 24; (with_reducible refine (Awake_any _).mono ?_); rintro e w1 ⟨rfl, hb⟩; have HB1 := Aside0.mk hb; clear hb)
        | (go_at_call 25; (with_reducible refine (HFEW.out _ HB1.out).mono ?_); rw [HF.out]; rintro e w2 ⟨rfl, hb⟩; obtain ⟨k1, k2, k3⟩ := HBOX.out _ hb; have HB2 := Aside0.mk hb; clear hb)
        | (go_at_call 26; (with_reducible refine (RShape_any _ _).mono ?_); rw [HS.out]; rintro e w3 ⟨rfl, hb⟩; have HB3 := Aside0.mk (HB2.out.trans (hb.mono HB2.out.size)); clear hb; obtain ⟨j1, j2, j3⟩ := HBOX.out _ HB3.out)
        | (go_at_call 29; (with_reducible refine (HMD.out _ HB3.out).mono ?_); rintro e w4 ⟨p, x, rfl, ht, hb⟩; have HT4 := Lib.hid ht; have HB4 := Aside0.mk hb; clear ht hb; obtain ⟨i1, i2, i3⟩ := HBOX.out _ HB4.out)
        | (go_at_call 28; (with_reducible refine (Right_is _ _).mono ?_); rw [HS.out]; rintro e w5 ⟨rfl, hb⟩; have HT5 := Lib.hid (show ∃ D ps, Two (fun _ => False) _ p x D s ps w5 ∧ Sim D s ps ∧ ps.length ≤ 60 from by obtain ⟨D, ps, h1, h2⟩ := HT4.out; exact ⟨D, ps, h1.below hb, h2⟩); have HB5 := Aside0.mk (HB4.out.trans (hb.mono HB4.out.size)); clear hb)
        | (go_at_call 30; obtain ⟨D, ps, h1, h2, h3⟩ := HT5.out; (with_reducible refine (Like_any h1 h2 (by omega)).mono ?_); rintro e w6 ⟨rfl, hb⟩; have HB6 := Aside0.mk (HB5.out.trans (hb.mono HB5.out.size)); clear hb))
      go_ret
      exact ⟨rfl, QB.out.trans (HB6.out.mono QB.out.size)⟩
end Go.Proofs.Ytkmanjfmffdcbaa.Fl
