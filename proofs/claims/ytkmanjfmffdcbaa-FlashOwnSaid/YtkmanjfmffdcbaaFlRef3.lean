/- The document's device: Dirty, Erase, Sync, Shape, walked. No condition. -/
import Derived.Test.YtkmanjfmffdcbaaFlRef2
namespace Go.Proofs.Ytkmanjfmffdcbaa.Fl
open Go.RowKit Go.Proofs.YtkmanjfmffdcbaaW.PrintWords Go.Proofs.YtkmanjfmffdcbaaW.PrintMore Go.Maps
set_option linter.unusedSimpArgs false
set_option linter.unusedVariables false
theorem info_page : (Try.prog.info? TP).map (fun i => (i.zero, i.size, i.bytes)) = some (some (.agg #[.int .i64 0, .int .i64 0, .slice none 0 0, .bool false]), 4, 48) := by kernel_rfl
theorem page_app {W : World} {N0 : Nat} {ok : Nat → Prop} {v : Value} {L : List Pg} (hR : kPage.R TP W N0 ok v L) {A : Option Addr} {c : Nat} {l : List Int} (hrow : Row W N0 ok (.slice A l.length c) l) (a b : Int) (x : Bool) :
    ∃ okp : Nat → Prop, kPage.M W N0 okp ((a, b), l, x) [.int .i64 a, .int .i64 b, .slice A l.length c, .bool x] ∧ ∀ k, okp k → ok k ∧ some k ≠ v.ownBlock := by
  refine ⟨_, kPage_mk a b x hrow.bound, fun k hk => ⟨hk.1, fun e => ?_⟩⟩
  obtain ⟨_, _, _, q, hq, cs, hc⟩ := hk
  obtain rfl : q = TB := by simpa using hq
  obtain ⟨cs', hc'⟩ := own_typed (Kd.R_own hR).choose_spec k e.symm
  exact typ_ne hc hc' (by decide) rfl
section
variable {N0 x : Nat} {s : Int × Int × Int} {ps : List Pg} {ok : Nat → Prop} {w : World}
/-- What a walk over the pages takes of the device. -/
theorem ref_open (hX : RefIs N0 x s ps ok w) : ∃ A c, w.heap[x]? = some (.cells #[.int .i64 s.1, .int .i64 s.2.1, .int .i64 s.2.2, .slice A ps.length c] TX (0, 0)) ∧ (0 < ps.length → ∃ g, A = some ⟨g, 0, none⟩ ∧ N0 ≤ g ∧ ok g ∧ PRow w N0 ok g c ps) ∧ kPage.R TP w N0 ok (.slice A ps.length c) ps := by
  obtain ⟨_, _, v, hx, hR⟩ := hX
  obtain ⟨A, c, rfl⟩ := Kd.R_slice hR
  refine ⟨A, c, hx, fun h => ?_, hR⟩
  obtain ⟨g, cap, e, h1, h2, hr⟩ := PRow.of_R hR (fun e => by
    injection e with _ h2 _
    omega)
  injection e with e1 e2 e3
  subst e3
  exact ⟨g, e1, h1, h2, hr⟩
def dirtyN (ps : List Pg) : Nat := (ps.filter (fun p => p.2.2)).length
theorem dirtyN_snoc (ps : List Pg) (p : Pg) : dirtyN (ps ++ [p]) = dirtyN ps + if p.2.2 then 1 else 0 := by
  unfold dirtyN
  rw [List.filter_append, List.length_append]
  cases h : p.2.2 <;> simp [h]
theorem dirtyN_le (ps : List Pg) : dirtyN ps ≤ ps.length := List.length_filter_le _ _
set_option maxHeartbeats 2000000 in
set_option maxRecDepth 100000 in
theorem RDirty_any (hX : RefIs N0 x s ps ok w) (hl : ps.length < 1000000) : Calls Try.prog 67 #[.pointer (some ⟨x, 0, none⟩)] w fun e w' => e = .returned (.int .i64 (dirtyN ps : Int)) ∧ Below w.heap.size w w' := by
  obtain ⟨A, c, hx, hrow, hR⟩ := ref_open hX
  obtain ⟨n, hn⟩ : ∃ n, n = ps.length := ⟨_, rfl⟩
  rw [← hn] at hx hrow hl
  have k1 : w.cell? ⟨x, 3, none⟩ = some (.slice A n c) := bcell hx 3
  have HR1 := Lib.hid hrow
  have HN := Lib.hid hn
  clear hx hrow hn hX hR
  go_enter Try.func67, Try.ntmps67
  go_wp2
  go_loopw [3, 11] (fun v3 v11 wr => ∃ k : Nat, k ≤ n ∧ v11 = .int .i64 (k : Int) ∧ v3 = .int .i64 (dirtyN (ps.take k) : Int) ∧ Below w.heap.size w wr) (fun _ v11 _ => n - (intOf v11).toNat)
  case atStart => exact ⟨0, Nat.zero_le _, rfl, rfl, Below.refl _ _⟩
  case round =>
    obtain ⟨k, hk, rfl, rfl, hb⟩ := hrel
    have HB := Aside0.mk hb
    have hle := dirtyN_le (ps.take k)
    have hle2 : (ps.take k).length ≤ k := List.length_take_le _ _
    obtain ⟨dn, hdn⟩ : ∃ dn, dn = dirtyN (ps.take k) := ⟨_, rfl⟩
    rw [← hdn] at hle
    have hd1 : dn ≤ k := by omega
    have HDN := Lib.hid hdn
    rw [← hdn]
    clear hb hle hle2 hdn
    by_cases hlt : k < n
    · obtain ⟨p, hp⟩ : ∃ p, ps[k]? = some p := ⟨_, List.getElem?_eq_getElem (by have := HN.out; omega)⟩
      obtain ⟨g, rfl, _, _, hrow⟩ := HR1.out (by omega)
      obtain ⟨A1, c1, hc⟩ := (hrow.below HB.out).cell hp
      have d0 := hc.c0; have d1 := hc.c1; have d2 := hc.c2; have d3 := hc.c3
      have ht : dirtyN (ps.take (k + 1)) = dn + if p.2.2 then 1 else 0 := by
        rw [HDN.out, ← dirtyN_snoc, List.take_add_one, hp]
        rfl
      obtain ⟨⟨pa, pb⟩, pl, px⟩ := p
      simp only at d0 d1 d2 d3 ht
      have HT := Lib.hid ht
      have k0 : (0 : Int) ≤ (k : Int) := by omega
      have k2 : (k : Int) < (n : Int) := by omega
      clear hc hp hrow ht
      cases px with
      | true =>
        go_wp2
        exact ⟨⟨k + 1, by omega, by go_num, by rw [HT.out]; go_num, below_alloc HB.out _⟩, by simp [intOf]; omega⟩
      | false =>
        go_wp2
        exact ⟨⟨k + 1, by omega, by go_num, by rw [HT.out]; rfl, below_alloc HB.out _⟩, by simp [intOf]; omega⟩
    · obtain rfl : k = n := by omega
      go_wp2
      go_ret
      have : dn = dirtyN ps := by rw [HDN.out, List.take_of_length_le (by have := HN.out; omega)]
      exact ⟨by rw [← this]; rfl, HB.out⟩
def syncP (ps : List Pg) : List Pg := ps.map (fun p => (p.1, p.2.1, false))
theorem ref_end {w1 : World} {v1 : Value} {L : List Pg} {ok' : Nat → Prop} (h0 : N0 ≤ x) (ho : ok' x) {u : Value} (hx : w1.heap[x]? = some (.cells #[.int .i64 s.1, .int .i64 s.2.1, .int .i64 s.2.2, u] TX (0, 0))) (hR : kPage.R TP w1 N0 ok' v1 L) : RefIs N0 x s L ok' (w1.setCell ⟨x, 3, none⟩ v1) := by
  refine ⟨h0, ho, v1, by rw [bset hx]; rfl, R_typed hR (fun k cs q hq hc _ => Below.heap_setCell _ _ _ _ (not_typ hx ?_ hc))⟩
  have : q = TP ∨ q = TB := by simpa [kPage, kAddr, kData, Kd.pair, Kd.int, Kd.bool, Kd.scalar] using hq
  rcases this with rfl | rfl <;> decide
def eraseP (a : Int) (ps : List Pg) : List Pg := ps.filter (fun p => p.1.1 != a)
theorem eraseP_snoc (a : Int) (ps : List Pg) (p : Pg) : eraseP a (ps ++ [p]) = if p.1.1 != a then eraseP a ps ++ [p] else eraseP a ps := by
  unfold eraseP
  rw [List.filter_append]
  cases h : (p.1.1 != a) <;> simp [h]
set_option maxHeartbeats 2000000 in
set_option maxRecDepth 100000 in
theorem RErase_any (hX : RefIs N0 x s ps ok w) (hl : ps.length < 1000000) (a : Int) : Calls Try.prog 66 #[.pointer (some ⟨x, 0, none⟩), .int .i64 a] w fun e w' => e = .returned (.tuple #[]) ∧ RefIs N0 x s (eraseP a ps) (fun k => ok k ∨ w.heap.size ≤ k) w' ∧ Upd (Mut ok w) w w' := by
  obtain ⟨A, c, hx, hrow, hR⟩ := ref_open hX
  have hN : N0 ≤ w.heap.size := Nat.le_of_lt (Nat.lt_of_le_of_lt hX.base (blt hx))
  obtain ⟨n, hn⟩ : ∃ n, n = ps.length := ⟨_, rfl⟩
  rw [← hn] at hx hrow hl
  have k1 : w.cell? ⟨x, 3, none⟩ = some (.slice A n c) := bcell hx 3
  have HR1 := Lib.hid hrow
  have HN := Lib.hid hn
  have HX := Lib.hid hx
  have HXX := Aside0.mk hX
  have HN0 := Lib.hid hN
  clear hx hrow hn hX hR hN
  go_enter Try.func66, Try.ntmps66
  go_wp2
  go_loopw [4, 12] (fun v4 v12 wr => ∃ k : Nat, k ≤ n ∧ v12 = .int .i64 (k : Int) ∧ Below w.heap.size w wr ∧ kPage.R TP wr N0 (fun j => ok j ∨ w.heap.size ≤ j) v4 (eraseP a (ps.take k)) ∧ ∀ j, v4.ownBlock = some j → w.heap.size ≤ j) (fun _ v12 _ => n - (intOf v12).toNat)
  case atStart => exact ⟨0, Nat.zero_le _, rfl, Below.refl _ _, Kd.R_nil _ _ _ _ _, fun j hj => by simp [Value.ownBlock] at hj⟩
  case round =>
    obtain ⟨k, hk, rfl, hb, hR, hown⟩ := hrel
    obtain ⟨A4, c4, rfl⟩ := Kd.R_slice hR
    have HB := Aside0.mk hb
    have HR := Aside0.mk hR
    have HO := Lib.hid hown
    have hln : (eraseP a (ps.take k)).length ≤ k := Nat.le_trans (List.length_filter_le _ _) (List.length_take_le _ _)
    obtain ⟨L, hL⟩ : ∃ L, L = eraseP a (ps.take k) := ⟨_, rfl⟩
    rw [← hL] at HR HO hln
    have HL := Lib.hid hL
    rw [← hL]
    clear hb hR hown hL
    by_cases hlt : k < n
    · obtain ⟨p, hp⟩ : ∃ p, ps[k]? = some p := ⟨_, List.getElem?_eq_getElem (by have := HN.out; omega)⟩
      obtain ⟨g, rfl, _, _, hrow⟩ := HR1.out (by omega)
      obtain ⟨A1, c1, hc⟩ := (hrow.below HB.out).cell hp
      have d0 := hc.c0; have d1 := hc.c1; have d2 := hc.c2; have d3 := hc.c3
      have HROW := Aside0.mk hc.row
      have ht : eraseP a (ps.take (k + 1)) = if p.1.1 != a then L ++ [p] else L := by
        rw [HL.out, ← eraseP_snoc, List.take_add_one, hp]
        rfl
      obtain ⟨⟨pa, pb⟩, pl, px⟩ := p
      simp only at d0 d1 d2 d3 ht HROW
      have HT := Lib.hid ht
      have k0 : (0 : Int) ≤ (k : Int) := by omega
      have k2 : (k : Int) < (n : Int) := by omega
      clear hc hp hrow ht
      cases e1 : (pa != a) with
      | true =>
        have hR2 := Kd.R_below HR.out (below_alloc (Below.refl _ wr) (.cells #[.int .i64 pa, .int .i64 pb, .slice A1 pl.length c1, .bool px] TP (0, 0)))
        obtain ⟨okp, hM, hokp⟩ := page_app hR2 ((HROW.out.below (below_alloc (Below.refl _ wr) (.cells #[.int .i64 pa, .int .i64 pb, .slice A1 pl.length c1, .bool px] TP (0, 0)))).mono (fun k hk => .inl hk)) pa pb px
        have HR2 := Aside0.mk hR2
        have HM := Aside0.mk hM
        have HOK := Lib.hid hokp
        have HB2 := Aside0.mk (below_alloc HB.out (.cells #[.int .i64 pa, .int .i64 pb, .slice A1 pl.length c1, .bool px] TP (0, 0)))
        clear hR2 hM hokp
        go_wp2_with (at_builtin; refine Kd.R_append kPage (w0 := w) N0 rfl (.tmp 21) (.tmp 23) 66 TP (.agg #[.int .i64 0, .int .i64 0, .slice none 0 0, .bool false]) 48 rfl Try.underlying66 info_page rfl (by decide) (by decide) (.slice A4 L.length c4) L ((pa, pb), pl, px) [.int .i64 pa, .int .i64 pb, .slice A1 pl.length c1, .bool px] (fun j => ok j ∨ w.heap.size ≤ j) okp rfl (by simp [Act.eval]) HM.out HOK.out (fun j hj => .inr (Nat.le_trans HB2.out.size hj)) HR2.out (HB2.out.mono HN0.out) (Nat.le_trans HN0.out HB2.out.size) (by omega) ?_; intro v1 w1 hr1 _ hg hat; have HR3 := Aside0.mk hr1; have HG := Aside0.mk hg; have HAT := Lib.hid hat; clear hr1 hg hat)
        have hb3 : Below w.heap.size w w1 := HB2.out.grown HG.out HB2.out.size HO.out
        refine ⟨⟨k + 1, by omega, by go_num, hb3, by rw [HT.out, if_pos e1]; exact HR3.out, fun j hj => ?_⟩, by simp [intOf]; omega⟩
        rcases HAT.out with h2 | ⟨b, h2, h3⟩
        · exact HO.out j (by rw [← h2]; exact hj)
        · have : b = j := by rw [h2] at hj; exact Option.some.inj hj
          have h5 : w.heap.size ≤ b := Nat.le_trans HB2.out.size h3
          omega
      | false =>
        go_wp2
        exact ⟨⟨k + 1, by omega, by go_num, below_alloc HB.out _, by rw [HT.out, if_neg (by rw [e1]; decide)]; exact Kd.R_below HR.out (below_alloc (Below.refl _ _) _), HO.out⟩, by simp [intOf]; omega⟩
    · obtain rfl : k = n := by omega
      have b1 := (HB.out.block x (blt HX.out)).trans HX.out
      have e3 : wr.cell? ⟨x, 3, none⟩ = some (.slice A k c) := bcell b1 3
      have f3 : wr.frozen? ⟨x, 3, none⟩ = false := bfrozen b1 3
      have B1 := Lib.hid b1
      clear b1
      go_wp2
      go_end0
      have hL2 : L = eraseP a ps := by rw [HL.out, List.take_of_length_le (by have := HN.out; omega)]
      refine ⟨rfl, by rw [← hL2]; exact ref_end HXX.out.base (.inl HXX.out.okx) B1.out HR.out, (Upd.ofBelow HB.out _).trans (Upd.setCell wr (p := ⟨x, 3, none⟩) (mut_of HXX.out.okx HX.out (by decide)) _) (fun _ h _ => h)⟩
theorem syncP_take (ps : List Pg) (k : Nat) {p : Pg} (hp : ps[k]? = some p) : (syncP (ps.take k) ++ ps.drop k).set k (p.1, p.2.1, false) = syncP (ps.take (k + 1)) ++ ps.drop (k + 1) := by
  have hk := (List.getElem?_eq_some_iff.1 hp).1
  have hl : (syncP (ps.take k)).length = k := by simp [syncP]; omega
  rw [List.set_append, if_neg (by omega), hl, Nat.sub_self]
  have hd : ps.drop k = p :: ps.drop (k + 1) := by
    rw [List.drop_eq_getElem_cons hk]
    congr 1
    rw [List.getElem?_eq_getElem hk] at hp
    exact Option.some.inj hp
  rw [hd, List.set_cons_zero, List.take_add_one, hp]
  simp [syncP]
set_option maxHeartbeats 2000000 in
set_option maxRecDepth 100000 in
theorem RSync_any (hX : RefIs N0 x s ps ok w) (hl : ps.length < 1000000) : Calls Try.prog 32 #[.pointer (some ⟨x, 0, none⟩)] w fun e w' => e = .returned (.tuple #[]) ∧ RefIs N0 x s (syncP ps) ok w' ∧ Upd (Mut ok w) w w' := by
  obtain ⟨A, c, hx, hrow, hR⟩ := ref_open hX
  obtain ⟨n, hn⟩ : ∃ n, n = ps.length := ⟨_, rfl⟩
  rw [← hn] at hx hrow hl
  have k1 : w.cell? ⟨x, 3, none⟩ = some (.slice A n c) := bcell hx 3
  have HR1 := Lib.hid hrow
  have HN := Lib.hid hn
  have HX := Lib.hid hx
  have HXX := Aside0.mk hX
  have HRN : Aside0 (kPage.R TP w N0 ok (.slice A n c) ps) := Aside0.mk (by rw [hn]; exact hR)
  have hxm : Mut ok w x := mut_of hX.okx hx (by decide)
  have HXM := Lib.hid hxm
  clear hx hrow hn hX hR hxm
  go_enter Try.func32, Try.ntmps32
  go_wp2
  go_loopw [8] (fun v8 wr => ∃ k : Nat, k ≤ n ∧ v8 = .int .i64 (k : Int) ∧ Upd (Mut ok w) w wr ∧ wr.heap[x]? = some (.cells #[.int .i64 s.1, .int .i64 s.2.1, .int .i64 s.2.2, .slice A n c] TX (0, 0)) ∧ kPage.R TP wr N0 ok (.slice A n c) (syncP (ps.take k) ++ ps.drop k)) (fun v8 _ => n - (intOf v8).toNat)
  case atStart => exact ⟨0, Nat.zero_le _, rfl, Upd.refl _ _, HX.out, HRN.out⟩
  case round =>
    obtain ⟨k, hk, rfl, hu, hx2, hpr⟩ := hrel
    have HU := Aside0.mk hu
    have HX2 := Lib.hid hx2
    have HPR := Lib.hid hpr
    have e1 : wr.cell? ⟨x, 3, none⟩ = some (.slice A n c) := bcell hx2 3
    clear hu hx2 hpr
    by_cases hlt : k < n
    · obtain ⟨p, hp⟩ : ∃ p, ps[k]? = some p := ⟨_, List.getElem?_eq_getElem (by have := HN.out; omega)⟩
      obtain ⟨g, rfl, hg1, hg2, hrow0⟩ := HR1.out (by omega)
      have hrow : PRow wr N0 ok g c (syncP (ps.take k) ++ ps.drop k) := by
        obtain ⟨g', cap', e, _, _, hr⟩ := PRow.of_R HPR.out (by simp)
        injection e with e1 e2 e3
        injection e1 with e1
        injection e1 with e1
        subst e1 e3
        exact hr
      have hp2 : (syncP (ps.take k) ++ ps.drop k)[k]? = some p := by
        have hl2 : (syncP (ps.take k)).length = k := by have := HN.out; simp [syncP]; omega
        rw [List.getElem?_append_right (by omega), hl2, Nat.sub_self, List.getElem?_drop]
        exact hp
      obtain ⟨A1, c1, hc⟩ := hrow.cell hp2
      have d3 := hc.c3
      have f3 := hc.f (k * 4 + 3)
      have hset := hrow.setDirty hp2 false
      rw [syncP_take ps k hp] at hset
      have HSET := Aside0.mk hset
      have hxg : x ≠ g := by
        obtain ⟨cur, qs, hh, _⟩ := hrow0.ex
        exact typ_ne HX.out hh (by decide)
      have HGM : Hid (Mut ok w g) := Lib.hid (by
        obtain ⟨cur, qs, hh, _⟩ := hrow0.ex
        exact mut_of hg2 hh (by decide))
      have k0 : (0 : Int) ≤ (k : Int) := by omega
      have k2 : (k : Int) < (n : Int) := by omega
      have HXG := Lib.hid hxg
      have HG1 := Lib.hid hg1
      have HG2 := Lib.hid hg2
      clear hc hp hrow hp2 hset hrow0 hg1 hg2 hxg
      go_wp2
      refine ⟨⟨k + 1, by omega, by go_num, HU.out.trans (Upd.setCell wr (p := ⟨g, k * 4 + 3, none⟩) HGM.out _) (fun _ h _ => h), ?_, ?_⟩, by simp [intOf]; omega⟩
      · rw [Below.heap_setCell _ _ _ _ HXG.out]
        exact HX2.out
      · have hr := HSET.out.to_R HG1.out HG2.out
        have hl3 : (syncP (ps.take (k + 1)) ++ ps.drop (k + 1)).length = n := by have := HN.out; simp [syncP]; omega
        rw [hl3] at hr
        exact hr
    · obtain rfl : k = n := by omega
      go_wp2
      go_end0
      have hr := HPR.out
      rw [List.take_of_length_le (by have := HN.out; omega), List.drop_eq_nil_of_le (by have := HN.out; omega), List.append_nil] at hr
      exact ⟨rfl, ⟨HXX.out.base, HXX.out.okx, _, HX2.out, hr⟩, HU.out⟩
end
end Go.Proofs.Ytkmanjfmffdcbaa.Fl
