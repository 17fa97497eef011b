/- ClockChance: walked. -/
import Derived.Test.YtkbialmlddhclaaCkCh0
namespace Go.Proofs.Ytkbialmlddhclaa.Ck
open Go.RowKit Go.Proofs.YtkbialmlddhclaaW.PrintWords Go.Proofs.YtkbialmlddhclaaW.PrintMore
set_option linter.unusedSimpArgs false
set_option linter.unusedVariables false
theorem add_none (a : Addr) : a.add 0 = a := by
  unfold Addr.add
  split <;> simp_all
theorem keep4 {X Y : World} {b1 b2 : Nat} {o1 o2 : Obj} {a1 a2 : Addr} {u1 u2 : Value} (h : X.heap[b1]? = some o1 ∧ X.heap[b2]? = some o2 ∧ X.cell? a1 = some u1 ∧ X.cell? a2 = some u2) (hb : Below X.heap.size X Y) : Y.heap[b1]? = some o1 ∧ Y.heap[b2]? = some o2 ∧ Y.cell? a1 = some u1 ∧ Y.cell? a2 = some u2 :=
  ⟨(hb.block _ (blt h.1)).trans h.1, (hb.block _ (blt h.2.1)).trans h.2.1, (hb.cell (World.block_lt_of_cell? X _ h.2.2.1)).trans h.2.2.1, (hb.cell (World.block_lt_of_cell? X _ h.2.2.2)).trans h.2.2.2⟩
set_option maxHeartbeats 20000000 in
set_option maxRecDepth 100000 in
theorem Chance_any {w : World} {A B : Option Addr} {c d : Nat} {l t : List Int} (hl : kI.C w A l.length l) (ht : kI.C w B t.length t) (hn20 : l.length ≤ 20) (hm20 : t.length ≤ 20) :
    Calls Try.prog 7 #[.slice A l.length c, .slice B t.length d] w fun e w' => e = .returned (.bool true) ∧ Below w.heap.size w w' := by
  obtain ⟨n, hnn⟩ : ∃ n, n = l.length := ⟨_, rfl⟩
  obtain ⟨m, hmm⟩ : ∃ m, m = t.length := ⟨_, rfl⟩
  have HC := Lib.hid (fun (X : World) (hX : Below w.heap.size w X) (i : Nat) (x : Int) (hx : l[i]? = some x) => kI_cell (Kd.C_below hl hX) hx)
  have HCT := Lib.hid (fun (X : World) (hX : Below w.heap.size w X) (i : Nat) (x : Int) (hx : t[i]? = some x) => kI_cell (Kd.C_below ht hX) hx)
  have HIN := Lib.hid (fun (X : World) (hX : Below w.heap.size w X) (x : Int) => In_any (c := d) (Kd.C_below ht hX) x)
  have HN := Lib.hid hnn
  have HM := Lib.hid hmm
  rw [← hmm] at HIN hm20
  rw [← hnn] at hn20
  rw [← hnn, ← hmm]
  have e1 : decide ((20 : Int) < (n : Int)) = false := decide_eq_false (by omega)
  have e2 : decide ((20 : Int) < (m : Int)) = false := decide_eq_false (by omega)
  clear hl ht hnn hmm
  go_enter Try.func7, Try.ntmps7
  go_wp2_with (first
    | (go_at_call 30; (with_reducible refine (Awake_any _).mono ?_); rintro e w1 ⟨rfl, hb⟩; have HB1 := Aside0.mk hb; clear hb)
    | (go_at_call 31; (with_reducible refine (New_any _).mono ?_); rintro e w2 ⟨V2, rfl, ⟨v2, rfl, hr2, h2⟩, hb2⟩; have HR2 := Aside0.mk hr2; have HB2 := Aside0.mk (HB1.out.trans (hb2.mono HB1.out.size)); clear hr2 hb2)
    | ((with_reducible refine gate_store (t := TR) (p := 5) rfl ?_); refine wl_store rfl rfl rfl rfl HR2.out.one (blk_new _ _) rfl h2 ?_; intro Y0 hY hu; have HY0 := Lib.hid hY; have HU0 := Aside0.mk hu; clear hY hu))
  have hv0 : VarR Y0 w2.heap.size newR := VarR.stored (HR2.out.below (below_alloc (Below.refl _ _) _)) h2 (blk_new _ _) HY0.out HU0.out
  have hb0 : Below w.heap.size w Y0 := (below_alloc HB2.out _).trans (HU0.out.below (Nat.le_trans HB2.out.size (below_alloc (Below.refl _ w2) _).size) (fun j hj => by rw [hj]; exact HB2.out.size))
  have HV0 := Lib.hid hv0
  have HB0 := Aside0.mk hb0
  clear hv0 hb0 e1 e2
  go_loopw [37] (fun v37 wr => ∃ k : Nat, k ≤ n ∧ v37 = .int .i64 (k : Int) ∧ VarR wr w2.heap.size (addAll (l.take k)) ∧ Below w.heap.size w wr) (fun v37 _ => n - (intOf v37).toNat)
  case atStart => exact ⟨0, Nat.zero_le _, rfl, HV0.out, HB0.out⟩
  case round =>
    obtain ⟨k, hk, rfl, ⟨v, hg, hrow, h16⟩, hb⟩ := hrel
    have HG := Lib.hid hg
    have HROW := Aside0.mk hrow
    have HB := Aside0.mk hb
    have hbs := blt hg
    clear hg hrow hb
    by_cases hlt : k < n
    · obtain ⟨x, hx⟩ : ∃ x, l[k]? = some x := ⟨_, List.getElem?_eq_getElem (by have := HN.out; omega)⟩
      obtain ⟨ad, rfl, kc⟩ := HC.out wr HB.out k x hx
      have hadd := Add_any (RingIs.of (r := addAll (l.take k)) HROW.out h16) x (by have := addAll_len (l.take k); rw [List.length_take] at this; omega)
      have HADD := Lib.hid hadd
      have HX := Lib.hid hx
      have k0 : (0 : Int) ≤ (k : Int) := by omega
      have k1 : (k : Int) < (n : Int) := by omega
      clear hx hadd
      go_wp2_with (first
        | ((with_reducible refine gate_dst (N := 41) rfl ?_); refine wl_load rfl rfl rfl HG.out h16 ?_)
        | (go_at_call 32; (with_reducible refine HADD.out.mono ?_); rintro e w3 ⟨V3, rfl, ⟨v3, rfl, hr3, h3⟩, hb3⟩; have HR3 := Aside0.mk hr3; have H3 := Lib.hid h3; have HB3 := Aside0.mk hb3; clear hr3 hb3)
        | ((with_reducible refine gate_store (t := TR) (p := 5) rfl ?_); refine wl_store rfl rfl rfl rfl HR3.out.one ((HB3.out.block _ hbs).trans HG.out) (ringC_size h16) h3 ?_; intro Y hY hu; have HY := Lib.hid hY; have HU := Aside0.mk hu; clear hY hu))
      refine ⟨⟨k + 1, by omega, by go_num, ?_, ?_⟩, by simp [intOf]; omega⟩
      · have e := fold_take addR newR HX.out
        show VarR _ _ ((l.take (k + 1)).foldl addR newR)
        rw [e]
        exact VarR.stored HR3.out h3 ((HB3.out.block _ hbs).trans HG.out) HY.out HU.out
      · exact (HB.out.trans (HB3.out.mono HB.out.size)).trans (HU.out.below (Nat.le_trans HB.out.size HB3.out.size) (fun j hj => by rw [hj]; exact HB2.out.size))

    · obtain rfl : k = n := by omega
      obtain ⟨wa, rfl⟩ : ∃ wa : World, wa = wr := ⟨_, rfl⟩
      have hR : addAll (l.take k) = addAll l := by rw [List.take_of_length_le (by have := HN.out; omega)]
      rw [hR] at HG HROW h16
      have hROK := addAll_ok l
      have hRL := addAll_len l
      rw [← HN.out] at hRL
      obtain ⟨R, hRR⟩ : ∃ R, R = addAll l := ⟨_, rfl⟩
      rw [← hRR] at HG HROW h16 hROK hRL
      have HRR := Lib.hid hRR
      have HROK := Lib.hid hROK
      have hb5 : w2.heap.size < wa.heap.size := hbs
      clear hRR hROK hR hbs hlt HV0 HB0 HY0 HU0 HR2 HB1
      go_wp2_with (first
        | ((with_reducible refine gate_dst (N := 45) rfl ?_); refine wl_load rfl rfl rfl HG.out h16 ?_)
        | ((with_reducible refine gate_store (t := TR) (p := 8) rfl ?_); refine wl_store rfl rfl rfl rfl HROW.out.one (blk_new _ _) rfl h16 ?_; intro Ya hY hu; have HYa := Lib.hid hY; have HUa := Aside0.mk hu; clear hY hu))
      have hva : VarR Ya wa.heap.size (touchAll R []) := VarR.stored (HROW.out.below (below_alloc (Below.refl _ _) _)) h16 (blk_new _ _) HYa.out HUa.out
      have hva5 : VarR Ya w2.heap.size R := (VarR.below ⟨_, HG.out, HROW.out, h16⟩ (below_alloc (Below.refl _ _) _)).other (by omega) (blk_new _ _) HUa.out
      have hba : Below w.heap.size w Ya := (below_alloc HB.out _).trans (HUa.out.below (Nat.le_trans HB.out.size (below_alloc (Below.refl _ wa) _).size) (fun j hj => by rw [hj]; exact HB.out.size))
      have HVA := Lib.hid hva
      have HVA5 := Lib.hid hva5
      have HBA := Aside0.mk hba
      have b8 : w.heap.size ≤ wa.heap.size := HB.out.size
      clear hva hva5 hba HG HROW HYa HUa
      go_loopw [48] (fun v48 wr => ∃ j : Nat, j ≤ m ∧ v48 = .int .i64 (j : Int) ∧ VarR wr w2.heap.size R ∧ VarR wr wa.heap.size (touchAll R (t.take j)) ∧ Below w.heap.size w wr) (fun v48 _ => m - (intOf v48).toNat)
      case atStart => exact ⟨0, Nat.zero_le _, rfl, HVA5.out, HVA.out, HBA.out⟩
      case round =>
        obtain ⟨j, hj, rfl, h5, ⟨v, hg, hrow, h16t⟩, hb⟩ := hrel
        have HG := Lib.hid hg
        have HROW := Aside0.mk hrow
        have H5 := Lib.hid h5
        have HB := Aside0.mk hb
        have hbs := blt hg
        clear hg hrow hb h5
        by_cases hlt : j < m
        · obtain ⟨x, hx⟩ : ∃ x, t[j]? = some x := ⟨_, List.getElem?_eq_getElem (by have := HM.out; omega)⟩
          obtain ⟨ad, rfl, kc⟩ := HCT.out wr HB.out j x hx
          have htouch := Touch_any (RingIs.of (r := touchAll R (t.take j)) HROW.out h16t) x (by rw [touchF_row]; omega) (touchF_ok _ HROK.out).rng
          have HTOUCH := Lib.hid htouch
          have HX := Lib.hid hx
          have k0 : (0 : Int) ≤ (j : Int) := by omega
          have k1 : (j : Int) < (m : Int) := by omega
          clear hx htouch
          go_wp2_with (first
            | ((with_reducible refine gate_dst (N := 52) rfl ?_); refine wl_load rfl rfl rfl HG.out h16t ?_)
            | (go_at_call 33; (with_reducible refine HTOUCH.out.mono ?_); rintro e w3 ⟨V3, rfl, ⟨v3, rfl, hr3, h3⟩, hb3⟩; have HR3 := Aside0.mk hr3; have H3 := Lib.hid h3; have HB3 := Aside0.mk hb3; clear hr3 hb3)
            | ((with_reducible refine gate_store (t := TR) (p := 8) rfl ?_); refine wl_store rfl rfl rfl rfl HR3.out.one ((HB3.out.block _ hbs).trans HG.out) (ringC_size h16t) h3 ?_; intro Y hY hu; have HY := Lib.hid hY; have HU := Aside0.mk hu; clear hY hu))
          refine ⟨⟨j + 1, by omega, by go_num, ?_, ?_, ?_⟩, by simp [intOf]; omega⟩
          · exact (H5.out.below HB3.out).other (by omega) ((HB3.out.block _ hbs).trans HG.out) HU.out
          · have e := fold_take touchR R HX.out
            show VarR _ _ ((t.take (j + 1)).foldl touchR R)
            rw [e]
            exact VarR.stored HR3.out h3 ((HB3.out.block _ hbs).trans HG.out) HY.out HU.out
          · exact (HB.out.trans (HB3.out.mono HB.out.size)).trans (HU.out.below (Nat.le_trans HB.out.size HB3.out.size) (fun j hj => by rw [hj]; exact b8))
        · obtain rfl : j = m := by omega
          obtain ⟨wb, rfl⟩ : ∃ wb : World, wb = wr := ⟨_, rfl⟩
          have hT : touchAll R (t.take j) = touchAll R t := by rw [List.take_of_length_le (by have := HM.out; omega)]
          rw [hT] at HG HROW h16t
          have HT8 := Lib.hid (show VarR wb wa.heap.size (touchAll R t) from ⟨v, HG.out, HROW.out, h16t⟩)
          clear hT hlt HVA HVA5 HBA HG HROW h16t hbs
          go_wp2
          go_loopw [11, 58] (fun v11 v58 wr => ∃ i : Nat, i ≤ k ∧ v58 = .int .i64 (i : Int) ∧ v11 = .bool (someB t (l.take i)) ∧ wb = wr) (fun _ v58 _ => k - (intOf v58).toNat)
          case atStart => exact ⟨0, Nat.zero_le _, rfl, rfl, rfl⟩
          case round =>
            obtain ⟨i, hi, rfl, rfl, rfl⟩ := hrel
            by_cases hlt : i < k
            · obtain ⟨x, hx⟩ : ∃ x, l[i]? = some x := ⟨_, List.getElem?_eq_getElem (by have := HN.out; omega)⟩
              obtain ⟨ad, rfl, kc⟩ := HC.out wb HB.out i x hx
              have hst := someB_take t hx
              have k0 : (0 : Int) ≤ (i : Int) := by omega
              have k1 : (i : Int) < (k : Int) := by omega
              have HST := Lib.hid hst
              clear hx hst
              cases hs : someB t (l.take i) with
              | true =>
                have HS := Lib.hid hs
                clear hs
                go_wp2
                exact ⟨⟨i + 1, by omega, by go_num, by rw [HST.out, HS.out]; rfl, by trivial⟩, by simp [intOf]; omega⟩
              | false =>
                have HS := Lib.hid hs
                clear hs
                by_cases h1 : 0 ≤ x
                · have d1 : decide (0 ≤ x) = true := decide_eq_true h1
                  by_cases h2 : x ≤ 15
                  · have d2 : decide (x ≤ 15) = true := decide_eq_true h2
                    have hma : mayB x = true := mayB_iff.2 ⟨h1, by omega⟩
                    have HMA := Lib.hid hma
                    clear hma
                    go_wp2_with (go_at_call 34; (with_reducible refine (HIN.out _ HB.out x).mono ?_); rintro e w4 ⟨rfl, rfl⟩)
                    exact ⟨⟨i + 1, by omega, by go_num, by rw [HST.out, HS.out, HMA.out]; simp, by trivial⟩, by simp [intOf]; omega⟩
                  · have d2 : decide (x ≤ 15) = false := decide_eq_false h2
                    have hma : mayB x = false := by
                      cases hh : mayB x with
                      | false => rfl
                      | true => have := mayB_iff.1 hh; omega
                    have HMA := Lib.hid hma
                    clear hma
                    go_wp2
                    exact ⟨⟨i + 1, by omega, by go_num, by rw [HST.out, HS.out, HMA.out]; rfl, by trivial⟩, by simp [intOf]; omega⟩
                · have d1 : decide (0 ≤ x) = false := decide_eq_false h1
                  have hma : mayB x = false := by
                    cases hh : mayB x with
                    | false => rfl
                    | true => have := mayB_iff.1 hh; omega
                  have HMA := Lib.hid hma
                  clear hma
                  go_wp2
                  exact ⟨⟨i + 1, by omega, by go_num, by rw [HST.out, HS.out, HMA.out]; rfl, by trivial⟩, by simp [intOf]; omega⟩
            · obtain rfl : i = k := by omega
              have hss : someB t (l.take i) = someB t l := by rw [List.take_of_length_le (by have := HN.out; omega)]
              rw [hss]
              clear hss hlt
              obtain ⟨T, hTT⟩ : ∃ T, T = touchAll R t := ⟨_, rfl⟩
              have hTrow : T.row = R.row := by rw [hTT]; exact touchF_row t R
              have hTOK : RGok T := by rw [hTT]; exact touchF_ok t HROK.out
              have hch : someB t l = true → R.row ≠ [] ∧ vicW T ∉ t := by
                rw [hTT, HRR.out]
                exact chance_in
              have h8 := HT8.out
              have h5 := H5.out
              rw [← hTT] at h8
              obtain ⟨vt, hgt, hrt, ht16⟩ := h8
              obtain ⟨vr, hgr, hrr, hr16⟩ := h5
              have hvt := Victim_any (RingIs.of hrt ht16) (by rw [hTrow]; omega) hTOK
              unfold VicPost at hvt
              rw [hTrow] at hvt
              have hvr := fun (X : World) (hX : RowV X vr R.row) => Victim_any (RingIs.of hX hr16) (by omega) HROK.out
              unfold VicPost at hvr
              have hnl : (vicN T).row.length = R.row.length := by
                unfold vicN
                split
                · rw [hTrow]
                · rename_i hne
                  rw [(victR_ok hTOK hne).len, hTrow]
              have hn16 : (vicN T).ms.length = 16 := by
                unfold vicN
                split
                · exact ht16
                · rename_i hne
                  exact (victR_ok hTOK hne).ok.m16
              have HGT := Lib.hid hgt
              have HRT := Aside0.mk hrt
              have HGR := Lib.hid hgr
              have HRR5 := Aside0.mk hrr
              have HVT := Lib.hid hvt
              have HVR := Lib.hid hvr
              have HCH := Lib.hid hch
              have HTROW := Lib.hid hTrow
              have HTOK := Lib.hid hTOK
              have HNL := Lib.hid hnl
              have b5a : w.heap.size ≤ w2.heap.size := HB2.out.size
              have b5b : w2.heap.size < wb.heap.size := blt hgr
              clear hTT hTrow hTOK hch hgt hrt hgr hrr hvt hvr H5 HT8 hnl
              cases he : R.row.isEmpty with
              | true =>
                have hlen0 : R.row.length = 0 := by rw [List.isEmpty_iff] at he; rw [he]; rfl
                have hsf : someB t l = false := by
                  cases hh : someB t l with
                  | false => rfl
                  | true => exact absurd (List.isEmpty_iff.1 he) (HCH.out hh).1
                rw [he] at HVT HVR
                rw [hsf]
                have hl5 := fun (X : World) (hX : RowV X vr R.row) => Len_any (RingIs.of hX hr16)
                rw [hlen0] at hl5
                have HL5 := Lib.hid hl5
                have hln := fun (X : World) (v : Value) (hX : RowV X v (vicN T).row) => Len_any (RingIs.of hX hn16)
                rw [HNL.out, hlen0] at hln
                have HLN := Lib.hid hln
                clear he hsf hlen0 hl5 hln
                go_wp2_with (first
                  | ((with_reducible refine gate_dst (N := 79) rfl ?_); refine wl_load rfl rfl rfl HGT.out ht16 ?_)
                  | (go_at_call 35; first | ((with_reducible refine (HVR.out _ HR5b.out).mono ?_); rintro e w7 ⟨V7, rfl, ⟨v7, rfl, hr7, h7⟩, hb7⟩; have HR7 := Aside0.mk hr7; have H7 := Lib.hid h7; have HB7 := Aside0.mk (HBY1.out.trans (hb7.mono HBY1.out.size)); have HG5c := Lib.hid ((hb7.block _ (blt HG5b.out)).trans HG5b.out); have HR5k := Aside0.mk (HR5b.out.below hb7); have HG15k := Lib.hid ((hb7.block _ (blt HG15b.out)).trans HG15b.out); have HR15k := Aside0.mk (HR15b.out.below hb7); have HS7 := Aside0.mk hb7.size; clear hr7 h7 hb7) | ((with_reducible refine HVT.out.mono ?_); rintro e w6 ⟨V6, rfl, ⟨v6, rfl, hr6, h6⟩, hb6⟩; have HR6 := Aside0.mk hr6; have HB6 := Aside0.mk (HB.out.trans (hb6.mono HB.out.size)); have HG5a := Lib.hid ((hb6.block _ (blt HGR.out)).trans HGR.out); have HR5a := Aside0.mk (HRR5.out.below hb6); have HS6 := Aside0.mk hb6.size; clear hr6 h6 hb6))
                  | ((with_reducible refine gate_store (t := TR) (p := 15) rfl ?_); refine wl_store rfl rfl rfl rfl HR6.out.one (blk_new _ _) rfl hn16 ?_; intro Y1 hY hu; have ha6 := below_alloc (Below.refl _ w6) ZR; have HG15b := Lib.hid hY; have HR15b := Aside0.mk (row_stored (HR6.out.below ha6) (blk_new _ _) hu); have HG5b := Lib.hid ((hu.block _ (Nat.lt_of_lt_of_le (blt HG5a.out) ha6.size) (by have := HS6.out; omega)).trans ((ha6.block _ (blt HG5a.out)).trans HG5a.out)); have HR5b := Aside0.mk (row_stored (HR5a.out.below ha6) (blk_new _ _) hu); have HBY1 := Aside0.mk ((below_alloc HB6.out ZR).trans (hu.below (Nat.le_trans HB6.out.size ha6.size) (fun q hq => by rw [hq]; exact HB6.out.size))); clear hY hu ha6)
                  | ((with_reducible refine gate_dst (N := 85) rfl ?_); refine wl_load rfl rfl rfl HG5b.out hr16 ?_)
                  | ((with_reducible refine gate_store (t := TR) (p := 18) rfl ?_); refine wl_store rfl rfl rfl rfl HR7.out.one (blk_new _ _) rfl H7.out ?_; intro Y2 hY hu; have ha7 := below_alloc (Below.refl _ w7) ZR; have HG15c := Lib.hid ((hu.block _ (Nat.lt_of_lt_of_le (blt HG15k.out) ha7.size) (by have := blt HG15k.out; omega)).trans ((ha7.block _ (blt HG15k.out)).trans HG15k.out)); have HR15c := Aside0.mk (row_stored (HR15k.out.below ha7) (blk_new _ _) hu); have HG5d := Lib.hid ((hu.block _ (Nat.lt_of_lt_of_le (blt HG5c.out) ha7.size) (by have := blt HG5c.out; omega)).trans ((ha7.block _ (blt HG5c.out)).trans HG5c.out)); have HR5c := Aside0.mk (row_stored (HR5k.out.below ha7) (blk_new _ _) hu); have HBY2 := Aside0.mk ((below_alloc HB7.out ZR).trans (hu.below (Nat.le_trans HB7.out.size ha7.size) (fun q hq => by rw [hq]; exact HB7.out.size))); clear hY hu ha7)
                  | ((with_reducible refine gate_dst (N := 95) rfl ?_); refine wl_loadG (by rfl) rfl rfl HG5d.out hr16 ?_)
                  | (go_at_call 36; first | ((with_reducible refine (HLN.out _ _ HR15d.out).mono ?_); rintro e w9 ⟨rfl, hb⟩; have HB9 := Aside0.mk (HB8.out.trans (hb.mono HB8.out.size)); clear hb) | ((with_reducible refine (HL5.out _ HR5c.out).mono ?_); rintro e w8 ⟨rfl, hb8⟩; have HG15d := Lib.hid ((hb8.block _ (blt HG15c.out)).trans HG15c.out); have HR15d := Aside0.mk (HR15c.out.below hb8); have HB8 := Aside0.mk (HBY2.out.trans (hb8.mono HBY2.out.size)); clear hb8))
                  | ((with_reducible refine gate_dst (N := 110) rfl ?_); refine wl_load rfl rfl rfl HG15d.out hn16 ?_))
                go_ret
                exact ⟨rfl, HB9.out⟩
              | false => 
                have hne : R.row ≠ [] := fun h => by rw [h] at he; cases he
                have hneT : T.row ≠ [] := by rw [HTROW.out]; exact hne
                have hvo := victR_ok HTOK.out hneT
                have hvo2 := victR_ok HROK.out hne
                have ew : vicW T = (victR T).1 := by unfold vicW; rw [if_neg hneT]
                have en : vicN T = (victR T).2 := by unfold vicN; rw [if_neg hneT]
                have ew2 : vicW R = (victR R).1 := by unfold vicW; rw [if_neg hne]
                rw [← ew, ← en] at hvo
                rw [← ew2] at hvo2
                have hunm : ∀ x : Int, markB R x = false := fun x => by
                  unfold markB
                  cases hh : mayB x with
                  | false => rfl
                  | true =>
                    have := addAll_mkd l (mayB_iff.1 hh).1
                    rw [← HRR.out] at this
                    exact this
                obtain ⟨q1, hq1⟩ := hvo.head
                obtain ⟨q2, hq2⟩ := hvo2.fst (fun x hx => by
                  have := addAll_mkd l (HROK.out.rng x hx).1
                  rwa [← HRR.out] at this)
                have hhas : decide (vicW T ∈ (vicN T).row) = true := decide_eq_true (by rw [hq1]; simp)
                have hmk : markB (vicN T) (vicW T) = false := by
                  unfold markB
                  have := hvo.unm
                  unfold mkd at this
                  rw [this]
                  simp
                obtain ⟨who, hwho⟩ : ∃ who, who = vicW T := ⟨_, rfl⟩
                obtain ⟨fst, hfst⟩ : ∃ fst, fst = vicW R := ⟨_, rfl⟩
                obtain ⟨N, hN⟩ : ∃ N, N = R.row.length := ⟨_, rfl⟩
                have hl5 := fun (X : World) (hX : RowV X vr R.row) => Len_any (RingIs.of hX hr16)
                rw [← hN] at hl5
                have hln := fun (X : World) (v : Value) (hX : RowV X v (vicN T).row) => Len_any (RingIs.of hX hn16)
                rw [HNL.out, ← hN] at hln
                have h15has := fun (X : World) (v : Value) (hX : RowV X v (vicN T).row) => Has_any (RingIs.of hX hn16) who
                have h15mk := fun (X : World) (v : Value) (hX : RowV X v (vicN T).row) => Marked_any (RingIs.of hX hn16) who
                have h15all := fun (X : World) (v : Value) (hX : RowV X v (vicN T).row) => All_any (RingIs.of hX hn16) (by rw [HNL.out]; omega)
                have h5all := fun (X : World) (hX : RowV X vr R.row) => All_any (RingIs.of hX hr16) (by omega)
                have h5mk := fun (X : World) (hX : RowV X vr R.row) (x : Int) => Marked_any (RingIs.of hX hr16) x
                simp only [hunm] at h5mk
                rw [← hwho] at hhas hmk hq1 HVT
                rw [← hfst] at hq2 HVR
                rw [hhas] at h15has
                rw [hmk] at h15mk
                rw [he] at HVT HVR
                have hch := HCH.out
                rw [← hwho] at hch
                have HCW := Lib.hid hch
                have hN0 : 0 < N := by rw [hN, hq2]; simp
                have hN20 : N ≤ 20 := by omega
                have d0 : decide ((0 : Int) < (N : Int)) = true := by simp; omega
                have HNN := Lib.hid hN
                have HL5 := Lib.hid hl5
                have HLN := Lib.hid hln
                have H15HAS := Lib.hid h15has
                have H15MK := Lib.hid h15mk
                have H15ALL := Lib.hid h15all
                have H5ALL := Lib.hid h5all
                have H5MK := Lib.hid h5mk
                have HQ1 := Lib.hid hq1
                have HQ2 := Lib.hid hq2
                clear he hne hneT hvo hvo2 ew en ew2 hunm hq1 hq2 hhas hmk hwho hfst hl5 hln h15has h15mk h15all h5all h5mk hch hN HCH
                cases hs : someB t l with
                | true =>
                  have hin := (HCW.out hs).2
                  have hd : decide (who ∈ t) = false := decide_eq_false hin
                  have HD := Lib.hid hd
                  clear hin hd hs
                  go_wp2_with (first
                    | ((with_reducible refine gate_dst (N := 79) rfl ?_); refine wl_load rfl rfl rfl HGT.out ht16 ?_)
                    | (go_at_call 35; first | ((with_reducible refine (HVR.out _ HR5b.out).mono ?_); rintro e w7 ⟨V7, rfl, ⟨v7, rfl, hr7, h7⟩, hb7⟩; have HR7 := Aside0.mk hr7; have H7 := Lib.hid h7; have HB7 := Aside0.mk (HBY1.out.trans (hb7.mono HBY1.out.size)); have HG5c := Lib.hid ((hb7.block _ (blt HG5b.out)).trans HG5b.out); have HR5k := Aside0.mk (HR5b.out.below hb7); have HG15k := Lib.hid ((hb7.block _ (blt HG15b.out)).trans HG15b.out); have HR15k := Aside0.mk (HR15b.out.below hb7); have HS7 := Aside0.mk hb7.size; clear hr7 h7 hb7) | ((with_reducible refine HVT.out.mono ?_); rintro e w6 ⟨V6, rfl, ⟨v6, rfl, hr6, h6⟩, hb6⟩; have HR6 := Aside0.mk hr6; have HB6 := Aside0.mk (HB.out.trans (hb6.mono HB.out.size)); have HG5a := Lib.hid ((hb6.block _ (blt HGR.out)).trans HGR.out); have HR5a := Aside0.mk (HRR5.out.below hb6); have HS6 := Aside0.mk hb6.size; clear hr6 h6 hb6))
                    | ((with_reducible refine gate_store (t := TR) (p := 15) rfl ?_); refine wl_store rfl rfl rfl rfl HR6.out.one (blk_new _ _) rfl hn16 ?_; intro Y1 hY hu; have ha6 := below_alloc (Below.refl _ w6) ZR; have HG15b := Lib.hid hY; have HR15b := Aside0.mk (row_stored (HR6.out.below ha6) (blk_new _ _) hu); have HG5b := Lib.hid ((hu.block _ (Nat.lt_of_lt_of_le (blt HG5a.out) ha6.size) (by have := HS6.out; omega)).trans ((ha6.block _ (blt HG5a.out)).trans HG5a.out)); have HR5b := Aside0.mk (row_stored (HR5a.out.below ha6) (blk_new _ _) hu); have HBY1 := Aside0.mk ((below_alloc HB6.out ZR).trans (hu.below (Nat.le_trans HB6.out.size ha6.size) (fun q hq => by rw [hq]; exact HB6.out.size))); clear hY hu ha6)
                    | ((with_reducible refine gate_dst (N := 85) rfl ?_); refine wl_load rfl rfl rfl HG5b.out hr16 ?_)
                    | ((with_reducible refine gate_store (t := TR) (p := 18) rfl ?_); refine wl_store rfl rfl rfl rfl HR7.out.one (blk_new _ _) rfl H7.out ?_; intro Y2 hY hu; have ha7 := below_alloc (Below.refl _ w7) ZR; have HG15c := Lib.hid ((hu.block _ (Nat.lt_of_lt_of_le (blt HG15k.out) ha7.size) (by have := blt HG15k.out; omega)).trans ((ha7.block _ (blt HG15k.out)).trans HG15k.out)); have HR15c := Aside0.mk (row_stored (HR15k.out.below ha7) (blk_new _ _) hu); have HG5d := Lib.hid ((hu.block _ (Nat.lt_of_lt_of_le (blt HG5c.out) ha7.size) (by have := blt HG5c.out; omega)).trans ((ha7.block _ (blt HG5c.out)).trans HG5c.out)); have HR5c := Aside0.mk (row_stored (HR5k.out.below ha7) (blk_new _ _) hu); have HBY2 := Aside0.mk ((below_alloc HB7.out ZR).trans (hu.below (Nat.le_trans HB7.out.size ha7.size) (fun q hq => by rw [hq]; exact HB7.out.size))); clear hY hu ha7)
                    | ((with_reducible refine gate_dst (N := 95) rfl ?_); refine wl_loadG (by rfl) rfl rfl HG5d.out hr16 ?_)
                    | (go_at_call 36; (with_reducible refine (HL5.out _ HR5c.out).mono ?_); rintro e w8 ⟨rfl, hb8⟩; have HG15d := Lib.hid ((hb8.block _ (blt HG15c.out)).trans HG15c.out); have HR15d := Aside0.mk (HR15c.out.below hb8); have HG5w := Lib.hid ((hb8.block _ (blt HG5d.out)).trans HG5d.out); have HR5w := Aside0.mk (HR5c.out.below hb8); have HB8 := Aside0.mk (HBY2.out.trans (hb8.mono HBY2.out.size)); clear hb8)
                    | (go_at_call 34; (with_reducible refine (HIN.out _ HB8.out who).mono ?_); rw [HD.out]; rintro e w4 ⟨rfl, rfl⟩))
                  go_loopw [115] (fun v115 wr => ∃ q : Nat, q ≤ i ∧ v115 = .int .i64 (q : Int) ∧ Below w8.heap.size w8 wr) (fun v115 _ => i - (intOf v115).toNat)
                  case atStart => exact ⟨0, Nat.zero_le _, rfl, Below.refl _ _⟩
                  case round =>
                    obtain ⟨q, hi, rfl, hbi⟩ := hrel
                    have HI := Aside0.mk hbi
                    clear hbi
                    by_cases hlt : q < i
                    · obtain ⟨x, hx⟩ : ∃ x, l[q]? = some x := ⟨_, List.getElem?_eq_getElem (by have := HN.out; omega)⟩
                      obtain ⟨ad, rfl, kc⟩ := HC.out wr (HB8.out.trans (HI.out.mono HB8.out.size)) q x hx
                      have k0 : (0 : Int) ≤ (q : Int) := by omega
                      have k1 : (q : Int) < (i : Int) := by omega
                      clear hx
                      go_wp2_with (first
                        | ((with_reducible refine gate_dst (N := 119) rfl ?_); refine wl_load rfl rfl rfl ((HI.out.block _ (blt HG5w.out)).trans HG5w.out) hr16 ?_)
                        | (go_at_call 37; (with_reducible refine (H5MK.out _ (HR5w.out.below HI.out) x).mono ?_); rintro e wm ⟨rfl, hb⟩; have HBM := Aside0.mk (HI.out.trans (hb.mono HI.out.size)); clear hb))
                      exact ⟨⟨q + 1, by omega, by go_num, HBM.out⟩, by simp [intOf]; omega⟩
                    · obtain rfl : q = i := by omega
                      clear hlt
                      have g15 := (HI.out.block _ (blt HG15d.out)).trans HG15d.out
                      have g5 := (HI.out.block _ (blt HG5w.out)).trans HG5w.out
                      have r15 := HR15d.out.below HI.out
                      have r5 := HR5w.out.below HI.out
                      have hbe := HB8.out.trans (HI.out.mono HB8.out.size)
                      have HS0 := Lib.hid (And.intro g15 g5)
                      have HR15e := Aside0.mk r15
                      have HR5e := Aside0.mk r5
                      have HBE := Aside0.mk hbe
                      clear g15 g5 r15 r5 hbe
                      go_wp2
                      refine wp_region_held_drew (S := (fun w' => w'.heap[w6.heap.size]? = some (.cells (ringC v6 (vicN T).ms).toArray TR (0, 0)) ∧ w'.heap[w2.heap.size]? = some (.cells (ringC vr R.ms).toArray TR (0, 0)))) (by kernel_rfl) ?_ (fun hHeld => ?_)
                      · first | exact HS0.out | exact HSA.out | exact HSB.out
                      (refine wpAnyH_take (i := 0) (oi := ?o1) (v := ringV v6 (vicN T).ms) ?i1 (by kernel_rfl) (by kernel_rfl) (by kernel_rfl) ?q1 ?y1 (by assumption) ?r1; (case i1 => (simp only [List.getElem?_toArray, List.getElem?_cons_succ, List.getElem?_cons_zero]; rfl)); (case q1 => exact fun _ _ _ h => h); (case y1 => (refine Or.inl ⟨by rfl, ?_⟩; intro w9 hSw; (try dsimp only at hSw); have hld := run_loadVar_row (P := Try.prog) w9 _ TR TR _ (0, 0) _ hSw.1 Try.underlying47 rfl (by rw [info_ring, ringC_size hn16]); simp only [execOp, Act.eval, List.getElem?_toArray, List.getElem?_cons_succ, List.getElem?_cons_zero, Array.getD_eq_getD_getElem?, Option.getD_some, Instr.loadAt, Instr.sureAddr, Sem.run_bind, Sem.run_pure, Result.andThen_ok, hld]; rfl)))
                      try simp only [Act.put, List.setIfInBounds_toArray, List.set_cons_zero, List.set_cons_succ]
                      (refine wpAnyH_take (i := 2) (oi := ?o2) (v := ringV vr R.ms) ?i2 (by kernel_rfl) (by kernel_rfl) (by kernel_rfl) ?q2 ?y2 (by assumption) ?r2; (case i2 => (simp only [List.getElem?_toArray, List.getElem?_cons_succ, List.getElem?_cons_zero]; rfl)); (case q2 => exact fun _ _ _ h => h); (case y2 => (refine Or.inl ⟨by rfl, ?_⟩; intro w9 hSw; (try dsimp only at hSw); have hld := run_loadVar_row (P := Try.prog) w9 _ TR TR _ (0, 0) _ hSw.2 Try.underlying47 rfl (by rw [info_ring, ringC_size hr16]); simp only [execOp, Act.eval, List.getElem?_toArray, List.getElem?_cons_succ, List.getElem?_cons_zero, Array.getD_eq_getD_getElem?, Option.getD_some, Instr.loadAt, Instr.sureAddr, Sem.run_bind, Sem.run_pure, Result.andThen_ok, hld]; rfl)))
                      try simp only [Act.put, List.setIfInBounds_toArray, List.set_cons_zero, List.set_cons_succ]
                      refine wpAnyH_ready (rs := [1]) (by kernel_rfl) (by simp) ?_
                      refine AllReadyH.cons (by (simp only [List.getElem?_toArray, List.getElem?_cons_succ, List.getElem?_cons_zero]; rfl)) (fun K hK => ?_) AllReadyH.nil
                      go_simp
                      (go_at_call 38; (with_reducible refine (H15ALL.out _ _ (HR15e.out.below (Below.refl _ _).drew)).mono ?_); rintro e wx ⟨vx, rfl, hrx, hbx⟩; obtain ⟨ax, cx, rfl, hcx, hCx, -⟩ := hrx; have HSA := Lib.hid (And.intro ((hbx.block _ (blt HS0.out.1)).trans HS0.out.1) ((hbx.block _ (blt HS0.out.2)).trans HS0.out.2)); have HCX := Aside0.mk hCx; have HRX := Aside0.mk (HR5e.out.below ((Below.refl _ _).drew.trans hbx)); have HR15x := Aside0.mk (HR15e.out.below ((Below.refl _ _).drew.trans hbx)); have HBX := Aside0.mk (HBE.out.trans (((Below.refl _ _).drew.trans hbx).mono HBE.out.size)); clear hbx hCx hcx)
                      (try dsimp only)
                      refine hK.out _ _ ?_ (fun hHeld => ?_)
                      · first | exact HS0.out | exact HSA.out | exact HSB.out
                      clear hK K
                      try simp only [Act.put, List.setIfInBounds_toArray, List.set_cons_zero, List.set_cons_succ]
                      refine wpAnyH_ready (rs := [3]) (by kernel_rfl) (by simp) ?_
                      refine AllReadyH.cons (by (simp only [List.getElem?_toArray, List.getElem?_cons_succ, List.getElem?_cons_zero]; rfl)) (fun K hK => ?_) AllReadyH.nil
                      go_simp
                      (go_at_call 38; (with_reducible refine (H5ALL.out _ HRX.out).mono ?_); rintro e wy ⟨vy, rfl, hry, hby⟩; obtain ⟨ay, cy, rfl, hcy, hCy, -⟩ := hry; have HSB := Lib.hid (And.intro ((hby.block _ (blt HSA.out.1)).trans HSA.out.1) ((hby.block _ (blt HSA.out.2)).trans HSA.out.2)); have HCY := Aside0.mk hCy; have HCX2 := Aside0.mk (Kd.C_below HCX.out hby); have HR5y := Aside0.mk (HRX.out.below hby); have HR15y := Aside0.mk (HR15x.out.below hby); have HBY := Aside0.mk (HBX.out.trans (hby.mono HBX.out.size)); clear hby hCy hcy)
                      (try dsimp only)
                      refine hK.out _ _ ?_ (fun hHeld => ?_)
                      · first | exact HS0.out | exact HSA.out | exact HSB.out
                      clear hK K
                      try simp only [Act.put, List.setIfInBounds_toArray, List.set_cons_zero, List.set_cons_succ]
                      first | (refine wpAnyH_take (i := 4) (oi := ?o3) (v := ?v3) ?i3 (by kernel_rfl) (by kernel_rfl) (by kernel_rfl) ?q3 ?y3 (by assumption) ?r3; (case i3 => (simp only [List.getElem?_toArray, List.getElem?_cons_succ, List.getElem?_cons_zero]; rfl)); (case q3 => exact fun _ _ _ h => h); (case y3 => (refine Or.inl ⟨by rfl, ?_⟩; intro w hSw; (try dsimp only at hSw); go_simp; (try (with_reducible rfl))))) | (refine wpAnyH_take (i := 4) (oi := ?o4) (v := undef) ?i4 (by kernel_rfl) (by kernel_rfl) (by kernel_rfl) ?q4 ?y4 (by assumption) ?r4; (case i4 => (simp only [List.getElem?_toArray, List.getElem?_cons_succ, List.getElem?_cons_zero]; rfl)); (case q4 => exact fun _ _ _ h => h); (case y4 => exact Or.inr ⟨by rfl, rfl⟩))
                      try simp only [Act.put, List.setIfInBounds_toArray, List.set_cons_zero, List.set_cons_succ]
                      first | (refine wpAnyH_take (i := 5) (oi := ?o5) (v := ?v5) ?i5 (by kernel_rfl) (by kernel_rfl) (by kernel_rfl) ?q5 ?y5 (by assumption) ?r5; (case i5 => (simp only [List.getElem?_toArray, List.getElem?_cons_succ, List.getElem?_cons_zero]; rfl)); (case q5 => exact fun _ _ _ h => h); (case y5 => (refine Or.inl ⟨by rfl, ?_⟩; intro w hSw; (try dsimp only at hSw); go_simp; (try (with_reducible rfl))))) | (refine wpAnyH_take (i := 5) (oi := ?o6) (v := undef) ?i6 (by kernel_rfl) (by kernel_rfl) (by kernel_rfl) ?q6 ?y6 (by assumption) ?r6; (case i6 => (simp only [List.getElem?_toArray, List.getElem?_cons_succ, List.getElem?_cons_zero]; rfl)); (case q6 => exact fun _ _ _ h => h); (case y6 => exact Or.inr ⟨by rfl, rfl⟩))
                      try simp only [Act.put, List.setIfInBounds_toArray, List.set_cons_zero, List.set_cons_succ]
                      refine wpAnyH_done (by kernel_rfl) ?_ _
                      obtain ⟨adx, rfl, cx0⟩ := kI_cell HCX2.out (i := 0) (x := who) (by rw [HQ1.out]; rfl)
                      obtain ⟨ady, rfl, cy0⟩ := kI_cell HCY.out (i := 0) (x := fst) (by rw [HQ2.out]; rfl)
                      rw [add_none] at cx0 cy0
                      have hz1 : (0 : Int) < ((vicN T).row.length : Int) := by rw [HNL.out, ← HNN.out]; omega
                      have hz2 : (0 : Int) < (R.row.length : Int) := by rw [← HNN.out]; omega
                      have dz1 : decide ((0 : Int) < ((vicN T).row.length : Int)) = true := decide_eq_true hz1
                      have dz2 : decide ((0 : Int) < (R.row.length : Int)) = true := decide_eq_true hz2
                      have hz3 : 0 < (vicN T).row.length := by omega
                      have hz4 : 0 < R.row.length := by omega
                      have dz3 : decide (0 < (vicN T).row.length) = true := decide_eq_true hz3
                      have dz4 : decide (0 < R.row.length) = true := decide_eq_true hz4
                      have HS2 := Lib.hid (And.intro HSB.out.1 (And.intro HSB.out.2 (And.intro cx0 cy0)))
                      clear cx0 cy0
                      go_wp2
                      refine wp_region_held_drew (S := (fun w' => w'.heap[w6.heap.size]? = some (.cells (ringC v6 (vicN T).ms).toArray TR (0, 0)) ∧ w'.heap[w2.heap.size]? = some (.cells (ringC vr R.ms).toArray TR (0, 0)) ∧ w'.cell? adx = some (.int .i64 who) ∧ w'.cell? ady = some (.int .i64 fst))) (by kernel_rfl) ?_ (fun hHeld => ?_)
                      · first | exact HS2.out | exact HS3.out | exact HS4.out | exact HS5.out | exact HS6.out
                      first | (refine wpAnyH_take (i := 0) (oi := ?o7) (v := ?v7) ?i7 (by kernel_rfl) (by kernel_rfl) (by kernel_rfl) ?q7 ?y7 (by assumption) ?r7; (case i7 => (simp only [List.getElem?_toArray, List.getElem?_cons_succ, List.getElem?_cons_zero]; rfl)); (case q7 => exact fun _ _ _ h => h); (case y7 => (refine Or.inl ⟨by rfl, ?_⟩; intro w hSw; (try dsimp only at hSw); go_simp; (try (with_reducible rfl))))) | (refine wpAnyH_take (i := 0) (oi := ?o8) (v := undef) ?i8 (by kernel_rfl) (by kernel_rfl) (by kernel_rfl) ?q8 ?y8 (by assumption) ?r8; (case i8 => (simp only [List.getElem?_toArray, List.getElem?_cons_succ, List.getElem?_cons_zero]; rfl)); (case q8 => exact fun _ _ _ h => h); (case y8 => exact Or.inr ⟨by rfl, rfl⟩))
                      try simp only [Act.put, List.setIfInBounds_toArray, List.set_cons_zero, List.set_cons_succ]
                      first | (refine wpAnyH_take (i := 1) (oi := ?o9) (v := ?v9) ?i9 (by kernel_rfl) (by kernel_rfl) (by kernel_rfl) ?q9 ?y9 (by assumption) ?r9; (case i9 => (simp only [List.getElem?_toArray, List.getElem?_cons_succ, List.getElem?_cons_zero]; rfl)); (case q9 => exact fun _ _ _ h => h); (case y9 => (refine Or.inl ⟨by rfl, ?_⟩; intro w hSw; (try dsimp only at hSw); go_simp; (try (with_reducible rfl))))) | (refine wpAnyH_take (i := 1) (oi := ?o10) (v := undef) ?i10 (by kernel_rfl) (by kernel_rfl) (by kernel_rfl) ?q10 ?y10 (by assumption) ?r10; (case i10 => (simp only [List.getElem?_toArray, List.getElem?_cons_succ, List.getElem?_cons_zero]; rfl)); (case q10 => exact fun _ _ _ h => h); (case y10 => exact Or.inr ⟨by rfl, rfl⟩))
                      try simp only [Act.put, List.setIfInBounds_toArray, List.set_cons_zero, List.set_cons_succ]
                      first | (refine wpAnyH_take (i := 2) (oi := ?o11) (v := ?v11) ?i11 (by kernel_rfl) (by kernel_rfl) (by kernel_rfl) ?q11 ?y11 (by assumption) ?r11; (case i11 => (simp only [List.getElem?_toArray, List.getElem?_cons_succ, List.getElem?_cons_zero]; rfl)); (case q11 => exact fun _ _ _ h => h); (case y11 => (refine Or.inl ⟨by rfl, ?_⟩; intro w hSw; (try dsimp only at hSw); go_simp; (try (with_reducible rfl))))) | (refine wpAnyH_take (i := 2) (oi := ?o12) (v := undef) ?i12 (by kernel_rfl) (by kernel_rfl) (by kernel_rfl) ?q12 ?y12 (by assumption) ?r12; (case i12 => (simp only [List.getElem?_toArray, List.getElem?_cons_succ, List.getElem?_cons_zero]; rfl)); (case q12 => exact fun _ _ _ h => h); (case y12 => exact Or.inr ⟨by rfl, rfl⟩))
                      try simp only [Act.put, List.setIfInBounds_toArray, List.set_cons_zero, List.set_cons_succ]
                      first | (refine wpAnyH_take (i := 3) (oi := ?o13) (v := ?v13) ?i13 (by kernel_rfl) (by kernel_rfl) (by kernel_rfl) ?q13 ?y13 (by assumption) ?r13; (case i13 => (simp only [List.getElem?_toArray, List.getElem?_cons_succ, List.getElem?_cons_zero]; rfl)); (case q13 => exact fun _ _ _ h => h); (case y13 => (refine Or.inl ⟨by rfl, ?_⟩; intro w hSw; (try dsimp only at hSw); go_simp; (try (with_reducible rfl))))) | (refine wpAnyH_take (i := 3) (oi := ?o14) (v := undef) ?i14 (by kernel_rfl) (by kernel_rfl) (by kernel_rfl) ?q14 ?y14 (by assumption) ?r14; (case i14 => (simp only [List.getElem?_toArray, List.getElem?_cons_succ, List.getElem?_cons_zero]; rfl)); (case q14 => exact fun _ _ _ h => h); (case y14 => exact Or.inr ⟨by rfl, rfl⟩))
                      try simp only [Act.put, List.setIfInBounds_toArray, List.set_cons_zero, List.set_cons_succ]
                      first | (refine wpAnyH_take (i := 4) (oi := ?o15) (v := ?v15) ?i15 (by kernel_rfl) (by kernel_rfl) (by kernel_rfl) ?q15 ?y15 (by assumption) ?r15; (case i15 => (simp only [List.getElem?_toArray, List.getElem?_cons_succ, List.getElem?_cons_zero]; rfl)); (case q15 => exact fun _ _ _ h => h); (case y15 => (refine Or.inl ⟨by rfl, ?_⟩; intro w hSw; (try dsimp only at hSw); go_simp; (try (with_reducible rfl))))) | (refine wpAnyH_take (i := 4) (oi := ?o16) (v := undef) ?i16 (by kernel_rfl) (by kernel_rfl) (by kernel_rfl) ?q16 ?y16 (by assumption) ?r16; (case i16 => (simp only [List.getElem?_toArray, List.getElem?_cons_succ, List.getElem?_cons_zero]; rfl)); (case q16 => exact fun _ _ _ h => h); (case y16 => exact Or.inr ⟨by rfl, rfl⟩))
                      try simp only [Act.put, List.setIfInBounds_toArray, List.set_cons_zero, List.set_cons_succ]
                      first | (refine wpAnyH_take (i := 5) (oi := ?o17) (v := ?v17) ?i17 (by kernel_rfl) (by kernel_rfl) (by kernel_rfl) ?q17 ?y17 (by assumption) ?r17; (case i17 => (simp only [List.getElem?_toArray, List.getElem?_cons_succ, List.getElem?_cons_zero]; rfl)); (case q17 => exact fun _ _ _ h => h); (case y17 => (refine Or.inl ⟨by rfl, ?_⟩; intro w hSw; (try dsimp only at hSw); go_simp; (try (with_reducible rfl))))) | (refine wpAnyH_take (i := 5) (oi := ?o18) (v := undef) ?i18 (by kernel_rfl) (by kernel_rfl) (by kernel_rfl) ?q18 ?y18 (by assumption) ?r18; (case i18 => (simp only [List.getElem?_toArray, List.getElem?_cons_succ, List.getElem?_cons_zero]; rfl)); (case q18 => exact fun _ _ _ h => h); (case y18 => exact Or.inr ⟨by rfl, rfl⟩))
                      try simp only [Act.put, List.setIfInBounds_toArray, List.set_cons_zero, List.set_cons_succ]
                      first | (refine wpAnyH_take (i := 6) (oi := ?o19) (v := ?v19) ?i19 (by kernel_rfl) (by kernel_rfl) (by kernel_rfl) ?q19 ?y19 (by assumption) ?r19; (case i19 => (simp only [List.getElem?_toArray, List.getElem?_cons_succ, List.getElem?_cons_zero]; rfl)); (case q19 => exact fun _ _ _ h => h); (case y19 => (refine Or.inl ⟨by rfl, ?_⟩; intro w hSw; (try dsimp only at hSw); go_simp; (try (with_reducible rfl))))) | (refine wpAnyH_take (i := 6) (oi := ?o20) (v := undef) ?i20 (by kernel_rfl) (by kernel_rfl) (by kernel_rfl) ?q20 ?y20 (by assumption) ?r20; (case i20 => (simp only [List.getElem?_toArray, List.getElem?_cons_succ, List.getElem?_cons_zero]; rfl)); (case q20 => exact fun _ _ _ h => h); (case y20 => exact Or.inr ⟨by rfl, rfl⟩))
                      try simp only [Act.put, List.setIfInBounds_toArray, List.set_cons_zero, List.set_cons_succ]
                      first | (refine wpAnyH_take (i := 7) (oi := ?o21) (v := ?v21) ?i21 (by kernel_rfl) (by kernel_rfl) (by kernel_rfl) ?q21 ?y21 (by assumption) ?r21; (case i21 => (simp only [List.getElem?_toArray, List.getElem?_cons_succ, List.getElem?_cons_zero]; rfl)); (case q21 => exact fun _ _ _ h => h); (case y21 => (refine Or.inl ⟨by rfl, ?_⟩; intro w hSw; (try dsimp only at hSw); go_simp; (try (with_reducible rfl))))) | (refine wpAnyH_take (i := 7) (oi := ?o22) (v := undef) ?i22 (by kernel_rfl) (by kernel_rfl) (by kernel_rfl) ?q22 ?y22 (by assumption) ?r22; (case i22 => (simp only [List.getElem?_toArray, List.getElem?_cons_succ, List.getElem?_cons_zero]; rfl)); (case q22 => exact fun _ _ _ h => h); (case y22 => exact Or.inr ⟨by rfl, rfl⟩))
                      try simp only [Act.put, List.setIfInBounds_toArray, List.set_cons_zero, List.set_cons_succ]
                      first | (refine wpAnyH_take (i := 8) (oi := ?o23) (v := ?v23) ?i23 (by kernel_rfl) (by kernel_rfl) (by kernel_rfl) ?q23 ?y23 (by assumption) ?r23; (case i23 => (simp only [List.getElem?_toArray, List.getElem?_cons_succ, List.getElem?_cons_zero]; rfl)); (case q23 => exact fun _ _ _ h => h); (case y23 => (refine Or.inl ⟨by rfl, ?_⟩; intro w hSw; (try dsimp only at hSw); go_simp; (try (with_reducible rfl))))) | (refine wpAnyH_take (i := 8) (oi := ?o24) (v := undef) ?i24 (by kernel_rfl) (by kernel_rfl) (by kernel_rfl) ?q24 ?y24 (by assumption) ?r24; (case i24 => (simp only [List.getElem?_toArray, List.getElem?_cons_succ, List.getElem?_cons_zero]; rfl)); (case q24 => exact fun _ _ _ h => h); (case y24 => exact Or.inr ⟨by rfl, rfl⟩))
                      try simp only [Act.put, List.setIfInBounds_toArray, List.set_cons_zero, List.set_cons_succ]
                      (refine wpAnyH_take (i := 9) (oi := ?o25) (v := ringV v6 (vicN T).ms) ?i25 (by kernel_rfl) (by kernel_rfl) (by kernel_rfl) ?q25 ?y25 (by assumption) ?r25; (case i25 => (simp only [List.getElem?_toArray, List.getElem?_cons_succ, List.getElem?_cons_zero]; rfl)); (case q25 => exact fun _ _ _ h => h); (case y25 => (refine Or.inl ⟨by rfl, ?_⟩; intro w9 hSw; (try dsimp only at hSw); have hld := run_loadVar_row (P := Try.prog) w9 _ TR TR _ (0, 0) _ hSw.1 Try.underlying47 rfl (by rw [info_ring, ringC_size hn16]); simp only [execOp, Act.eval, List.getElem?_toArray, List.getElem?_cons_succ, List.getElem?_cons_zero, Array.getD_eq_getD_getElem?, Option.getD_some, Instr.loadAt, Instr.sureAddr, Sem.run_bind, Sem.run_pure, Result.andThen_ok, hld]; rfl)))
                      try simp only [Act.put, List.setIfInBounds_toArray, List.set_cons_zero, List.set_cons_succ]
                      first | (refine wpAnyH_take (i := 10) (oi := ?o26) (v := ?v26) ?i26 (by kernel_rfl) (by kernel_rfl) (by kernel_rfl) ?q26 ?y26 (by assumption) ?r26; (case i26 => (simp only [List.getElem?_toArray, List.getElem?_cons_succ, List.getElem?_cons_zero]; rfl)); (case q26 => exact fun _ _ _ h => h); (case y26 => (refine Or.inl ⟨by rfl, ?_⟩; intro w hSw; (try dsimp only at hSw); go_simp; (try (with_reducible rfl))))) | (refine wpAnyH_take (i := 10) (oi := ?o27) (v := undef) ?i27 (by kernel_rfl) (by kernel_rfl) (by kernel_rfl) ?q27 ?y27 (by assumption) ?r27; (case i27 => (simp only [List.getElem?_toArray, List.getElem?_cons_succ, List.getElem?_cons_zero]; rfl)); (case q27 => exact fun _ _ _ h => h); (case y27 => exact Or.inr ⟨by rfl, rfl⟩))
                      try simp only [Act.put, List.setIfInBounds_toArray, List.set_cons_zero, List.set_cons_succ]
                      refine wpAnyH_ready (rs := [11]) (by kernel_rfl) (by simp) ?_
                      refine AllReadyH.cons (by (simp only [List.getElem?_toArray, List.getElem?_cons_succ, List.getElem?_cons_zero]; rfl)) (fun K hK => ?_) AllReadyH.nil
                      go_simp
                      (go_at_call 39; (with_reducible refine (H15HAS.out _ _ (HR15y.out.below (Below.refl _ _).drew)).mono ?_); rintro e x3 ⟨rfl, hb⟩; have HS3 := Lib.hid (keep4 HS2.out ((Below.refl _ _).drew.trans hb)); have HR153 := Aside0.mk (HR15y.out.below ((Below.refl _ _).drew.trans hb)); have HR53 := Aside0.mk (HR5y.out.below ((Below.refl _ _).drew.trans hb)); have HBZ3 := Aside0.mk (HBY.out.trans (((Below.refl _ _).drew.trans hb).mono HBY.out.size)); clear hb)
                      (try dsimp only)
                      refine hK.out _ _ ?_ (fun hHeld => ?_)
                      · first | exact HS2.out | exact HS3.out | exact HS4.out | exact HS5.out | exact HS6.out
                      clear hK K
                      try simp only [Act.put, List.setIfInBounds_toArray, List.set_cons_zero, List.set_cons_succ]
                      first | (refine wpAnyH_take (i := 12) (oi := ?o28) (v := ?v28) ?i28 (by kernel_rfl) (by kernel_rfl) (by kernel_rfl) ?q28 ?y28 (by assumption) ?r28; (case i28 => (simp only [List.getElem?_toArray, List.getElem?_cons_succ, List.getElem?_cons_zero]; rfl)); (case q28 => exact fun _ _ _ h => h); (case y28 => (refine Or.inl ⟨by rfl, ?_⟩; intro w hSw; (try dsimp only at hSw); go_simp; (try (with_reducible rfl))))) | (refine wpAnyH_take (i := 12) (oi := ?o29) (v := undef) ?i29 (by kernel_rfl) (by kernel_rfl) (by kernel_rfl) ?q29 ?y29 (by assumption) ?r29; (case i29 => (simp only [List.getElem?_toArray, List.getElem?_cons_succ, List.getElem?_cons_zero]; rfl)); (case q29 => exact fun _ _ _ h => h); (case y29 => exact Or.inr ⟨by rfl, rfl⟩))
                      try simp only [Act.put, List.setIfInBounds_toArray, List.set_cons_zero, List.set_cons_succ]
                      first | (refine wpAnyH_take (i := 13) (oi := ?o30) (v := ?v30) ?i30 (by kernel_rfl) (by kernel_rfl) (by kernel_rfl) ?q30 ?y30 (by assumption) ?r30; (case i30 => (simp only [List.getElem?_toArray, List.getElem?_cons_succ, List.getElem?_cons_zero]; rfl)); (case q30 => exact fun _ _ _ h => h); (case y30 => (refine Or.inl ⟨by rfl, ?_⟩; intro w hSw; (try dsimp only at hSw); go_simp; (try (with_reducible rfl))))) | (refine wpAnyH_take (i := 13) (oi := ?o31) (v := undef) ?i31 (by kernel_rfl) (by kernel_rfl) (by kernel_rfl) ?q31 ?y31 (by assumption) ?r31; (case i31 => (simp only [List.getElem?_toArray, List.getElem?_cons_succ, List.getElem?_cons_zero]; rfl)); (case q31 => exact fun _ _ _ h => h); (case y31 => exact Or.inr ⟨by rfl, rfl⟩))
                      try simp only [Act.put, List.setIfInBounds_toArray, List.set_cons_zero, List.set_cons_succ]
                      (refine wpAnyH_take (i := 14) (oi := ?o32) (v := ringV v6 (vicN T).ms) ?i32 (by kernel_rfl) (by kernel_rfl) (by kernel_rfl) ?q32 ?y32 (by assumption) ?r32; (case i32 => (simp only [List.getElem?_toArray, List.getElem?_cons_succ, List.getElem?_cons_zero]; rfl)); (case q32 => exact fun _ _ _ h => h); (case y32 => (refine Or.inl ⟨by rfl, ?_⟩; intro w9 hSw; (try dsimp only at hSw); have hld := run_loadVar_row (P := Try.prog) w9 _ TR TR _ (0, 0) _ hSw.1 Try.underlying47 rfl (by rw [info_ring, ringC_size hn16]); simp only [execOp, Act.eval, List.getElem?_toArray, List.getElem?_cons_succ, List.getElem?_cons_zero, Array.getD_eq_getD_getElem?, Option.getD_some, Instr.loadAt, Instr.sureAddr, Sem.run_bind, Sem.run_pure, Result.andThen_ok, hld]; rfl)))
                      try simp only [Act.put, List.setIfInBounds_toArray, List.set_cons_zero, List.set_cons_succ]
                      first | (refine wpAnyH_take (i := 15) (oi := ?o33) (v := ?v33) ?i33 (by kernel_rfl) (by kernel_rfl) (by kernel_rfl) ?q33 ?y33 (by assumption) ?r33; (case i33 => (simp only [List.getElem?_toArray, List.getElem?_cons_succ, List.getElem?_cons_zero]; rfl)); (case q33 => exact fun _ _ _ h => h); (case y33 => (refine Or.inl ⟨by rfl, ?_⟩; intro w hSw; (try dsimp only at hSw); go_simp; (try (with_reducible rfl))))) | (refine wpAnyH_take (i := 15) (oi := ?o34) (v := undef) ?i34 (by kernel_rfl) (by kernel_rfl) (by kernel_rfl) ?q34 ?y34 (by assumption) ?r34; (case i34 => (simp only [List.getElem?_toArray, List.getElem?_cons_succ, List.getElem?_cons_zero]; rfl)); (case q34 => exact fun _ _ _ h => h); (case y34 => exact Or.inr ⟨by rfl, rfl⟩))
                      try simp only [Act.put, List.setIfInBounds_toArray, List.set_cons_zero, List.set_cons_succ]
                      refine wpAnyH_ready (rs := [16]) (by kernel_rfl) (by simp) ?_
                      refine AllReadyH.cons (by (simp only [List.getElem?_toArray, List.getElem?_cons_succ, List.getElem?_cons_zero]; rfl)) (fun K hK => ?_) AllReadyH.nil
                      go_simp
                      (go_at_call 37; (with_reducible refine (H15MK.out _ _ HR153.out).mono ?_); rintro e x4 ⟨rfl, hb⟩; have HS4 := Lib.hid (keep4 HS3.out hb); have HR154 := Aside0.mk (HR153.out.below hb); have HR54 := Aside0.mk (HR53.out.below hb); have HBZ4 := Aside0.mk (HBZ3.out.trans (hb.mono HBZ3.out.size)); clear hb)
                      (try dsimp only)
                      refine hK.out _ _ ?_ (fun hHeld => ?_)
                      · first | exact HS2.out | exact HS3.out | exact HS4.out | exact HS5.out | exact HS6.out
                      clear hK K
                      try simp only [Act.put, List.setIfInBounds_toArray, List.set_cons_zero, List.set_cons_succ]
                      first | (refine wpAnyH_take (i := 17) (oi := ?o35) (v := ?v35) ?i35 (by kernel_rfl) (by kernel_rfl) (by kernel_rfl) ?q35 ?y35 (by assumption) ?r35; (case i35 => (simp only [List.getElem?_toArray, List.getElem?_cons_succ, List.getElem?_cons_zero]; rfl)); (case q35 => exact fun _ _ _ h => h); (case y35 => (refine Or.inl ⟨by rfl, ?_⟩; intro w hSw; (try dsimp only at hSw); go_simp; (try (with_reducible rfl))))) | (refine wpAnyH_take (i := 17) (oi := ?o36) (v := undef) ?i36 (by kernel_rfl) (by kernel_rfl) (by kernel_rfl) ?q36 ?y36 (by assumption) ?r36; (case i36 => (simp only [List.getElem?_toArray, List.getElem?_cons_succ, List.getElem?_cons_zero]; rfl)); (case q36 => exact fun _ _ _ h => h); (case y36 => exact Or.inr ⟨by rfl, rfl⟩))
                      try simp only [Act.put, List.setIfInBounds_toArray, List.set_cons_zero, List.set_cons_succ]
                      first | (refine wpAnyH_take (i := 18) (oi := ?o37) (v := ?v37) ?i37 (by kernel_rfl) (by kernel_rfl) (by kernel_rfl) ?q37 ?y37 (by assumption) ?r37; (case i37 => (simp only [List.getElem?_toArray, List.getElem?_cons_succ, List.getElem?_cons_zero]; rfl)); (case q37 => exact fun _ _ _ h => h); (case y37 => (refine Or.inl ⟨by rfl, ?_⟩; intro w hSw; (try dsimp only at hSw); go_simp; (try (with_reducible rfl))))) | (refine wpAnyH_take (i := 18) (oi := ?o38) (v := undef) ?i38 (by kernel_rfl) (by kernel_rfl) (by kernel_rfl) ?q38 ?y38 (by assumption) ?r38; (case i38 => (simp only [List.getElem?_toArray, List.getElem?_cons_succ, List.getElem?_cons_zero]; rfl)); (case q38 => exact fun _ _ _ h => h); (case y38 => exact Or.inr ⟨by rfl, rfl⟩))
                      try simp only [Act.put, List.setIfInBounds_toArray, List.set_cons_zero, List.set_cons_succ]
                      first | (refine wpAnyH_take (i := 19) (oi := ?o39) (v := ?v39) ?i39 (by kernel_rfl) (by kernel_rfl) (by kernel_rfl) ?q39 ?y39 (by assumption) ?r39; (case i39 => (simp only [List.getElem?_toArray, List.getElem?_cons_succ, List.getElem?_cons_zero]; rfl)); (case q39 => exact fun _ _ _ h => h); (case y39 => (refine Or.inl ⟨by rfl, ?_⟩; intro w hSw; (try dsimp only at hSw); go_simp; (try (with_reducible rfl))))) | (refine wpAnyH_take (i := 19) (oi := ?o40) (v := undef) ?i40 (by kernel_rfl) (by kernel_rfl) (by kernel_rfl) ?q40 ?y40 (by assumption) ?r40; (case i40 => (simp only [List.getElem?_toArray, List.getElem?_cons_succ, List.getElem?_cons_zero]; rfl)); (case q40 => exact fun _ _ _ h => h); (case y40 => exact Or.inr ⟨by rfl, rfl⟩))
                      try simp only [Act.put, List.setIfInBounds_toArray, List.set_cons_zero, List.set_cons_succ]
                      first | (refine wpAnyH_take (i := 20) (oi := ?o41) (v := ?v41) ?i41 (by kernel_rfl) (by kernel_rfl) (by kernel_rfl) ?q41 ?y41 (by assumption) ?r41; (case i41 => (simp only [List.getElem?_toArray, List.getElem?_cons_succ, List.getElem?_cons_zero]; rfl)); (case q41 => exact fun _ _ _ h => h); (case y41 => (refine Or.inl ⟨by rfl, ?_⟩; intro w hSw; (try dsimp only at hSw); go_simp; (try (with_reducible rfl))))) | (refine wpAnyH_take (i := 20) (oi := ?o42) (v := undef) ?i42 (by kernel_rfl) (by kernel_rfl) (by kernel_rfl) ?q42 ?y42 (by assumption) ?r42; (case i42 => (simp only [List.getElem?_toArray, List.getElem?_cons_succ, List.getElem?_cons_zero]; rfl)); (case q42 => exact fun _ _ _ h => h); (case y42 => exact Or.inr ⟨by rfl, rfl⟩))
                      try simp only [Act.put, List.setIfInBounds_toArray, List.set_cons_zero, List.set_cons_succ]
                      first | (refine wpAnyH_take (i := 21) (oi := ?o43) (v := ?v43) ?i43 (by kernel_rfl) (by kernel_rfl) (by kernel_rfl) ?q43 ?y43 (by assumption) ?r43; (case i43 => (simp only [List.getElem?_toArray, List.getElem?_cons_succ, List.getElem?_cons_zero]; rfl)); (case q43 => exact fun _ _ _ h => h); (case y43 => (refine Or.inl ⟨by rfl, ?_⟩; intro w hSw; (try dsimp only at hSw); go_simp; (try (with_reducible rfl))))) | (refine wpAnyH_take (i := 21) (oi := ?o44) (v := undef) ?i44 (by kernel_rfl) (by kernel_rfl) (by kernel_rfl) ?q44 ?y44 (by assumption) ?r44; (case i44 => (simp only [List.getElem?_toArray, List.getElem?_cons_succ, List.getElem?_cons_zero]; rfl)); (case q44 => exact fun _ _ _ h => h); (case y44 => exact Or.inr ⟨by rfl, rfl⟩))
                      try simp only [Act.put, List.setIfInBounds_toArray, List.set_cons_zero, List.set_cons_succ]
                      first | (refine wpAnyH_take (i := 22) (oi := ?o45) (v := ?v45) ?i45 (by kernel_rfl) (by kernel_rfl) (by kernel_rfl) ?q45 ?y45 (by assumption) ?r45; (case i45 => (simp only [List.getElem?_toArray, List.getElem?_cons_succ, List.getElem?_cons_zero]; rfl)); (case q45 => exact fun _ _ _ h => h); (case y45 => (refine Or.inl ⟨by rfl, ?_⟩; intro w hSw; (try dsimp only at hSw); go_simp; (try (with_reducible rfl))))) | (refine wpAnyH_take (i := 22) (oi := ?o46) (v := undef) ?i46 (by kernel_rfl) (by kernel_rfl) (by kernel_rfl) ?q46 ?y46 (by assumption) ?r46; (case i46 => (simp only [List.getElem?_toArray, List.getElem?_cons_succ, List.getElem?_cons_zero]; rfl)); (case q46 => exact fun _ _ _ h => h); (case y46 => exact Or.inr ⟨by rfl, rfl⟩))
                      try simp only [Act.put, List.setIfInBounds_toArray, List.set_cons_zero, List.set_cons_succ]
                      first | (refine wpAnyH_take (i := 23) (oi := ?o47) (v := ?v47) ?i47 (by kernel_rfl) (by kernel_rfl) (by kernel_rfl) ?q47 ?y47 (by assumption) ?r47; (case i47 => (simp only [List.getElem?_toArray, List.getElem?_cons_succ, List.getElem?_cons_zero]; rfl)); (case q47 => exact fun _ _ _ h => h); (case y47 => (refine Or.inl ⟨by rfl, ?_⟩; intro w hSw; (try dsimp only at hSw); go_simp; (try (with_reducible rfl))))) | (refine wpAnyH_take (i := 23) (oi := ?o48) (v := undef) ?i48 (by kernel_rfl) (by kernel_rfl) (by kernel_rfl) ?q48 ?y48 (by assumption) ?r48; (case i48 => (simp only [List.getElem?_toArray, List.getElem?_cons_succ, List.getElem?_cons_zero]; rfl)); (case q48 => exact fun _ _ _ h => h); (case y48 => exact Or.inr ⟨by rfl, rfl⟩))
                      try simp only [Act.put, List.setIfInBounds_toArray, List.set_cons_zero, List.set_cons_succ]
                      first | (refine wpAnyH_take (i := 24) (oi := ?o49) (v := ?v49) ?i49 (by kernel_rfl) (by kernel_rfl) (by kernel_rfl) ?q49 ?y49 (by assumption) ?r49; (case i49 => (simp only [List.getElem?_toArray, List.getElem?_cons_succ, List.getElem?_cons_zero]; rfl)); (case q49 => exact fun _ _ _ h => h); (case y49 => (refine Or.inl ⟨by rfl, ?_⟩; intro w hSw; (try dsimp only at hSw); go_simp; (try (with_reducible rfl))))) | (refine wpAnyH_take (i := 24) (oi := ?o50) (v := undef) ?i50 (by kernel_rfl) (by kernel_rfl) (by kernel_rfl) ?q50 ?y50 (by assumption) ?r50; (case i50 => (simp only [List.getElem?_toArray, List.getElem?_cons_succ, List.getElem?_cons_zero]; rfl)); (case q50 => exact fun _ _ _ h => h); (case y50 => exact Or.inr ⟨by rfl, rfl⟩))
                      try simp only [Act.put, List.setIfInBounds_toArray, List.set_cons_zero, List.set_cons_succ]
                      first | (refine wpAnyH_take (i := 25) (oi := ?o51) (v := ?v51) ?i51 (by kernel_rfl) (by kernel_rfl) (by kernel_rfl) ?q51 ?y51 (by assumption) ?r51; (case i51 => (simp only [List.getElem?_toArray, List.getElem?_cons_succ, List.getElem?_cons_zero]; rfl)); (case q51 => exact fun _ _ _ h => h); (case y51 => (refine Or.inl ⟨by rfl, ?_⟩; intro w hSw; (try dsimp only at hSw); go_simp; (try (with_reducible rfl))))) | (refine wpAnyH_take (i := 25) (oi := ?o52) (v := undef) ?i52 (by kernel_rfl) (by kernel_rfl) (by kernel_rfl) ?q52 ?y52 (by assumption) ?r52; (case i52 => (simp only [List.getElem?_toArray, List.getElem?_cons_succ, List.getElem?_cons_zero]; rfl)); (case q52 => exact fun _ _ _ h => h); (case y52 => exact Or.inr ⟨by rfl, rfl⟩))
                      try simp only [Act.put, List.setIfInBounds_toArray, List.set_cons_zero, List.set_cons_succ]
                      first | (refine wpAnyH_take (i := 26) (oi := ?o53) (v := ?v53) ?i53 (by kernel_rfl) (by kernel_rfl) (by kernel_rfl) ?q53 ?y53 (by assumption) ?r53; (case i53 => (simp only [List.getElem?_toArray, List.getElem?_cons_succ, List.getElem?_cons_zero]; rfl)); (case q53 => exact fun _ _ _ h => h); (case y53 => (refine Or.inl ⟨by rfl, ?_⟩; intro w hSw; (try dsimp only at hSw); go_simp; (try (with_reducible rfl))))) | (refine wpAnyH_take (i := 26) (oi := ?o54) (v := undef) ?i54 (by kernel_rfl) (by kernel_rfl) (by kernel_rfl) ?q54 ?y54 (by assumption) ?r54; (case i54 => (simp only [List.getElem?_toArray, List.getElem?_cons_succ, List.getElem?_cons_zero]; rfl)); (case q54 => exact fun _ _ _ h => h); (case y54 => exact Or.inr ⟨by rfl, rfl⟩))
                      try simp only [Act.put, List.setIfInBounds_toArray, List.set_cons_zero, List.set_cons_succ]
                      first | (refine wpAnyH_take (i := 27) (oi := ?o55) (v := ?v55) ?i55 (by kernel_rfl) (by kernel_rfl) (by kernel_rfl) ?q55 ?y55 (by assumption) ?r55; (case i55 => (simp only [List.getElem?_toArray, List.getElem?_cons_succ, List.getElem?_cons_zero]; rfl)); (case q55 => exact fun _ _ _ h => h); (case y55 => (refine Or.inl ⟨by rfl, ?_⟩; intro w hSw; (try dsimp only at hSw); go_simp; (try (with_reducible rfl))))) | (refine wpAnyH_take (i := 27) (oi := ?o56) (v := undef) ?i56 (by kernel_rfl) (by kernel_rfl) (by kernel_rfl) ?q56 ?y56 (by assumption) ?r56; (case i56 => (simp only [List.getElem?_toArray, List.getElem?_cons_succ, List.getElem?_cons_zero]; rfl)); (case q56 => exact fun _ _ _ h => h); (case y56 => exact Or.inr ⟨by rfl, rfl⟩))
                      try simp only [Act.put, List.setIfInBounds_toArray, List.set_cons_zero, List.set_cons_succ]
                      first | (refine wpAnyH_take (i := 28) (oi := ?o57) (v := ?v57) ?i57 (by kernel_rfl) (by kernel_rfl) (by kernel_rfl) ?q57 ?y57 (by assumption) ?r57; (case i57 => (simp only [List.getElem?_toArray, List.getElem?_cons_succ, List.getElem?_cons_zero]; rfl)); (case q57 => exact fun _ _ _ h => h); (case y57 => (refine Or.inl ⟨by rfl, ?_⟩; intro w hSw; (try dsimp only at hSw); go_simp; (try (with_reducible rfl))))) | (refine wpAnyH_take (i := 28) (oi := ?o58) (v := undef) ?i58 (by kernel_rfl) (by kernel_rfl) (by kernel_rfl) ?q58 ?y58 (by assumption) ?r58; (case i58 => (simp only [List.getElem?_toArray, List.getElem?_cons_succ, List.getElem?_cons_zero]; rfl)); (case q58 => exact fun _ _ _ h => h); (case y58 => exact Or.inr ⟨by rfl, rfl⟩))
                      try simp only [Act.put, List.setIfInBounds_toArray, List.set_cons_zero, List.set_cons_succ]
                      first | (refine wpAnyH_take (i := 29) (oi := ?o59) (v := ?v59) ?i59 (by kernel_rfl) (by kernel_rfl) (by kernel_rfl) ?q59 ?y59 (by assumption) ?r59; (case i59 => (simp only [List.getElem?_toArray, List.getElem?_cons_succ, List.getElem?_cons_zero]; rfl)); (case q59 => exact fun _ _ _ h => h); (case y59 => (refine Or.inl ⟨by rfl, ?_⟩; intro w hSw; (try dsimp only at hSw); go_simp; (try (with_reducible rfl))))) | (refine wpAnyH_take (i := 29) (oi := ?o60) (v := undef) ?i60 (by kernel_rfl) (by kernel_rfl) (by kernel_rfl) ?q60 ?y60 (by assumption) ?r60; (case i60 => (simp only [List.getElem?_toArray, List.getElem?_cons_succ, List.getElem?_cons_zero]; rfl)); (case q60 => exact fun _ _ _ h => h); (case y60 => exact Or.inr ⟨by rfl, rfl⟩))
                      try simp only [Act.put, List.setIfInBounds_toArray, List.set_cons_zero, List.set_cons_succ]
                      first | (refine wpAnyH_take (i := 30) (oi := ?o61) (v := ?v61) ?i61 (by kernel_rfl) (by kernel_rfl) (by kernel_rfl) ?q61 ?y61 (by assumption) ?r61; (case i61 => (simp only [List.getElem?_toArray, List.getElem?_cons_succ, List.getElem?_cons_zero]; rfl)); (case q61 => exact fun _ _ _ h => h); (case y61 => (refine Or.inl ⟨by rfl, ?_⟩; intro w hSw; (try dsimp only at hSw); go_simp; (try (with_reducible rfl))))) | (refine wpAnyH_take (i := 30) (oi := ?o62) (v := undef) ?i62 (by kernel_rfl) (by kernel_rfl) (by kernel_rfl) ?q62 ?y62 (by assumption) ?r62; (case i62 => (simp only [List.getElem?_toArray, List.getElem?_cons_succ, List.getElem?_cons_zero]; rfl)); (case q62 => exact fun _ _ _ h => h); (case y62 => exact Or.inr ⟨by rfl, rfl⟩))
                      try simp only [Act.put, List.setIfInBounds_toArray, List.set_cons_zero, List.set_cons_succ]
                      first | (refine wpAnyH_take (i := 31) (oi := ?o63) (v := ?v63) ?i63 (by kernel_rfl) (by kernel_rfl) (by kernel_rfl) ?q63 ?y63 (by assumption) ?r63; (case i63 => (simp only [List.getElem?_toArray, List.getElem?_cons_succ, List.getElem?_cons_zero]; rfl)); (case q63 => exact fun _ _ _ h => h); (case y63 => (refine Or.inl ⟨by rfl, ?_⟩; intro w hSw; (try dsimp only at hSw); go_simp; (try (with_reducible rfl))))) | (refine wpAnyH_take (i := 31) (oi := ?o64) (v := undef) ?i64 (by kernel_rfl) (by kernel_rfl) (by kernel_rfl) ?q64 ?y64 (by assumption) ?r64; (case i64 => (simp only [List.getElem?_toArray, List.getElem?_cons_succ, List.getElem?_cons_zero]; rfl)); (case q64 => exact fun _ _ _ h => h); (case y64 => exact Or.inr ⟨by rfl, rfl⟩))
                      try simp only [Act.put, List.setIfInBounds_toArray, List.set_cons_zero, List.set_cons_succ]
                      first | (refine wpAnyH_take (i := 32) (oi := ?o65) (v := ?v65) ?i65 (by kernel_rfl) (by kernel_rfl) (by kernel_rfl) ?q65 ?y65 (by assumption) ?r65; (case i65 => (simp only [List.getElem?_toArray, List.getElem?_cons_succ, List.getElem?_cons_zero]; rfl)); (case q65 => exact fun _ _ _ h => h); (case y65 => (refine Or.inl ⟨by rfl, ?_⟩; intro w hSw; (try dsimp only at hSw); go_simp; (try (with_reducible rfl))))) | (refine wpAnyH_take (i := 32) (oi := ?o66) (v := undef) ?i66 (by kernel_rfl) (by kernel_rfl) (by kernel_rfl) ?q66 ?y66 (by assumption) ?r66; (case i66 => (simp only [List.getElem?_toArray, List.getElem?_cons_succ, List.getElem?_cons_zero]; rfl)); (case q66 => exact fun _ _ _ h => h); (case y66 => exact Or.inr ⟨by rfl, rfl⟩))
                      try simp only [Act.put, List.setIfInBounds_toArray, List.set_cons_zero, List.set_cons_succ]
                      first | (refine wpAnyH_take (i := 33) (oi := ?o67) (v := ?v67) ?i67 (by kernel_rfl) (by kernel_rfl) (by kernel_rfl) ?q67 ?y67 (by assumption) ?r67; (case i67 => (simp only [List.getElem?_toArray, List.getElem?_cons_succ, List.getElem?_cons_zero]; rfl)); (case q67 => exact fun _ _ _ h => h); (case y67 => (refine Or.inl ⟨by rfl, ?_⟩; intro w hSw; (try dsimp only at hSw); go_simp; (try (with_reducible rfl))))) | (refine wpAnyH_take (i := 33) (oi := ?o68) (v := undef) ?i68 (by kernel_rfl) (by kernel_rfl) (by kernel_rfl) ?q68 ?y68 (by assumption) ?r68; (case i68 => (simp only [List.getElem?_toArray, List.getElem?_cons_succ, List.getElem?_cons_zero]; rfl)); (case q68 => exact fun _ _ _ h => h); (case y68 => exact Or.inr ⟨by rfl, rfl⟩))
                      try simp only [Act.put, List.setIfInBounds_toArray, List.set_cons_zero, List.set_cons_succ]
                      (refine wpAnyH_take (i := 34) (oi := ?o69) (v := ringV v6 (vicN T).ms) ?i69 (by kernel_rfl) (by kernel_rfl) (by kernel_rfl) ?q69 ?y69 (by assumption) ?r69; (case i69 => (simp only [List.getElem?_toArray, List.getElem?_cons_succ, List.getElem?_cons_zero]; rfl)); (case q69 => exact fun _ _ _ h => h); (case y69 => (refine Or.inl ⟨by rfl, ?_⟩; intro w9 hSw; (try dsimp only at hSw); have hld := run_loadVar_row (P := Try.prog) w9 _ TR TR _ (0, 0) _ hSw.1 Try.underlying47 rfl (by rw [info_ring, ringC_size hn16]); simp only [execOp, Act.eval, List.getElem?_toArray, List.getElem?_cons_succ, List.getElem?_cons_zero, Array.getD_eq_getD_getElem?, Option.getD_some, Instr.loadAt, Instr.sureAddr, Sem.run_bind, Sem.run_pure, Result.andThen_ok, hld]; rfl)))
                      try simp only [Act.put, List.setIfInBounds_toArray, List.set_cons_zero, List.set_cons_succ]
                      (refine wpAnyH_take (i := 36) (oi := ?o70) (v := ringV vr R.ms) ?i70 (by kernel_rfl) (by kernel_rfl) (by kernel_rfl) ?q70 ?y70 (by assumption) ?r70; (case i70 => (simp only [List.getElem?_toArray, List.getElem?_cons_succ, List.getElem?_cons_zero]; rfl)); (case q70 => exact fun _ _ _ h => h); (case y70 => (refine Or.inl ⟨by rfl, ?_⟩; intro w9 hSw; (try dsimp only at hSw); have hld := run_loadVar_row (P := Try.prog) w9 _ TR TR _ (0, 0) _ hSw.2.1 Try.underlying47 rfl (by rw [info_ring, ringC_size hr16]); simp only [execOp, Act.eval, List.getElem?_toArray, List.getElem?_cons_succ, List.getElem?_cons_zero, Array.getD_eq_getD_getElem?, Option.getD_some, Instr.loadAt, Instr.sureAddr, Sem.run_bind, Sem.run_pure, Result.andThen_ok, hld]; rfl)))
                      try simp only [Act.put, List.setIfInBounds_toArray, List.set_cons_zero, List.set_cons_succ]
                      refine wpAnyH_ready (rs := [35]) (by kernel_rfl) (by simp) ?_
                      refine AllReadyH.cons (by (simp only [List.getElem?_toArray, List.getElem?_cons_succ, List.getElem?_cons_zero]; rfl)) (fun K hK => ?_) AllReadyH.nil
                      go_simp
                      (go_at_call 36; (with_reducible refine (HLN.out _ _ HR154.out).mono ?_); rintro e x5 ⟨rfl, hb⟩; have HS5 := Lib.hid (keep4 HS4.out hb); have HR55 := Aside0.mk (HR54.out.below hb); have HBZ5 := Aside0.mk (HBZ4.out.trans (hb.mono HBZ4.out.size)); clear hb)
                      (try dsimp only)
                      refine hK.out _ _ ?_ (fun hHeld => ?_)
                      · first | exact HS2.out | exact HS3.out | exact HS4.out | exact HS5.out | exact HS6.out
                      clear hK K
                      try simp only [Act.put, List.setIfInBounds_toArray, List.set_cons_zero, List.set_cons_succ]
                      refine wpAnyH_ready (rs := [37]) (by kernel_rfl) (by simp) ?_
                      refine AllReadyH.cons (by (simp only [List.getElem?_toArray, List.getElem?_cons_succ, List.getElem?_cons_zero]; rfl)) (fun K hK => ?_) AllReadyH.nil
                      go_simp
                      (go_at_call 36; (with_reducible refine (HL5.out _ HR55.out).mono ?_); rintro e x6 ⟨rfl, hb⟩; have HS6 := Lib.hid (keep4 HS5.out hb); have HBZ6 := Aside0.mk (HBZ5.out.trans (hb.mono HBZ5.out.size)); clear hb)
                      (try dsimp only)
                      refine hK.out _ _ ?_ (fun hHeld => ?_)
                      · first | exact HS2.out | exact HS3.out | exact HS4.out | exact HS5.out | exact HS6.out
                      clear hK K
                      try simp only [Act.put, List.setIfInBounds_toArray, List.set_cons_zero, List.set_cons_succ]
                      first | (refine wpAnyH_take (i := 38) (oi := ?o71) (v := ?v71) ?i71 (by kernel_rfl) (by kernel_rfl) (by kernel_rfl) ?q71 ?y71 (by assumption) ?r71; (case i71 => (simp only [List.getElem?_toArray, List.getElem?_cons_succ, List.getElem?_cons_zero]; rfl)); (case q71 => exact fun _ _ _ h => h); (case y71 => (refine Or.inl ⟨by rfl, ?_⟩; intro w hSw; (try dsimp only at hSw); go_simp; (try (with_reducible rfl))))) | (refine wpAnyH_take (i := 38) (oi := ?o72) (v := undef) ?i72 (by kernel_rfl) (by kernel_rfl) (by kernel_rfl) ?q72 ?y72 (by assumption) ?r72; (case i72 => (simp only [List.getElem?_toArray, List.getElem?_cons_succ, List.getElem?_cons_zero]; rfl)); (case q72 => exact fun _ _ _ h => h); (case y72 => exact Or.inr ⟨by rfl, rfl⟩))
                      try simp only [Act.put, List.setIfInBounds_toArray, List.set_cons_zero, List.set_cons_succ]
                      first | (refine wpAnyH_take (i := 39) (oi := ?o73) (v := ?v73) ?i73 (by kernel_rfl) (by kernel_rfl) (by kernel_rfl) ?q73 ?y73 (by assumption) ?r73; (case i73 => (simp only [List.getElem?_toArray, List.getElem?_cons_succ, List.getElem?_cons_zero]; rfl)); (case q73 => exact fun _ _ _ h => h); (case y73 => (refine Or.inl ⟨by rfl, ?_⟩; intro w hSw; (try dsimp only at hSw); go_simp; (try (with_reducible rfl))))) | (refine wpAnyH_take (i := 39) (oi := ?o74) (v := undef) ?i74 (by kernel_rfl) (by kernel_rfl) (by kernel_rfl) ?q74 ?y74 (by assumption) ?r74; (case i74 => (simp only [List.getElem?_toArray, List.getElem?_cons_succ, List.getElem?_cons_zero]; rfl)); (case q74 => exact fun _ _ _ h => h); (case y74 => exact Or.inr ⟨by rfl, rfl⟩))
                      try simp only [Act.put, List.setIfInBounds_toArray, List.set_cons_zero, List.set_cons_succ]
                      first | (refine wpAnyH_take (i := 40) (oi := ?o75) (v := ?v75) ?i75 (by kernel_rfl) (by kernel_rfl) (by kernel_rfl) ?q75 ?y75 (by assumption) ?r75; (case i75 => (simp only [List.getElem?_toArray, List.getElem?_cons_succ, List.getElem?_cons_zero]; rfl)); (case q75 => exact fun _ _ _ h => h); (case y75 => (refine Or.inl ⟨by rfl, ?_⟩; intro w hSw; (try dsimp only at hSw); go_simp; (try (with_reducible rfl))))) | (refine wpAnyH_take (i := 40) (oi := ?o76) (v := undef) ?i76 (by kernel_rfl) (by kernel_rfl) (by kernel_rfl) ?q76 ?y76 (by assumption) ?r76; (case i76 => (simp only [List.getElem?_toArray, List.getElem?_cons_succ, List.getElem?_cons_zero]; rfl)); (case q76 => exact fun _ _ _ h => h); (case y76 => exact Or.inr ⟨by rfl, rfl⟩))
                      try simp only [Act.put, List.setIfInBounds_toArray, List.set_cons_zero, List.set_cons_succ]
                      refine wpAnyH_done (by kernel_rfl) ?_ _
                      go_wp2
                      go_ret
                      exact ⟨rfl, HBZ6.out⟩
                | false =>
                  clear hs
                  go_wp2_with (first
                    | ((with_reducible refine gate_dst (N := 79) rfl ?_); refine wl_load rfl rfl rfl HGT.out ht16 ?_)
                    | (go_at_call 35; first | ((with_reducible refine (HVR.out _ HR5b.out).mono ?_); rintro e w7 ⟨V7, rfl, ⟨v7, rfl, hr7, h7⟩, hb7⟩; have HR7 := Aside0.mk hr7; have H7 := Lib.hid h7; have HB7 := Aside0.mk (HBY1.out.trans (hb7.mono HBY1.out.size)); have HG5c := Lib.hid ((hb7.block _ (blt HG5b.out)).trans HG5b.out); have HR5k := Aside0.mk (HR5b.out.below hb7); have HG15k := Lib.hid ((hb7.block _ (blt HG15b.out)).trans HG15b.out); have HR15k := Aside0.mk (HR15b.out.below hb7); have HS7 := Aside0.mk hb7.size; clear hr7 h7 hb7) | ((with_reducible refine HVT.out.mono ?_); rintro e w6 ⟨V6, rfl, ⟨v6, rfl, hr6, h6⟩, hb6⟩; have HR6 := Aside0.mk hr6; have HB6 := Aside0.mk (HB.out.trans (hb6.mono HB.out.size)); have HG5a := Lib.hid ((hb6.block _ (blt HGR.out)).trans HGR.out); have HR5a := Aside0.mk (HRR5.out.below hb6); have HS6 := Aside0.mk hb6.size; clear hr6 h6 hb6))
                    | ((with_reducible refine gate_store (t := TR) (p := 15) rfl ?_); refine wl_store rfl rfl rfl rfl HR6.out.one (blk_new _ _) rfl hn16 ?_; intro Y1 hY hu; have ha6 := below_alloc (Below.refl _ w6) ZR; have HG15b := Lib.hid hY; have HR15b := Aside0.mk (row_stored (HR6.out.below ha6) (blk_new _ _) hu); have HG5b := Lib.hid ((hu.block _ (Nat.lt_of_lt_of_le (blt HG5a.out) ha6.size) (by have := HS6.out; omega)).trans ((ha6.block _ (blt HG5a.out)).trans HG5a.out)); have HR5b := Aside0.mk (row_stored (HR5a.out.below ha6) (blk_new _ _) hu); have HBY1 := Aside0.mk ((below_alloc HB6.out ZR).trans (hu.below (Nat.le_trans HB6.out.size ha6.size) (fun q hq => by rw [hq]; exact HB6.out.size))); clear hY hu ha6)
                    | ((with_reducible refine gate_dst (N := 85) rfl ?_); refine wl_load rfl rfl rfl HG5b.out hr16 ?_)
                    | ((with_reducible refine gate_store (t := TR) (p := 18) rfl ?_); refine wl_store rfl rfl rfl rfl HR7.out.one (blk_new _ _) rfl H7.out ?_; intro Y2 hY hu; have ha7 := below_alloc (Below.refl _ w7) ZR; have HG15c := Lib.hid ((hu.block _ (Nat.lt_of_lt_of_le (blt HG15k.out) ha7.size) (by have := blt HG15k.out; omega)).trans ((ha7.block _ (blt HG15k.out)).trans HG15k.out)); have HR15c := Aside0.mk (row_stored (HR15k.out.below ha7) (blk_new _ _) hu); have HG5d := Lib.hid ((hu.block _ (Nat.lt_of_lt_of_le (blt HG5c.out) ha7.size) (by have := blt HG5c.out; omega)).trans ((ha7.block _ (blt HG5c.out)).trans HG5c.out)); have HR5c := Aside0.mk (row_stored (HR5k.out.below ha7) (blk_new _ _) hu); have HBY2 := Aside0.mk ((below_alloc HB7.out ZR).trans (hu.below (Nat.le_trans HB7.out.size ha7.size) (fun q hq => by rw [hq]; exact HB7.out.size))); clear hY hu ha7)
                    | ((with_reducible refine gate_dst (N := 95) rfl ?_); refine wl_loadG (by rfl) rfl rfl HG5d.out hr16 ?_)
                    | (go_at_call 36; (with_reducible refine (HL5.out _ HR5c.out).mono ?_); rintro e w8 ⟨rfl, hb8⟩; have HG15d := Lib.hid ((hb8.block _ (blt HG15c.out)).trans HG15c.out); have HR15d := Aside0.mk (HR15c.out.below hb8); have HG5w := Lib.hid ((hb8.block _ (blt HG5d.out)).trans HG5d.out); have HR5w := Aside0.mk (HR5c.out.below hb8); have HB8 := Aside0.mk (HBY2.out.trans (hb8.mono HBY2.out.size)); clear hb8))
                  go_loopw [115] (fun v115 wr => ∃ q : Nat, q ≤ i ∧ v115 = .int .i64 (q : Int) ∧ Below w8.heap.size w8 wr) (fun v115 _ => i - (intOf v115).toNat)
                  case atStart => exact ⟨0, Nat.zero_le _, rfl, Below.refl _ _⟩
                  case round =>
                    obtain ⟨q, hi, rfl, hbi⟩ := hrel
                    have HI := Aside0.mk hbi
                    clear hbi
                    by_cases hlt : q < i
                    · obtain ⟨x, hx⟩ : ∃ x, l[q]? = some x := ⟨_, List.getElem?_eq_getElem (by have := HN.out; omega)⟩
                      obtain ⟨ad, rfl, kc⟩ := HC.out wr (HB8.out.trans (HI.out.mono HB8.out.size)) q x hx
                      have k0 : (0 : Int) ≤ (q : Int) := by omega
                      have k1 : (q : Int) < (i : Int) := by omega
                      clear hx
                      go_wp2_with (first
                        | ((with_reducible refine gate_dst (N := 119) rfl ?_); refine wl_load rfl rfl rfl ((HI.out.block _ (blt HG5w.out)).trans HG5w.out) hr16 ?_)
                        | (go_at_call 37; (with_reducible refine (H5MK.out _ (HR5w.out.below HI.out) x).mono ?_); rintro e wm ⟨rfl, hb⟩; have HBM := Aside0.mk (HI.out.trans (hb.mono HI.out.size)); clear hb))
                      exact ⟨⟨q + 1, by omega, by go_num, HBM.out⟩, by simp [intOf]; omega⟩
                    · obtain rfl : q = i := by omega
                      clear hlt
                      have g15 := (HI.out.block _ (blt HG15d.out)).trans HG15d.out
                      have g5 := (HI.out.block _ (blt HG5w.out)).trans HG5w.out
                      have r15 := HR15d.out.below HI.out
                      have r5 := HR5w.out.below HI.out
                      have hbe := HB8.out.trans (HI.out.mono HB8.out.size)
                      have HS0 := Lib.hid (And.intro g15 g5)
                      have HR15e := Aside0.mk r15
                      have HR5e := Aside0.mk r5
                      have HBE := Aside0.mk hbe
                      clear g15 g5 r15 r5 hbe
                      go_wp2
                      refine wp_region_held_drew (S := (fun w' => w'.heap[w6.heap.size]? = some (.cells (ringC v6 (vicN T).ms).toArray TR (0, 0)) ∧ w'.heap[w2.heap.size]? = some (.cells (ringC vr R.ms).toArray TR (0, 0)))) (by kernel_rfl) ?_ (fun hHeld => ?_)
                      · first | exact HS0.out | exact HSA.out | exact HSB.out
                      (refine wpAnyH_take (i := 0) (oi := ?o77) (v := ringV v6 (vicN T).ms) ?i77 (by kernel_rfl) (by kernel_rfl) (by kernel_rfl) ?q77 ?y77 (by assumption) ?r77; (case i77 => (simp only [List.getElem?_toArray, List.getElem?_cons_succ, List.getElem?_cons_zero]; rfl)); (case q77 => exact fun _ _ _ h => h); (case y77 => (refine Or.inl ⟨by rfl, ?_⟩; intro w9 hSw; (try dsimp only at hSw); have hld := run_loadVar_row (P := Try.prog) w9 _ TR TR _ (0, 0) _ hSw.1 Try.underlying47 rfl (by rw [info_ring, ringC_size hn16]); simp only [execOp, Act.eval, List.getElem?_toArray, List.getElem?_cons_succ, List.getElem?_cons_zero, Array.getD_eq_getD_getElem?, Option.getD_some, Instr.loadAt, Instr.sureAddr, Sem.run_bind, Sem.run_pure, Result.andThen_ok, hld]; rfl)))
                      try simp only [Act.put, List.setIfInBounds_toArray, List.set_cons_zero, List.set_cons_succ]
                      (refine wpAnyH_take (i := 2) (oi := ?o78) (v := ringV vr R.ms) ?i78 (by kernel_rfl) (by kernel_rfl) (by kernel_rfl) ?q78 ?y78 (by assumption) ?r78; (case i78 => (simp only [List.getElem?_toArray, List.getElem?_cons_succ, List.getElem?_cons_zero]; rfl)); (case q78 => exact fun _ _ _ h => h); (case y78 => (refine Or.inl ⟨by rfl, ?_⟩; intro w9 hSw; (try dsimp only at hSw); have hld := run_loadVar_row (P := Try.prog) w9 _ TR TR _ (0, 0) _ hSw.2 Try.underlying47 rfl (by rw [info_ring, ringC_size hr16]); simp only [execOp, Act.eval, List.getElem?_toArray, List.getElem?_cons_succ, List.getElem?_cons_zero, Array.getD_eq_getD_getElem?, Option.getD_some, Instr.loadAt, Instr.sureAddr, Sem.run_bind, Sem.run_pure, Result.andThen_ok, hld]; rfl)))
                      try simp only [Act.put, List.setIfInBounds_toArray, List.set_cons_zero, List.set_cons_succ]
                      refine wpAnyH_ready (rs := [1]) (by kernel_rfl) (by simp) ?_
                      refine AllReadyH.cons (by (simp only [List.getElem?_toArray, List.getElem?_cons_succ, List.getElem?_cons_zero]; rfl)) (fun K hK => ?_) AllReadyH.nil
                      go_simp
                      (go_at_call 38; (with_reducible refine (H15ALL.out _ _ (HR15e.out.below (Below.refl _ _).drew)).mono ?_); rintro e wx ⟨vx, rfl, hrx, hbx⟩; obtain ⟨ax, cx, rfl, hcx, hCx, -⟩ := hrx; have HSA := Lib.hid (And.intro ((hbx.block _ (blt HS0.out.1)).trans HS0.out.1) ((hbx.block _ (blt HS0.out.2)).trans HS0.out.2)); have HCX := Aside0.mk hCx; have HRX := Aside0.mk (HR5e.out.below ((Below.refl _ _).drew.trans hbx)); have HR15x := Aside0.mk (HR15e.out.below ((Below.refl _ _).drew.trans hbx)); have HBX := Aside0.mk (HBE.out.trans (((Below.refl _ _).drew.trans hbx).mono HBE.out.size)); clear hbx hCx hcx)
                      (try dsimp only)
                      refine hK.out _ _ ?_ (fun hHeld => ?_)
                      · first | exact HS0.out | exact HSA.out | exact HSB.out
                      clear hK K
                      try simp only [Act.put, List.setIfInBounds_toArray, List.set_cons_zero, List.set_cons_succ]
                      refine wpAnyH_ready (rs := [3]) (by kernel_rfl) (by simp) ?_
                      refine AllReadyH.cons (by (simp only [List.getElem?_toArray, List.getElem?_cons_succ, List.getElem?_cons_zero]; rfl)) (fun K hK => ?_) AllReadyH.nil
                      go_simp
                      (go_at_call 38; (with_reducible refine (H5ALL.out _ HRX.out).mono ?_); rintro e wy ⟨vy, rfl, hry, hby⟩; obtain ⟨ay, cy, rfl, hcy, hCy, -⟩ := hry; have HSB := Lib.hid (And.intro ((hby.block _ (blt HSA.out.1)).trans HSA.out.1) ((hby.block _ (blt HSA.out.2)).trans HSA.out.2)); have HCY := Aside0.mk hCy; have HCX2 := Aside0.mk (Kd.C_below HCX.out hby); have HR5y := Aside0.mk (HRX.out.below hby); have HR15y := Aside0.mk (HR15x.out.below hby); have HBY := Aside0.mk (HBX.out.trans (hby.mono HBX.out.size)); clear hby hCy hcy)
                      (try dsimp only)
                      refine hK.out _ _ ?_ (fun hHeld => ?_)
                      · first | exact HS0.out | exact HSA.out | exact HSB.out
                      clear hK K
                      try simp only [Act.put, List.setIfInBounds_toArray, List.set_cons_zero, List.set_cons_succ]
                      first | (refine wpAnyH_take (i := 4) (oi := ?o79) (v := ?v79) ?i79 (by kernel_rfl) (by kernel_rfl) (by kernel_rfl) ?q79 ?y79 (by assumption) ?r79; (case i79 => (simp only [List.getElem?_toArray, List.getElem?_cons_succ, List.getElem?_cons_zero]; rfl)); (case q79 => exact fun _ _ _ h => h); (case y79 => (refine Or.inl ⟨by rfl, ?_⟩; intro w hSw; (try dsimp only at hSw); go_simp; (try (with_reducible rfl))))) | (refine wpAnyH_take (i := 4) (oi := ?o80) (v := undef) ?i80 (by kernel_rfl) (by kernel_rfl) (by kernel_rfl) ?q80 ?y80 (by assumption) ?r80; (case i80 => (simp only [List.getElem?_toArray, List.getElem?_cons_succ, List.getElem?_cons_zero]; rfl)); (case q80 => exact fun _ _ _ h => h); (case y80 => exact Or.inr ⟨by rfl, rfl⟩))
                      try simp only [Act.put, List.setIfInBounds_toArray, List.set_cons_zero, List.set_cons_succ]
                      first | (refine wpAnyH_take (i := 5) (oi := ?o81) (v := ?v81) ?i81 (by kernel_rfl) (by kernel_rfl) (by kernel_rfl) ?q81 ?y81 (by assumption) ?r81; (case i81 => (simp only [List.getElem?_toArray, List.getElem?_cons_succ, List.getElem?_cons_zero]; rfl)); (case q81 => exact fun _ _ _ h => h); (case y81 => (refine Or.inl ⟨by rfl, ?_⟩; intro w hSw; (try dsimp only at hSw); go_simp; (try (with_reducible rfl))))) | (refine wpAnyH_take (i := 5) (oi := ?o82) (v := undef) ?i82 (by kernel_rfl) (by kernel_rfl) (by kernel_rfl) ?q82 ?y82 (by assumption) ?r82; (case i82 => (simp only [List.getElem?_toArray, List.getElem?_cons_succ, List.getElem?_cons_zero]; rfl)); (case q82 => exact fun _ _ _ h => h); (case y82 => exact Or.inr ⟨by rfl, rfl⟩))
                      try simp only [Act.put, List.setIfInBounds_toArray, List.set_cons_zero, List.set_cons_succ]
                      refine wpAnyH_done (by kernel_rfl) ?_ _
                      obtain ⟨adx, rfl, cx0⟩ := kI_cell HCX2.out (i := 0) (x := who) (by rw [HQ1.out]; rfl)
                      obtain ⟨ady, rfl, cy0⟩ := kI_cell HCY.out (i := 0) (x := fst) (by rw [HQ2.out]; rfl)
                      rw [add_none] at cx0 cy0
                      have hz1 : (0 : Int) < ((vicN T).row.length : Int) := by rw [HNL.out, ← HNN.out]; omega
                      have hz2 : (0 : Int) < (R.row.length : Int) := by rw [← HNN.out]; omega
                      have dz1 : decide ((0 : Int) < ((vicN T).row.length : Int)) = true := decide_eq_true hz1
                      have dz2 : decide ((0 : Int) < (R.row.length : Int)) = true := decide_eq_true hz2
                      have hz3 : 0 < (vicN T).row.length := by omega
                      have hz4 : 0 < R.row.length := by omega
                      have dz3 : decide (0 < (vicN T).row.length) = true := decide_eq_true hz3
                      have dz4 : decide (0 < R.row.length) = true := decide_eq_true hz4
                      have HS2 := Lib.hid (And.intro HSB.out.1 (And.intro HSB.out.2 (And.intro cx0 cy0)))
                      clear cx0 cy0
                      go_wp2
                      refine wp_region_held_drew (S := (fun w' => w'.heap[w6.heap.size]? = some (.cells (ringC v6 (vicN T).ms).toArray TR (0, 0)) ∧ w'.heap[w2.heap.size]? = some (.cells (ringC vr R.ms).toArray TR (0, 0)) ∧ w'.cell? adx = some (.int .i64 who) ∧ w'.cell? ady = some (.int .i64 fst))) (by kernel_rfl) ?_ (fun hHeld => ?_)
                      · first | exact HS2.out | exact HS3.out | exact HS4.out | exact HS5.out | exact HS6.out
                      first | (refine wpAnyH_take (i := 0) (oi := ?o83) (v := ?v83) ?i83 (by kernel_rfl) (by kernel_rfl) (by kernel_rfl) ?q83 ?y83 (by assumption) ?r83; (case i83 => (simp only [List.getElem?_toArray, List.getElem?_cons_succ, List.getElem?_cons_zero]; rfl)); (case q83 => exact fun _ _ _ h => h); (case y83 => (refine Or.inl ⟨by rfl, ?_⟩; intro w hSw; (try dsimp only at hSw); go_simp; (try (with_reducible rfl))))) | (refine wpAnyH_take (i := 0) (oi := ?o84) (v := undef) ?i84 (by kernel_rfl) (by kernel_rfl) (by kernel_rfl) ?q84 ?y84 (by assumption) ?r84; (case i84 => (simp only [List.getElem?_toArray, List.getElem?_cons_succ, List.getElem?_cons_zero]; rfl)); (case q84 => exact fun _ _ _ h => h); (case y84 => exact Or.inr ⟨by rfl, rfl⟩))
                      try simp only [Act.put, List.setIfInBounds_toArray, List.set_cons_zero, List.set_cons_succ]
                      first | (refine wpAnyH_take (i := 1) (oi := ?o85) (v := ?v85) ?i85 (by kernel_rfl) (by kernel_rfl) (by kernel_rfl) ?q85 ?y85 (by assumption) ?r85; (case i85 => (simp only [List.getElem?_toArray, List.getElem?_cons_succ, List.getElem?_cons_zero]; rfl)); (case q85 => exact fun _ _ _ h => h); (case y85 => (refine Or.inl ⟨by rfl, ?_⟩; intro w hSw; (try dsimp only at hSw); go_simp; (try (with_reducible rfl))))) | (refine wpAnyH_take (i := 1) (oi := ?o86) (v := undef) ?i86 (by kernel_rfl) (by kernel_rfl) (by kernel_rfl) ?q86 ?y86 (by assumption) ?r86; (case i86 => (simp only [List.getElem?_toArray, List.getElem?_cons_succ, List.getElem?_cons_zero]; rfl)); (case q86 => exact fun _ _ _ h => h); (case y86 => exact Or.inr ⟨by rfl, rfl⟩))
                      try simp only [Act.put, List.setIfInBounds_toArray, List.set_cons_zero, List.set_cons_succ]
                      first | (refine wpAnyH_take (i := 2) (oi := ?o87) (v := ?v87) ?i87 (by kernel_rfl) (by kernel_rfl) (by kernel_rfl) ?q87 ?y87 (by assumption) ?r87; (case i87 => (simp only [List.getElem?_toArray, List.getElem?_cons_succ, List.getElem?_cons_zero]; rfl)); (case q87 => exact fun _ _ _ h => h); (case y87 => (refine Or.inl ⟨by rfl, ?_⟩; intro w hSw; (try dsimp only at hSw); go_simp; (try (with_reducible rfl))))) | (refine wpAnyH_take (i := 2) (oi := ?o88) (v := undef) ?i88 (by kernel_rfl) (by kernel_rfl) (by kernel_rfl) ?q88 ?y88 (by assumption) ?r88; (case i88 => (simp only [List.getElem?_toArray, List.getElem?_cons_succ, List.getElem?_cons_zero]; rfl)); (case q88 => exact fun _ _ _ h => h); (case y88 => exact Or.inr ⟨by rfl, rfl⟩))
                      try simp only [Act.put, List.setIfInBounds_toArray, List.set_cons_zero, List.set_cons_succ]
                      first | (refine wpAnyH_take (i := 3) (oi := ?o89) (v := ?v89) ?i89 (by kernel_rfl) (by kernel_rfl) (by kernel_rfl) ?q89 ?y89 (by assumption) ?r89; (case i89 => (simp only [List.getElem?_toArray, List.getElem?_cons_succ, List.getElem?_cons_zero]; rfl)); (case q89 => exact fun _ _ _ h => h); (case y89 => (refine Or.inl ⟨by rfl, ?_⟩; intro w hSw; (try dsimp only at hSw); go_simp; (try (with_reducible rfl))))) | (refine wpAnyH_take (i := 3) (oi := ?o90) (v := undef) ?i90 (by kernel_rfl) (by kernel_rfl) (by kernel_rfl) ?q90 ?y90 (by assumption) ?r90; (case i90 => (simp only [List.getElem?_toArray, List.getElem?_cons_succ, List.getElem?_cons_zero]; rfl)); (case q90 => exact fun _ _ _ h => h); (case y90 => exact Or.inr ⟨by rfl, rfl⟩))
                      try simp only [Act.put, List.setIfInBounds_toArray, List.set_cons_zero, List.set_cons_succ]
                      first | (refine wpAnyH_take (i := 4) (oi := ?o91) (v := ?v91) ?i91 (by kernel_rfl) (by kernel_rfl) (by kernel_rfl) ?q91 ?y91 (by assumption) ?r91; (case i91 => (simp only [List.getElem?_toArray, List.getElem?_cons_succ, List.getElem?_cons_zero]; rfl)); (case q91 => exact fun _ _ _ h => h); (case y91 => (refine Or.inl ⟨by rfl, ?_⟩; intro w hSw; (try dsimp only at hSw); go_simp; (try (with_reducible rfl))))) | (refine wpAnyH_take (i := 4) (oi := ?o92) (v := undef) ?i92 (by kernel_rfl) (by kernel_rfl) (by kernel_rfl) ?q92 ?y92 (by assumption) ?r92; (case i92 => (simp only [List.getElem?_toArray, List.getElem?_cons_succ, List.getElem?_cons_zero]; rfl)); (case q92 => exact fun _ _ _ h => h); (case y92 => exact Or.inr ⟨by rfl, rfl⟩))
                      try simp only [Act.put, List.setIfInBounds_toArray, List.set_cons_zero, List.set_cons_succ]
                      first | (refine wpAnyH_take (i := 5) (oi := ?o93) (v := ?v93) ?i93 (by kernel_rfl) (by kernel_rfl) (by kernel_rfl) ?q93 ?y93 (by assumption) ?r93; (case i93 => (simp only [List.getElem?_toArray, List.getElem?_cons_succ, List.getElem?_cons_zero]; rfl)); (case q93 => exact fun _ _ _ h => h); (case y93 => (refine Or.inl ⟨by rfl, ?_⟩; intro w hSw; (try dsimp only at hSw); go_simp; (try (with_reducible rfl))))) | (refine wpAnyH_take (i := 5) (oi := ?o94) (v := undef) ?i94 (by kernel_rfl) (by kernel_rfl) (by kernel_rfl) ?q94 ?y94 (by assumption) ?r94; (case i94 => (simp only [List.getElem?_toArray, List.getElem?_cons_succ, List.getElem?_cons_zero]; rfl)); (case q94 => exact fun _ _ _ h => h); (case y94 => exact Or.inr ⟨by rfl, rfl⟩))
                      try simp only [Act.put, List.setIfInBounds_toArray, List.set_cons_zero, List.set_cons_succ]
                      first | (refine wpAnyH_take (i := 6) (oi := ?o95) (v := ?v95) ?i95 (by kernel_rfl) (by kernel_rfl) (by kernel_rfl) ?q95 ?y95 (by assumption) ?r95; (case i95 => (simp only [List.getElem?_toArray, List.getElem?_cons_succ, List.getElem?_cons_zero]; rfl)); (case q95 => exact fun _ _ _ h => h); (case y95 => (refine Or.inl ⟨by rfl, ?_⟩; intro w hSw; (try dsimp only at hSw); go_simp; (try (with_reducible rfl))))) | (refine wpAnyH_take (i := 6) (oi := ?o96) (v := undef) ?i96 (by kernel_rfl) (by kernel_rfl) (by kernel_rfl) ?q96 ?y96 (by assumption) ?r96; (case i96 => (simp only [List.getElem?_toArray, List.getElem?_cons_succ, List.getElem?_cons_zero]; rfl)); (case q96 => exact fun _ _ _ h => h); (case y96 => exact Or.inr ⟨by rfl, rfl⟩))
                      try simp only [Act.put, List.setIfInBounds_toArray, List.set_cons_zero, List.set_cons_succ]
                      first | (refine wpAnyH_take (i := 7) (oi := ?o97) (v := ?v97) ?i97 (by kernel_rfl) (by kernel_rfl) (by kernel_rfl) ?q97 ?y97 (by assumption) ?r97; (case i97 => (simp only [List.getElem?_toArray, List.getElem?_cons_succ, List.getElem?_cons_zero]; rfl)); (case q97 => exact fun _ _ _ h => h); (case y97 => (refine Or.inl ⟨by rfl, ?_⟩; intro w hSw; (try dsimp only at hSw); go_simp; (try (with_reducible rfl))))) | (refine wpAnyH_take (i := 7) (oi := ?o98) (v := undef) ?i98 (by kernel_rfl) (by kernel_rfl) (by kernel_rfl) ?q98 ?y98 (by assumption) ?r98; (case i98 => (simp only [List.getElem?_toArray, List.getElem?_cons_succ, List.getElem?_cons_zero]; rfl)); (case q98 => exact fun _ _ _ h => h); (case y98 => exact Or.inr ⟨by rfl, rfl⟩))
                      try simp only [Act.put, List.setIfInBounds_toArray, List.set_cons_zero, List.set_cons_succ]
                      first | (refine wpAnyH_take (i := 8) (oi := ?o99) (v := ?v99) ?i99 (by kernel_rfl) (by kernel_rfl) (by kernel_rfl) ?q99 ?y99 (by assumption) ?r99; (case i99 => (simp only [List.getElem?_toArray, List.getElem?_cons_succ, List.getElem?_cons_zero]; rfl)); (case q99 => exact fun _ _ _ h => h); (case y99 => (refine Or.inl ⟨by rfl, ?_⟩; intro w hSw; (try dsimp only at hSw); go_simp; (try (with_reducible rfl))))) | (refine wpAnyH_take (i := 8) (oi := ?o100) (v := undef) ?i100 (by kernel_rfl) (by kernel_rfl) (by kernel_rfl) ?q100 ?y100 (by assumption) ?r100; (case i100 => (simp only [List.getElem?_toArray, List.getElem?_cons_succ, List.getElem?_cons_zero]; rfl)); (case q100 => exact fun _ _ _ h => h); (case y100 => exact Or.inr ⟨by rfl, rfl⟩))
                      try simp only [Act.put, List.setIfInBounds_toArray, List.set_cons_zero, List.set_cons_succ]
                      (refine wpAnyH_take (i := 9) (oi := ?o101) (v := ringV v6 (vicN T).ms) ?i101 (by kernel_rfl) (by kernel_rfl) (by kernel_rfl) ?q101 ?y101 (by assumption) ?r101; (case i101 => (simp only [List.getElem?_toArray, List.getElem?_cons_succ, List.getElem?_cons_zero]; rfl)); (case q101 => exact fun _ _ _ h => h); (case y101 => (refine Or.inl ⟨by rfl, ?_⟩; intro w9 hSw; (try dsimp only at hSw); have hld := run_loadVar_row (P := Try.prog) w9 _ TR TR _ (0, 0) _ hSw.1 Try.underlying47 rfl (by rw [info_ring, ringC_size hn16]); simp only [execOp, Act.eval, List.getElem?_toArray, List.getElem?_cons_succ, List.getElem?_cons_zero, Array.getD_eq_getD_getElem?, Option.getD_some, Instr.loadAt, Instr.sureAddr, Sem.run_bind, Sem.run_pure, Result.andThen_ok, hld]; rfl)))
                      try simp only [Act.put, List.setIfInBounds_toArray, List.set_cons_zero, List.set_cons_succ]
                      first | (refine wpAnyH_take (i := 10) (oi := ?o102) (v := ?v102) ?i102 (by kernel_rfl) (by kernel_rfl) (by kernel_rfl) ?q102 ?y102 (by assumption) ?r102; (case i102 => (simp only [List.getElem?_toArray, List.getElem?_cons_succ, List.getElem?_cons_zero]; rfl)); (case q102 => exact fun _ _ _ h => h); (case y102 => (refine Or.inl ⟨by rfl, ?_⟩; intro w hSw; (try dsimp only at hSw); go_simp; (try (with_reducible rfl))))) | (refine wpAnyH_take (i := 10) (oi := ?o103) (v := undef) ?i103 (by kernel_rfl) (by kernel_rfl) (by kernel_rfl) ?q103 ?y103 (by assumption) ?r103; (case i103 => (simp only [List.getElem?_toArray, List.getElem?_cons_succ, List.getElem?_cons_zero]; rfl)); (case q103 => exact fun _ _ _ h => h); (case y103 => exact Or.inr ⟨by rfl, rfl⟩))
                      try simp only [Act.put, List.setIfInBounds_toArray, List.set_cons_zero, List.set_cons_succ]
                      refine wpAnyH_ready (rs := [11]) (by kernel_rfl) (by simp) ?_
                      refine AllReadyH.cons (by (simp only [List.getElem?_toArray, List.getElem?_cons_succ, List.getElem?_cons_zero]; rfl)) (fun K hK => ?_) AllReadyH.nil
                      go_simp
                      (go_at_call 39; (with_reducible refine (H15HAS.out _ _ (HR15y.out.below (Below.refl _ _).drew)).mono ?_); rintro e x3 ⟨rfl, hb⟩; have HS3 := Lib.hid (keep4 HS2.out ((Below.refl _ _).drew.trans hb)); have HR153 := Aside0.mk (HR15y.out.below ((Below.refl _ _).drew.trans hb)); have HR53 := Aside0.mk (HR5y.out.below ((Below.refl _ _).drew.trans hb)); have HBZ3 := Aside0.mk (HBY.out.trans (((Below.refl _ _).drew.trans hb).mono HBY.out.size)); clear hb)
                      (try dsimp only)
                      refine hK.out _ _ ?_ (fun hHeld => ?_)
                      · first | exact HS2.out | exact HS3.out | exact HS4.out | exact HS5.out | exact HS6.out
                      clear hK K
                      try simp only [Act.put, List.setIfInBounds_toArray, List.set_cons_zero, List.set_cons_succ]
                      first | (refine wpAnyH_take (i := 12) (oi := ?o104) (v := ?v104) ?i104 (by kernel_rfl) (by kernel_rfl) (by kernel_rfl) ?q104 ?y104 (by assumption) ?r104; (case i104 => (simp only [List.getElem?_toArray, List.getElem?_cons_succ, List.getElem?_cons_zero]; rfl)); (case q104 => exact fun _ _ _ h => h); (case y104 => (refine Or.inl ⟨by rfl, ?_⟩; intro w hSw; (try dsimp only at hSw); go_simp; (try (with_reducible rfl))))) | (refine wpAnyH_take (i := 12) (oi := ?o105) (v := undef) ?i105 (by kernel_rfl) (by kernel_rfl) (by kernel_rfl) ?q105 ?y105 (by assumption) ?r105; (case i105 => (simp only [List.getElem?_toArray, List.getElem?_cons_succ, List.getElem?_cons_zero]; rfl)); (case q105 => exact fun _ _ _ h => h); (case y105 => exact Or.inr ⟨by rfl, rfl⟩))
                      try simp only [Act.put, List.setIfInBounds_toArray, List.set_cons_zero, List.set_cons_succ]
                      first | (refine wpAnyH_take (i := 13) (oi := ?o106) (v := ?v106) ?i106 (by kernel_rfl) (by kernel_rfl) (by kernel_rfl) ?q106 ?y106 (by assumption) ?r106; (case i106 => (simp only [List.getElem?_toArray, List.getElem?_cons_succ, List.getElem?_cons_zero]; rfl)); (case q106 => exact fun _ _ _ h => h); (case y106 => (refine Or.inl ⟨by rfl, ?_⟩; intro w hSw; (try dsimp only at hSw); go_simp; (try (with_reducible rfl))))) | (refine wpAnyH_take (i := 13) (oi := ?o107) (v := undef) ?i107 (by kernel_rfl) (by kernel_rfl) (by kernel_rfl) ?q107 ?y107 (by assumption) ?r107; (case i107 => (simp only [List.getElem?_toArray, List.getElem?_cons_succ, List.getElem?_cons_zero]; rfl)); (case q107 => exact fun _ _ _ h => h); (case y107 => exact Or.inr ⟨by rfl, rfl⟩))
                      try simp only [Act.put, List.setIfInBounds_toArray, List.set_cons_zero, List.set_cons_succ]
                      (refine wpAnyH_take (i := 14) (oi := ?o108) (v := ringV v6 (vicN T).ms) ?i108 (by kernel_rfl) (by kernel_rfl) (by kernel_rfl) ?q108 ?y108 (by assumption) ?r108; (case i108 => (simp only [List.getElem?_toArray, List.getElem?_cons_succ, List.getElem?_cons_zero]; rfl)); (case q108 => exact fun _ _ _ h => h); (case y108 => (refine Or.inl ⟨by rfl, ?_⟩; intro w9 hSw; (try dsimp only at hSw); have hld := run_loadVar_row (P := Try.prog) w9 _ TR TR _ (0, 0) _ hSw.1 Try.underlying47 rfl (by rw [info_ring, ringC_size hn16]); simp only [execOp, Act.eval, List.getElem?_toArray, List.getElem?_cons_succ, List.getElem?_cons_zero, Array.getD_eq_getD_getElem?, Option.getD_some, Instr.loadAt, Instr.sureAddr, Sem.run_bind, Sem.run_pure, Result.andThen_ok, hld]; rfl)))
                      try simp only [Act.put, List.setIfInBounds_toArray, List.set_cons_zero, List.set_cons_succ]
                      first | (refine wpAnyH_take (i := 15) (oi := ?o109) (v := ?v109) ?i109 (by kernel_rfl) (by kernel_rfl) (by kernel_rfl) ?q109 ?y109 (by assumption) ?r109; (case i109 => (simp only [List.getElem?_toArray, List.getElem?_cons_succ, List.getElem?_cons_zero]; rfl)); (case q109 => exact fun _ _ _ h => h); (case y109 => (refine Or.inl ⟨by rfl, ?_⟩; intro w hSw; (try dsimp only at hSw); go_simp; (try (with_reducible rfl))))) | (refine wpAnyH_take (i := 15) (oi := ?o110) (v := undef) ?i110 (by kernel_rfl) (by kernel_rfl) (by kernel_rfl) ?q110 ?y110 (by assumption) ?r110; (case i110 => (simp only [List.getElem?_toArray, List.getElem?_cons_succ, List.getElem?_cons_zero]; rfl)); (case q110 => exact fun _ _ _ h => h); (case y110 => exact Or.inr ⟨by rfl, rfl⟩))
                      try simp only [Act.put, List.setIfInBounds_toArray, List.set_cons_zero, List.set_cons_succ]
                      refine wpAnyH_ready (rs := [16]) (by kernel_rfl) (by simp) ?_
                      refine AllReadyH.cons (by (simp only [List.getElem?_toArray, List.getElem?_cons_succ, List.getElem?_cons_zero]; rfl)) (fun K hK => ?_) AllReadyH.nil
                      go_simp
                      (go_at_call 37; (with_reducible refine (H15MK.out _ _ HR153.out).mono ?_); rintro e x4 ⟨rfl, hb⟩; have HS4 := Lib.hid (keep4 HS3.out hb); have HR154 := Aside0.mk (HR153.out.below hb); have HR54 := Aside0.mk (HR53.out.below hb); have HBZ4 := Aside0.mk (HBZ3.out.trans (hb.mono HBZ3.out.size)); clear hb)
                      (try dsimp only)
                      refine hK.out _ _ ?_ (fun hHeld => ?_)
                      · first | exact HS2.out | exact HS3.out | exact HS4.out | exact HS5.out | exact HS6.out
                      clear hK K
                      try simp only [Act.put, List.setIfInBounds_toArray, List.set_cons_zero, List.set_cons_succ]
                      first | (refine wpAnyH_take (i := 17) (oi := ?o111) (v := ?v111) ?i111 (by kernel_rfl) (by kernel_rfl) (by kernel_rfl) ?q111 ?y111 (by assumption) ?r111; (case i111 => (simp only [List.getElem?_toArray, List.getElem?_cons_succ, List.getElem?_cons_zero]; rfl)); (case q111 => exact fun _ _ _ h => h); (case y111 => (refine Or.inl ⟨by rfl, ?_⟩; intro w hSw; (try dsimp only at hSw); go_simp; (try (with_reducible rfl))))) | (refine wpAnyH_take (i := 17) (oi := ?o112) (v := undef) ?i112 (by kernel_rfl) (by kernel_rfl) (by kernel_rfl) ?q112 ?y112 (by assumption) ?r112; (case i112 => (simp only [List.getElem?_toArray, List.getElem?_cons_succ, List.getElem?_cons_zero]; rfl)); (case q112 => exact fun _ _ _ h => h); (case y112 => exact Or.inr ⟨by rfl, rfl⟩))
                      try simp only [Act.put, List.setIfInBounds_toArray, List.set_cons_zero, List.set_cons_succ]
                      first | (refine wpAnyH_take (i := 18) (oi := ?o113) (v := ?v113) ?i113 (by kernel_rfl) (by kernel_rfl) (by kernel_rfl) ?q113 ?y113 (by assumption) ?r113; (case i113 => (simp only [List.getElem?_toArray, List.getElem?_cons_succ, List.getElem?_cons_zero]; rfl)); (case q113 => exact fun _ _ _ h => h); (case y113 => (refine Or.inl ⟨by rfl, ?_⟩; intro w hSw; (try dsimp only at hSw); go_simp; (try (with_reducible rfl))))) | (refine wpAnyH_take (i := 18) (oi := ?o114) (v := undef) ?i114 (by kernel_rfl) (by kernel_rfl) (by kernel_rfl) ?q114 ?y114 (by assumption) ?r114; (case i114 => (simp only [List.getElem?_toArray, List.getElem?_cons_succ, List.getElem?_cons_zero]; rfl)); (case q114 => exact fun _ _ _ h => h); (case y114 => exact Or.inr ⟨by rfl, rfl⟩))
                      try simp only [Act.put, List.setIfInBounds_toArray, List.set_cons_zero, List.set_cons_succ]
                      first | (refine wpAnyH_take (i := 19) (oi := ?o115) (v := ?v115) ?i115 (by kernel_rfl) (by kernel_rfl) (by kernel_rfl) ?q115 ?y115 (by assumption) ?r115; (case i115 => (simp only [List.getElem?_toArray, List.getElem?_cons_succ, List.getElem?_cons_zero]; rfl)); (case q115 => exact fun _ _ _ h => h); (case y115 => (refine Or.inl ⟨by rfl, ?_⟩; intro w hSw; (try dsimp only at hSw); go_simp; (try (with_reducible rfl))))) | (refine wpAnyH_take (i := 19) (oi := ?o116) (v := undef) ?i116 (by kernel_rfl) (by kernel_rfl) (by kernel_rfl) ?q116 ?y116 (by assumption) ?r116; (case i116 => (simp only [List.getElem?_toArray, List.getElem?_cons_succ, List.getElem?_cons_zero]; rfl)); (case q116 => exact fun _ _ _ h => h); (case y116 => exact Or.inr ⟨by rfl, rfl⟩))
                      try simp only [Act.put, List.setIfInBounds_toArray, List.set_cons_zero, List.set_cons_succ]
                      first | (refine wpAnyH_take (i := 20) (oi := ?o117) (v := ?v117) ?i117 (by kernel_rfl) (by kernel_rfl) (by kernel_rfl) ?q117 ?y117 (by assumption) ?r117; (case i117 => (simp only [List.getElem?_toArray, List.getElem?_cons_succ, List.getElem?_cons_zero]; rfl)); (case q117 => exact fun _ _ _ h => h); (case y117 => (refine Or.inl ⟨by rfl, ?_⟩; intro w hSw; (try dsimp only at hSw); go_simp; (try (with_reducible rfl))))) | (refine wpAnyH_take (i := 20) (oi := ?o118) (v := undef) ?i118 (by kernel_rfl) (by kernel_rfl) (by kernel_rfl) ?q118 ?y118 (by assumption) ?r118; (case i118 => (simp only [List.getElem?_toArray, List.getElem?_cons_succ, List.getElem?_cons_zero]; rfl)); (case q118 => exact fun _ _ _ h => h); (case y118 => exact Or.inr ⟨by rfl, rfl⟩))
                      try simp only [Act.put, List.setIfInBounds_toArray, List.set_cons_zero, List.set_cons_succ]
                      first | (refine wpAnyH_take (i := 21) (oi := ?o119) (v := ?v119) ?i119 (by kernel_rfl) (by kernel_rfl) (by kernel_rfl) ?q119 ?y119 (by assumption) ?r119; (case i119 => (simp only [List.getElem?_toArray, List.getElem?_cons_succ, List.getElem?_cons_zero]; rfl)); (case q119 => exact fun _ _ _ h => h); (case y119 => (refine Or.inl ⟨by rfl, ?_⟩; intro w hSw; (try dsimp only at hSw); go_simp; (try (with_reducible rfl))))) | (refine wpAnyH_take (i := 21) (oi := ?o120) (v := undef) ?i120 (by kernel_rfl) (by kernel_rfl) (by kernel_rfl) ?q120 ?y120 (by assumption) ?r120; (case i120 => (simp only [List.getElem?_toArray, List.getElem?_cons_succ, List.getElem?_cons_zero]; rfl)); (case q120 => exact fun _ _ _ h => h); (case y120 => exact Or.inr ⟨by rfl, rfl⟩))
                      try simp only [Act.put, List.setIfInBounds_toArray, List.set_cons_zero, List.set_cons_succ]
                      first | (refine wpAnyH_take (i := 22) (oi := ?o121) (v := ?v121) ?i121 (by kernel_rfl) (by kernel_rfl) (by kernel_rfl) ?q121 ?y121 (by assumption) ?r121; (case i121 => (simp only [List.getElem?_toArray, List.getElem?_cons_succ, List.getElem?_cons_zero]; rfl)); (case q121 => exact fun _ _ _ h => h); (case y121 => (refine Or.inl ⟨by rfl, ?_⟩; intro w hSw; (try dsimp only at hSw); go_simp; (try (with_reducible rfl))))) | (refine wpAnyH_take (i := 22) (oi := ?o122) (v := undef) ?i122 (by kernel_rfl) (by kernel_rfl) (by kernel_rfl) ?q122 ?y122 (by assumption) ?r122; (case i122 => (simp only [List.getElem?_toArray, List.getElem?_cons_succ, List.getElem?_cons_zero]; rfl)); (case q122 => exact fun _ _ _ h => h); (case y122 => exact Or.inr ⟨by rfl, rfl⟩))
                      try simp only [Act.put, List.setIfInBounds_toArray, List.set_cons_zero, List.set_cons_succ]
                      first | (refine wpAnyH_take (i := 23) (oi := ?o123) (v := ?v123) ?i123 (by kernel_rfl) (by kernel_rfl) (by kernel_rfl) ?q123 ?y123 (by assumption) ?r123; (case i123 => (simp only [List.getElem?_toArray, List.getElem?_cons_succ, List.getElem?_cons_zero]; rfl)); (case q123 => exact fun _ _ _ h => h); (case y123 => (refine Or.inl ⟨by rfl, ?_⟩; intro w hSw; (try dsimp only at hSw); go_simp; (try (with_reducible rfl))))) | (refine wpAnyH_take (i := 23) (oi := ?o124) (v := undef) ?i124 (by kernel_rfl) (by kernel_rfl) (by kernel_rfl) ?q124 ?y124 (by assumption) ?r124; (case i124 => (simp only [List.getElem?_toArray, List.getElem?_cons_succ, List.getElem?_cons_zero]; rfl)); (case q124 => exact fun _ _ _ h => h); (case y124 => exact Or.inr ⟨by rfl, rfl⟩))
                      try simp only [Act.put, List.setIfInBounds_toArray, List.set_cons_zero, List.set_cons_succ]
                      first | (refine wpAnyH_take (i := 24) (oi := ?o125) (v := ?v125) ?i125 (by kernel_rfl) (by kernel_rfl) (by kernel_rfl) ?q125 ?y125 (by assumption) ?r125; (case i125 => (simp only [List.getElem?_toArray, List.getElem?_cons_succ, List.getElem?_cons_zero]; rfl)); (case q125 => exact fun _ _ _ h => h); (case y125 => (refine Or.inl ⟨by rfl, ?_⟩; intro w hSw; (try dsimp only at hSw); go_simp; (try (with_reducible rfl))))) | (refine wpAnyH_take (i := 24) (oi := ?o126) (v := undef) ?i126 (by kernel_rfl) (by kernel_rfl) (by kernel_rfl) ?q126 ?y126 (by assumption) ?r126; (case i126 => (simp only [List.getElem?_toArray, List.getElem?_cons_succ, List.getElem?_cons_zero]; rfl)); (case q126 => exact fun _ _ _ h => h); (case y126 => exact Or.inr ⟨by rfl, rfl⟩))
                      try simp only [Act.put, List.setIfInBounds_toArray, List.set_cons_zero, List.set_cons_succ]
                      first | (refine wpAnyH_take (i := 25) (oi := ?o127) (v := ?v127) ?i127 (by kernel_rfl) (by kernel_rfl) (by kernel_rfl) ?q127 ?y127 (by assumption) ?r127; (case i127 => (simp only [List.getElem?_toArray, List.getElem?_cons_succ, List.getElem?_cons_zero]; rfl)); (case q127 => exact fun _ _ _ h => h); (case y127 => (refine Or.inl ⟨by rfl, ?_⟩; intro w hSw; (try dsimp only at hSw); go_simp; (try (with_reducible rfl))))) | (refine wpAnyH_take (i := 25) (oi := ?o128) (v := undef) ?i128 (by kernel_rfl) (by kernel_rfl) (by kernel_rfl) ?q128 ?y128 (by assumption) ?r128; (case i128 => (simp only [List.getElem?_toArray, List.getElem?_cons_succ, List.getElem?_cons_zero]; rfl)); (case q128 => exact fun _ _ _ h => h); (case y128 => exact Or.inr ⟨by rfl, rfl⟩))
                      try simp only [Act.put, List.setIfInBounds_toArray, List.set_cons_zero, List.set_cons_succ]
                      first | (refine wpAnyH_take (i := 26) (oi := ?o129) (v := ?v129) ?i129 (by kernel_rfl) (by kernel_rfl) (by kernel_rfl) ?q129 ?y129 (by assumption) ?r129; (case i129 => (simp only [List.getElem?_toArray, List.getElem?_cons_succ, List.getElem?_cons_zero]; rfl)); (case q129 => exact fun _ _ _ h => h); (case y129 => (refine Or.inl ⟨by rfl, ?_⟩; intro w hSw; (try dsimp only at hSw); go_simp; (try (with_reducible rfl))))) | (refine wpAnyH_take (i := 26) (oi := ?o130) (v := undef) ?i130 (by kernel_rfl) (by kernel_rfl) (by kernel_rfl) ?q130 ?y130 (by assumption) ?r130; (case i130 => (simp only [List.getElem?_toArray, List.getElem?_cons_succ, List.getElem?_cons_zero]; rfl)); (case q130 => exact fun _ _ _ h => h); (case y130 => exact Or.inr ⟨by rfl, rfl⟩))
                      try simp only [Act.put, List.setIfInBounds_toArray, List.set_cons_zero, List.set_cons_succ]
                      first | (refine wpAnyH_take (i := 27) (oi := ?o131) (v := ?v131) ?i131 (by kernel_rfl) (by kernel_rfl) (by kernel_rfl) ?q131 ?y131 (by assumption) ?r131; (case i131 => (simp only [List.getElem?_toArray, List.getElem?_cons_succ, List.getElem?_cons_zero]; rfl)); (case q131 => exact fun _ _ _ h => h); (case y131 => (refine Or.inl ⟨by rfl, ?_⟩; intro w hSw; (try dsimp only at hSw); go_simp; (try (with_reducible rfl))))) | (refine wpAnyH_take (i := 27) (oi := ?o132) (v := undef) ?i132 (by kernel_rfl) (by kernel_rfl) (by kernel_rfl) ?q132 ?y132 (by assumption) ?r132; (case i132 => (simp only [List.getElem?_toArray, List.getElem?_cons_succ, List.getElem?_cons_zero]; rfl)); (case q132 => exact fun _ _ _ h => h); (case y132 => exact Or.inr ⟨by rfl, rfl⟩))
                      try simp only [Act.put, List.setIfInBounds_toArray, List.set_cons_zero, List.set_cons_succ]
                      first | (refine wpAnyH_take (i := 28) (oi := ?o133) (v := ?v133) ?i133 (by kernel_rfl) (by kernel_rfl) (by kernel_rfl) ?q133 ?y133 (by assumption) ?r133; (case i133 => (simp only [List.getElem?_toArray, List.getElem?_cons_succ, List.getElem?_cons_zero]; rfl)); (case q133 => exact fun _ _ _ h => h); (case y133 => (refine Or.inl ⟨by rfl, ?_⟩; intro w hSw; (try dsimp only at hSw); go_simp; (try (with_reducible rfl))))) | (refine wpAnyH_take (i := 28) (oi := ?o134) (v := undef) ?i134 (by kernel_rfl) (by kernel_rfl) (by kernel_rfl) ?q134 ?y134 (by assumption) ?r134; (case i134 => (simp only [List.getElem?_toArray, List.getElem?_cons_succ, List.getElem?_cons_zero]; rfl)); (case q134 => exact fun _ _ _ h => h); (case y134 => exact Or.inr ⟨by rfl, rfl⟩))
                      try simp only [Act.put, List.setIfInBounds_toArray, List.set_cons_zero, List.set_cons_succ]
                      first | (refine wpAnyH_take (i := 29) (oi := ?o135) (v := ?v135) ?i135 (by kernel_rfl) (by kernel_rfl) (by kernel_rfl) ?q135 ?y135 (by assumption) ?r135; (case i135 => (simp only [List.getElem?_toArray, List.getElem?_cons_succ, List.getElem?_cons_zero]; rfl)); (case q135 => exact fun _ _ _ h => h); (case y135 => (refine Or.inl ⟨by rfl, ?_⟩; intro w hSw; (try dsimp only at hSw); go_simp; (try (with_reducible rfl))))) | (refine wpAnyH_take (i := 29) (oi := ?o136) (v := undef) ?i136 (by kernel_rfl) (by kernel_rfl) (by kernel_rfl) ?q136 ?y136 (by assumption) ?r136; (case i136 => (simp only [List.getElem?_toArray, List.getElem?_cons_succ, List.getElem?_cons_zero]; rfl)); (case q136 => exact fun _ _ _ h => h); (case y136 => exact Or.inr ⟨by rfl, rfl⟩))
                      try simp only [Act.put, List.setIfInBounds_toArray, List.set_cons_zero, List.set_cons_succ]
                      first | (refine wpAnyH_take (i := 30) (oi := ?o137) (v := ?v137) ?i137 (by kernel_rfl) (by kernel_rfl) (by kernel_rfl) ?q137 ?y137 (by assumption) ?r137; (case i137 => (simp only [List.getElem?_toArray, List.getElem?_cons_succ, List.getElem?_cons_zero]; rfl)); (case q137 => exact fun _ _ _ h => h); (case y137 => (refine Or.inl ⟨by rfl, ?_⟩; intro w hSw; (try dsimp only at hSw); go_simp; (try (with_reducible rfl))))) | (refine wpAnyH_take (i := 30) (oi := ?o138) (v := undef) ?i138 (by kernel_rfl) (by kernel_rfl) (by kernel_rfl) ?q138 ?y138 (by assumption) ?r138; (case i138 => (simp only [List.getElem?_toArray, List.getElem?_cons_succ, List.getElem?_cons_zero]; rfl)); (case q138 => exact fun _ _ _ h => h); (case y138 => exact Or.inr ⟨by rfl, rfl⟩))
                      try simp only [Act.put, List.setIfInBounds_toArray, List.set_cons_zero, List.set_cons_succ]
                      first | (refine wpAnyH_take (i := 31) (oi := ?o139) (v := ?v139) ?i139 (by kernel_rfl) (by kernel_rfl) (by kernel_rfl) ?q139 ?y139 (by assumption) ?r139; (case i139 => (simp only [List.getElem?_toArray, List.getElem?_cons_succ, List.getElem?_cons_zero]; rfl)); (case q139 => exact fun _ _ _ h => h); (case y139 => (refine Or.inl ⟨by rfl, ?_⟩; intro w hSw; (try dsimp only at hSw); go_simp; (try (with_reducible rfl))))) | (refine wpAnyH_take (i := 31) (oi := ?o140) (v := undef) ?i140 (by kernel_rfl) (by kernel_rfl) (by kernel_rfl) ?q140 ?y140 (by assumption) ?r140; (case i140 => (simp only [List.getElem?_toArray, List.getElem?_cons_succ, List.getElem?_cons_zero]; rfl)); (case q140 => exact fun _ _ _ h => h); (case y140 => exact Or.inr ⟨by rfl, rfl⟩))
                      try simp only [Act.put, List.setIfInBounds_toArray, List.set_cons_zero, List.set_cons_succ]
                      first | (refine wpAnyH_take (i := 32) (oi := ?o141) (v := ?v141) ?i141 (by kernel_rfl) (by kernel_rfl) (by kernel_rfl) ?q141 ?y141 (by assumption) ?r141; (case i141 => (simp only [List.getElem?_toArray, List.getElem?_cons_succ, List.getElem?_cons_zero]; rfl)); (case q141 => exact fun _ _ _ h => h); (case y141 => (refine Or.inl ⟨by rfl, ?_⟩; intro w hSw; (try dsimp only at hSw); go_simp; (try (with_reducible rfl))))) | (refine wpAnyH_take (i := 32) (oi := ?o142) (v := undef) ?i142 (by kernel_rfl) (by kernel_rfl) (by kernel_rfl) ?q142 ?y142 (by assumption) ?r142; (case i142 => (simp only [List.getElem?_toArray, List.getElem?_cons_succ, List.getElem?_cons_zero]; rfl)); (case q142 => exact fun _ _ _ h => h); (case y142 => exact Or.inr ⟨by rfl, rfl⟩))
                      try simp only [Act.put, List.setIfInBounds_toArray, List.set_cons_zero, List.set_cons_succ]
                      first | (refine wpAnyH_take (i := 33) (oi := ?o143) (v := ?v143) ?i143 (by kernel_rfl) (by kernel_rfl) (by kernel_rfl) ?q143 ?y143 (by assumption) ?r143; (case i143 => (simp only [List.getElem?_toArray, List.getElem?_cons_succ, List.getElem?_cons_zero]; rfl)); (case q143 => exact fun _ _ _ h => h); (case y143 => (refine Or.inl ⟨by rfl, ?_⟩; intro w hSw; (try dsimp only at hSw); go_simp; (try (with_reducible rfl))))) | (refine wpAnyH_take (i := 33) (oi := ?o144) (v := undef) ?i144 (by kernel_rfl) (by kernel_rfl) (by kernel_rfl) ?q144 ?y144 (by assumption) ?r144; (case i144 => (simp only [List.getElem?_toArray, List.getElem?_cons_succ, List.getElem?_cons_zero]; rfl)); (case q144 => exact fun _ _ _ h => h); (case y144 => exact Or.inr ⟨by rfl, rfl⟩))
                      try simp only [Act.put, List.setIfInBounds_toArray, List.set_cons_zero, List.set_cons_succ]
                      (refine wpAnyH_take (i := 34) (oi := ?o145) (v := ringV v6 (vicN T).ms) ?i145 (by kernel_rfl) (by kernel_rfl) (by kernel_rfl) ?q145 ?y145 (by assumption) ?r145; (case i145 => (simp only [List.getElem?_toArray, List.getElem?_cons_succ, List.getElem?_cons_zero]; rfl)); (case q145 => exact fun _ _ _ h => h); (case y145 => (refine Or.inl ⟨by rfl, ?_⟩; intro w9 hSw; (try dsimp only at hSw); have hld := run_loadVar_row (P := Try.prog) w9 _ TR TR _ (0, 0) _ hSw.1 Try.underlying47 rfl (by rw [info_ring, ringC_size hn16]); simp only [execOp, Act.eval, List.getElem?_toArray, List.getElem?_cons_succ, List.getElem?_cons_zero, Array.getD_eq_getD_getElem?, Option.getD_some, Instr.loadAt, Instr.sureAddr, Sem.run_bind, Sem.run_pure, Result.andThen_ok, hld]; rfl)))
                      try simp only [Act.put, List.setIfInBounds_toArray, List.set_cons_zero, List.set_cons_succ]
                      (refine wpAnyH_take (i := 36) (oi := ?o146) (v := ringV vr R.ms) ?i146 (by kernel_rfl) (by kernel_rfl) (by kernel_rfl) ?q146 ?y146 (by assumption) ?r146; (case i146 => (simp only [List.getElem?_toArray, List.getElem?_cons_succ, List.getElem?_cons_zero]; rfl)); (case q146 => exact fun _ _ _ h => h); (case y146 => (refine Or.inl ⟨by rfl, ?_⟩; intro w9 hSw; (try dsimp only at hSw); have hld := run_loadVar_row (P := Try.prog) w9 _ TR TR _ (0, 0) _ hSw.2.1 Try.underlying47 rfl (by rw [info_ring, ringC_size hr16]); simp only [execOp, Act.eval, List.getElem?_toArray, List.getElem?_cons_succ, List.getElem?_cons_zero, Array.getD_eq_getD_getElem?, Option.getD_some, Instr.loadAt, Instr.sureAddr, Sem.run_bind, Sem.run_pure, Result.andThen_ok, hld]; rfl)))
                      try simp only [Act.put, List.setIfInBounds_toArray, List.set_cons_zero, List.set_cons_succ]
                      refine wpAnyH_ready (rs := [35]) (by kernel_rfl) (by simp) ?_
                      refine AllReadyH.cons (by (simp only [List.getElem?_toArray, List.getElem?_cons_succ, List.getElem?_cons_zero]; rfl)) (fun K hK => ?_) AllReadyH.nil
                      go_simp
                      (go_at_call 36; (with_reducible refine (HLN.out _ _ HR154.out).mono ?_); rintro e x5 ⟨rfl, hb⟩; have HS5 := Lib.hid (keep4 HS4.out hb); have HR55 := Aside0.mk (HR54.out.below hb); have HBZ5 := Aside0.mk (HBZ4.out.trans (hb.mono HBZ4.out.size)); clear hb)
                      (try dsimp only)
                      refine hK.out _ _ ?_ (fun hHeld => ?_)
                      · first | exact HS2.out | exact HS3.out | exact HS4.out | exact HS5.out | exact HS6.out
                      clear hK K
                      try simp only [Act.put, List.setIfInBounds_toArray, List.set_cons_zero, List.set_cons_succ]
                      refine wpAnyH_ready (rs := [37]) (by kernel_rfl) (by simp) ?_
                      refine AllReadyH.cons (by (simp only [List.getElem?_toArray, List.getElem?_cons_succ, List.getElem?_cons_zero]; rfl)) (fun K hK => ?_) AllReadyH.nil
                      go_simp
                      (go_at_call 36; (with_reducible refine (HL5.out _ HR55.out).mono ?_); rintro e x6 ⟨rfl, hb⟩; have HS6 := Lib.hid (keep4 HS5.out hb); have HBZ6 := Aside0.mk (HBZ5.out.trans (hb.mono HBZ5.out.size)); clear hb)
                      (try dsimp only)
                      refine hK.out _ _ ?_ (fun hHeld => ?_)
                      · first | exact HS2.out | exact HS3.out | exact HS4.out | exact HS5.out | exact HS6.out
                      clear hK K
                      try simp only [Act.put, List.setIfInBounds_toArray, List.set_cons_zero, List.set_cons_succ]
                      first | (refine wpAnyH_take (i := 38) (oi := ?o147) (v := ?v147) ?i147 (by kernel_rfl) (by kernel_rfl) (by kernel_rfl) ?q147 ?y147 (by assumption) ?r147; (case i147 => (simp only [List.getElem?_toArray, List.getElem?_cons_succ, List.getElem?_cons_zero]; rfl)); (case q147 => exact fun _ _ _ h => h); (case y147 => (refine Or.inl ⟨by rfl, ?_⟩; intro w hSw; (try dsimp only at hSw); go_simp; (try (with_reducible rfl))))) | (refine wpAnyH_take (i := 38) (oi := ?o148) (v := undef) ?i148 (by kernel_rfl) (by kernel_rfl) (by kernel_rfl) ?q148 ?y148 (by assumption) ?r148; (case i148 => (simp only [List.getElem?_toArray, List.getElem?_cons_succ, List.getElem?_cons_zero]; rfl)); (case q148 => exact fun _ _ _ h => h); (case y148 => exact Or.inr ⟨by rfl, rfl⟩))
                      try simp only [Act.put, List.setIfInBounds_toArray, List.set_cons_zero, List.set_cons_succ]
                      first | (refine wpAnyH_take (i := 39) (oi := ?o149) (v := ?v149) ?i149 (by kernel_rfl) (by kernel_rfl) (by kernel_rfl) ?q149 ?y149 (by assumption) ?r149; (case i149 => (simp only [List.getElem?_toArray, List.getElem?_cons_succ, List.getElem?_cons_zero]; rfl)); (case q149 => exact fun _ _ _ h => h); (case y149 => (refine Or.inl ⟨by rfl, ?_⟩; intro w hSw; (try dsimp only at hSw); go_simp; (try (with_reducible rfl))))) | (refine wpAnyH_take (i := 39) (oi := ?o150) (v := undef) ?i150 (by kernel_rfl) (by kernel_rfl) (by kernel_rfl) ?q150 ?y150 (by assumption) ?r150; (case i150 => (simp only [List.getElem?_toArray, List.getElem?_cons_succ, List.getElem?_cons_zero]; rfl)); (case q150 => exact fun _ _ _ h => h); (case y150 => exact Or.inr ⟨by rfl, rfl⟩))
                      try simp only [Act.put, List.setIfInBounds_toArray, List.set_cons_zero, List.set_cons_succ]
                      first | (refine wpAnyH_take (i := 40) (oi := ?o151) (v := ?v151) ?i151 (by kernel_rfl) (by kernel_rfl) (by kernel_rfl) ?q151 ?y151 (by assumption) ?r151; (case i151 => (simp only [List.getElem?_toArray, List.getElem?_cons_succ, List.getElem?_cons_zero]; rfl)); (case q151 => exact fun _ _ _ h => h); (case y151 => (refine Or.inl ⟨by rfl, ?_⟩; intro w hSw; (try dsimp only at hSw); go_simp; (try (with_reducible rfl))))) | (refine wpAnyH_take (i := 40) (oi := ?o152) (v := undef) ?i152 (by kernel_rfl) (by kernel_rfl) (by kernel_rfl) ?q152 ?y152 (by assumption) ?r152; (case i152 => (simp only [List.getElem?_toArray, List.getElem?_cons_succ, List.getElem?_cons_zero]; rfl)); (case q152 => exact fun _ _ _ h => h); (case y152 => exact Or.inr ⟨by rfl, rfl⟩))
                      try simp only [Act.put, List.setIfInBounds_toArray, List.set_cons_zero, List.set_cons_succ]
                      refine wpAnyH_done (by kernel_rfl) ?_ _
                      go_wp2
                      go_ret
                      exact ⟨rfl, HBZ6.out⟩
end Go.Proofs.Ytkbialmlddhclaa.Ck
