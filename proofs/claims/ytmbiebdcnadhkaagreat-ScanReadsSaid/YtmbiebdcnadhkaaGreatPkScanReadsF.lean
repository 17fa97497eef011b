/- The parts of this proof, one after the other (wip/tools/packall.py, shake.py). -/
import Derived.Test.YtmbiebdcnadhkaaGreatPkScanReadsE
import Derived.IntWalk
import Derived.Test.YtmbiebdcnadhkaaGreatPkScanReadsC
import Derived.Lib.MinMax
import Derived.Test.YtmbiebdcnadhkaaGreatPkScanReadsB
import Derived.Shelf.SlSortCmp.WholeK
set_option linter.unusedVariables false
set_option linter.unusedSimpArgs false
namespace Go.Proofs.YtmbiebdcnadhkaaGreat.Fl
open Go.RowKit Go.Proofs.YtmbiebdcnadhkaaGreatW.PrintWords Go.Proofs.YtmbiebdcnadhkaaGreatW.PrintMore Go.Maps
def EntPost (w : World) (r : En × Int) (e : Ending) (w' : World) : Prop :=
 ∃ v, e = .returned (.tuple #[.agg #[.int .i64 r.1.a, .int .i64 r.1.b, .int .u64 r.1.seq, .int .i64 r.1.pages, .int .u8 r.1.kind, v], .int .i64 r.2]) ∧ Dat w' w.heap.size (fun k => w.heap.size ≤ k) v r.1.data ∧ Below w.heap.size w w'
theorem ent_cells {X : World} {g : Nat} {T : TypeId} {c0 c1 c2 c3 c4 c5 : Value} (h : X.heap[g]? = some (.cells #[c0, c1, c2, c3, c4, c5] T (0, 0))) :
  X.cell? ⟨g, 0, none⟩ = some c0 ∧ X.cell? ⟨g, 1, none⟩ = some c1 ∧ X.cell? ⟨g, 2, none⟩ = some c2 ∧ X.cell? ⟨g, 3, none⟩ = some c3 ∧ X.cell? ⟨g, 4, none⟩ = some c4 ∧ X.cell? ⟨g, 5, none⟩ = some c5 ∧
  X.frozen? ⟨g, 0, none⟩ = false ∧ X.frozen? ⟨g, 1, none⟩ = false ∧ X.frozen? ⟨g, 2, none⟩ = false ∧ X.frozen? ⟨g, 3, none⟩ = false ∧ X.frozen? ⟨g, 4, none⟩ = false ∧ X.frozen? ⟨g, 5, none⟩ = false :=
 ⟨bcell h 0, bcell h 1, bcell h 2, bcell h 3, bcell h 4, bcell h 5, bfrozen h 0, bfrozen h 1, bfrozen h 2, bfrozen h 3, bfrozen h 4, bfrozen h 5⟩
theorem set6 {B : Nat} {w X : World} {g : Nat} (h : Below B w X) (hg : B ≤ g) (c0 c1 c2 c3 c4 c5 : Value) : Below B w ((((((X.setCell ⟨g, 0, none⟩ c0).setCell ⟨g, 1, none⟩ c1).setCell ⟨g, 2, none⟩ c2).setCell ⟨g, 3, none⟩ c3).setCell ⟨g, 4, none⟩ c4).setCell ⟨g, 5, none⟩ c5) :=
 (((((h.setCell hg c0).setCell hg c1).setCell hg c2).setCell hg c3).setCell hg c4).setCell hg c5
theorem set6_blk {X : World} {g : Nat} {T : TypeId} {o0 o1 o2 o3 o4 o5 : Value} (h : X.heap[g]? = some (.cells #[o0, o1, o2, o3, o4, o5] T (0, 0))) (c0 c1 c2 c3 c4 c5 : Value) :
  ((((((X.setCell ⟨g, 0, none⟩ c0).setCell ⟨g, 1, none⟩ c1).setCell ⟨g, 2, none⟩ c2).setCell ⟨g, 3, none⟩ c3).setCell ⟨g, 4, none⟩ c4).setCell ⟨g, 5, none⟩ c5).heap[g]? = some (.cells #[c0, c1, c2, c3, c4, c5] T (0, 0)) :=
 bset (bset (bset (bset (bset (bset h 0 c0) 1 c1) 2 c2) 3 c3) 4 c4) 5 c5
theorem post_world {P : Program} {f : Func} {Q : Ending → World → Prop} {ex : Exit} {a : Act} {W : World} (Pr : World → Prop) (h : Pr W) (k : ∀ Y, Pr Y → bodyPost P f Q ex a Y) : bodyPost P f Q ex a W := k W h
def EndE (w : World) (e : En) (v : Value) (Y : World) : Prop := Y.heap[w.heap.size + 1]? = some (.cells #[.int .i64 e.a, .int .i64 e.b, .int .u64 e.seq, .int .i64 e.pages, .int .u8 e.kind, v] TE (0, 0)) ∧ Dat Y w.heap.size (fun k => w.heap.size ≤ k) v e.data ∧ Below w.heap.size w Y
theorem EndE.zero {w X : World} {o0 o1 o2 o3 o4 o5 : Value} (h : X.heap[w.heap.size + 1]? = some (.cells #[o0, o1, o2, o3, o4, o5] TE (0, 0))) (hb : Below w.heap.size w X) :
  EndE w zEn (.slice none 0 0) ((((((X.setCell ⟨w.heap.size + 1, 0, none⟩ (.int .i64 0)).setCell ⟨w.heap.size + 1, 1, none⟩ (.int .i64 0)).setCell ⟨w.heap.size + 1, 2, none⟩ (.int .u64 0)).setCell ⟨w.heap.size + 1, 3, none⟩ (.int .i64 0)).setCell ⟨w.heap.size + 1, 4, none⟩ (.int .u8 0)).setCell ⟨w.heap.size + 1, 5, none⟩ (.slice none 0 0)) :=
 ⟨set6_blk h _ _ _ _ _ _, Dat.nil _ _ _, set6 hb (by omega) _ _ _ _ _ _⟩
theorem EndE.alloc {w X : World} {e : En} {v : Value} (h : EndE w e v X) (o : Obj) : EndE w e v (X.alloc o) :=
 ⟨(Below.heap_alloc _ _ _ (blt h.1)).trans h.1, h.2.1.below (below_alloc (Below.refl _ _) _), below_alloc h.2.2 _⟩
theorem EndE.drew {w X : World} {e : En} {v : Value} (h : EndE w e v X) : EndE w e v X.drew :=
 ⟨h.1, h.2.1.below ((Below.refl _ X).drew), h.2.2.drew⟩
theorem EndE.put {w X : World} {o0 o1 o2 o3 o4 o5 v : Value} (e : En) (h : X.heap[w.heap.size + 1]? = some (.cells #[o0, o1, o2, o3, o4, o5] TE (0, 0))) (hb : Below w.heap.size w X) (hd : Dat X w.heap.size (fun k => w.heap.size ≤ k) v e.data) :
  EndE w e v ((((((X.setCell ⟨w.heap.size + 1, 0, none⟩ (.int .i64 e.a)).setCell ⟨w.heap.size + 1, 1, none⟩ (.int .i64 e.b)).setCell ⟨w.heap.size + 1, 2, none⟩ (.int .u64 e.seq)).setCell ⟨w.heap.size + 1, 3, none⟩ (.int .i64 e.pages)).setCell ⟨w.heap.size + 1, 4, none⟩ (.int .u8 e.kind)).setCell ⟨w.heap.size + 1, 5, none⟩ v) := by
 refine ⟨set6_blk h _ _ _ _ _ _, hd.typed (fun k cs hk _ => ?_), set6 hb (by omega) _ _ _ _ _ _⟩
 have hne : k ≠ w.heap.size + 1 := not_typ h (by decide) hk
 rw [Below.heap_setCell _ _ _ _ hne, Below.heap_setCell _ _ _ _ hne, Below.heap_setCell _ _ _ _ hne, Below.heap_setCell _ _ _ _ hne, Below.heap_setCell _ _ _ _ hne, Below.heap_setCell _ _ _ _ hne]
section
variable {N0 p : Nat} {D : PD} {w : World} {ok : Nat → Prop}
set_option maxHeartbeats 2000000 in
set_option maxRecDepth 100000 in
theorem Read_ent (hD : DevIs N0 p D ok w) (hby : BytD D) (a b : Int) : Calls Tryz.prog 47 #[.pointer (some ⟨p, 0, none⟩), .agg #[.int .i64 a, .int .i64 b]] w (EntPost w (entD D a b)) := by
 have hs : ShapeOk D.s := by
  obtain ⟨m, v, es, ck, hD⟩ := hD
  exact hD.shape
 obtain ⟨W, hW⟩ : ∃ W, W = (w.alloc (.cells #[.int .i64 a, .int .i64 b] TA)).alloc (.cells #[.int .i64 0, .int .i64 0, .int .u64 0, .int .i64 0, .int .u8 0, .slice none 0 0] TE) := ⟨_, rfl⟩
 have q0 : W.heap[w.heap.size]? = some (.cells #[.int .i64 a, .int .i64 b] TA (0, 0)) := by
  rw [hW]; exact (Below.heap_alloc _ _ _ (by simp)).trans (blk_new w _)
 have q1 : W.heap[w.heap.size + 1]? = some (.cells #[.int .i64 0, .int .i64 0, .int .u64 0, .int .i64 0, .int .u8 0, .slice none 0 0] TE (0, 0)) := by
  rw [hW]; have := blk_new (w.alloc (.cells #[.int .i64 a, .int .i64 b] TA)) (.cells #[.int .i64 0, .int .i64 0, .int .u64 0, .int .i64 0, .int .u8 0, .slice none 0 0] TE); rwa [World.size_alloc] at this
 have qb : Below w.heap.size w W := by rw [hW]; exact below_alloc (below_alloc (Below.refl _ _) _) _
 have hbox : ∀ X : World, Below W.heap.size W X → X.heap[w.heap.size]? = some (.cells #[.int .i64 a, .int .i64 b] TA (0, 0)) ∧ X.heap[w.heap.size + 1]? = some (.cells #[.int .i64 0, .int .i64 0, .int .u64 0, .int .i64 0, .int .u8 0, .slice none 0 0] TE (0, 0)) := fun X hX =>
  ⟨(hX.block _ (blt q0)).trans q0, (hX.block _ (blt q1)).trans q1⟩
 have hth := there_any (hD.below qb) a b
 have hraw := fun (X : World) (hX : Below W.heap.size W X) => Raw_any ((hD.below qb).below hX) a b
 have hshape := fun (X : World) (hX : Below W.heap.size W X) => Shape_any ((hD.below qb).below hX)
 have k0 : W.cell? ⟨w.heap.size, 0, none⟩ = some (.int .i64 a) := bcell q0 0
 have k1 : W.cell? ⟨w.heap.size, 1, none⟩ = some (.int .i64 b) := bcell q0 1
 have hrl : (rawD D a b).length ≤ 16384 := by
  have h1 := rawK_len (b := b) (gotD_len hD a) (nRaw D.s a b)
  have h2 := nRaw_le hs a b
  unfold rawD
  omega
 have hrb := hby.raw a b
 have HBOX := Lib.hid hbox
 have HTH := Lib.hid hth
 have HRAW := Lib.hid hraw
 have HSHP := Lib.hid hshape
 have HS := Lib.hid hs
 have HRL := Lib.hid hrl
 have HRB := Lib.hid hrb
 have HW := Lib.hid hW
 have QB := Aside0.mk qb
 have QS := Lib.hid (show w.heap.size + 1 < W.heap.size from blt q1)
 clear hbox hth hraw hshape hs hrl hrb hW qb q0 q1 hD hby
 cases hb : hasB D.s a b with
 | false =>
  have hE : entD D a b = (zEn, 6) := by unfold entD entL; rw [if_pos hb]
  have hTE : hasE D.s a b = 6 := by unfold hasE; rw [hb]; rfl
  have HTE := Lib.hid hTE
  rw [hE]
  clear hE hTE hb
  go_enter Tryz.func47, Tryz.ntmps47
  go_wp2_with fail
  rw [← HW.out]
  go_wp2_with (go_at_call 88; (with_reducible refine HTH.out.mono ?_); rw [HTE.out]; rintro e w1 ⟨rfl, hb⟩; obtain ⟨z0, z1⟩ := HBOX.out _ hb; obtain ⟨t0, t1, t2, t3, t4, t5, f0, f1, f2, f3, f4, f5⟩ := ent_cells z1; have HB1 := Aside0.mk hb; have Z1 := Lib.hid z1; clear hb z0 z1)
  refine post_world (EndE w zEn (.slice none 0 0)) (EndE.zero Z1.out (QB.out.trans (HB1.out.mono QB.out.size))) ?_
  rintro Y ⟨y, hd, hb⟩
  obtain ⟨t0, t1, t2, t3, t4, t5, -⟩ := ent_cells y
  exact bodyPost_ret (v := .tuple #[.agg #[.int .i64 0, .int .i64 0, .int .u64 0, .int .i64 0, .int .u8 0, .slice none 0 0], .int .i64 6]) (by simp [results, Tryz.results47, go_sem, t0, t1, t2, t3, t4, t5, zEn]) rfl ⟨_, rfl, hd, hb⟩
 | true =>
  have hTE : hasE D.s a b = 0 := by unfold hasE; rw [hb]; rfl
  have HTE := Lib.hid hTE
  obtain ⟨n, hn⟩ : ∃ n, n = (rawD D a b).length := ⟨_, rfl⟩
  have hget := fun (X : World) (A : Option Addr) (c : Nat) (hC : kB.C X A n (rawD D a b)) (hc : n ≤ c) => Get_ok (w := X) (A := A) (c := c) HRB.out (by have := HRL.out; omega) (by rw [← hn]; exact hC) (by rw [← hn]; exact hc)
  rw [← hn] at hget
  have hraw := HRAW.out
  rw [← hn] at hraw
  have HRW := Lib.hid hraw
  have hnl : n ≤ 16384 := by have := HRL.out; omega
  have hP : entD D a b = if (parsed (rawD D a b)).2.2.2.2 = 0 then (⟨a, b, (parsed (rawD D a b)).2.1, (kpg D.s ((parsed (rawD D a b)).2.2.2.1 - 16).toNat : Int), (parsed (rawD D a b)).1, (parsed (rawD D a b)).2.2.1⟩, 0) else (zEn, (parsed (rawD D a b)).2.2.2.2) := by unfold entD entL; rw [if_neg (by rw [hb]; decide)]
  have hok : (parsed (rawD D a b)).2.2.2.2 = 0 → ParsedN (rawD D a b) (parsed (rawD D a b)).2.2.2.1 (parsed (rawD D a b)).2.2.1 := fun h => parsed_n h
  clear hTE hn hraw hb HRAW
  rw [hP]
  clear hP
  generalize hPE : parsed (rawD D a b) = P at hget hok ⊢
  obtain ⟨kd, sq, d, pn, er⟩ := P
  simp only at hget hok ⊢
  have HGET := Lib.hid hget
  clear hget
  by_cases he : er = 0
  ·subst he
   obtain ⟨m, hm1, hm2, hm3, hm4⟩ := hok rfl
   obtain ⟨nb, hnb⟩ := Int.eq_ofNat_of_zero_le (show 0 ≤ D.s.2.2 by have := HS.out.c0; omega)
   have hnb0 : 16 ≤ nb := by have := HS.out.c0; omega
   have hnb1 : nb ≤ 256 := by have := HS.out.c1; omega
   have hkp : (((m : Int) + 16 + (nb : Int) - 1) / (nb : Int)) = (kpg D.s (pn - 16).toNat : Int) := by
    unfold kpg
    rw [hnb, hm1]
    simp only [Int.toNat_natCast, Int.add_sub_cancel]
    rw [Int.natCast_ediv]
    congr 1
    omega
   have hshp := HSHP.out
   rw [hnb] at hshp
   rw [if_pos rfl]
   subst hm1
   have HKP := Lib.hid hkp
   have HSH := Lib.hid hshp
   have HM3 := Lib.hid hm3
   have HM4 := Lib.hid hm4
   have hw1 : IntKind.i64.wrap ((m : Int) + 16 + (nb : Int)) = (m : Int) + 16 + (nb : Int) := IntWalk.i64_in _ (by omega)
   have hw2 : IntKind.i64.wrap ((m : Int) + 16 + (nb : Int) - 1) = (m : Int) + 16 + (nb : Int) - 1 := IntWalk.i64_in _ (by omega)
   have HW1 := Lib.hid hw1
   have HW2 := Lib.hid hw2
   have rs := fun (X : World) => run_shape3 X D.s.1 D.s.2.1 (nb : Int)
   clear hPE hok hshp hkp hnb HSHP hm3 hm4 hw1 hw2
   go_enter Tryz.func47, Tryz.ntmps47
   go_wp2_with fail
   rw [← HW.out]
   go_wp2_with (first
    | (go_at_call 88; (with_reducible refine HTH.out.mono ?_); rw [HTE.out]; rintro e w1 ⟨rfl, hb⟩; obtain ⟨z0, z1⟩ := HBOX.out _ hb; have k0 : w1.cell? ⟨w.heap.size, 0, none⟩ = some (.int .i64 a) := bcell z0 0; have k1 : w1.cell? ⟨w.heap.size, 1, none⟩ = some (.int .i64 b) := bcell z0 1; have HB1 := Aside0.mk hb; clear hb z0 z1)
    | (go_at_call 90; (with_reducible refine (HRW.out _ HB1.out).mono ?_); rintro e w2 ⟨A2, c2, rfl, hc2, hC2, hb⟩; have HB2 := Aside0.mk (HB1.out.trans (hb.mono HB1.out.size)); have HC2 := Aside0.mk hC2; have HCC := Lib.hid hc2; clear hb hC2 hc2)
    | (go_at_call 89; (with_reducible refine (HGET.out _ _ _ HC2.out HCC.out).mono ?_); rintro e w3 ⟨v3, rfl, hd3, hb⟩; obtain ⟨A3, c3, rfl, -, -⟩ := hd3.reads; have HB3 := Aside0.mk (HB2.out.trans (hb.mono HB2.out.size)); have HD3 := Aside0.mk (Dat.mono (Dat.lower hd3 (Nat.le_trans QB.out.size HB2.out.size)) (fun k hk => Nat.le_trans (Nat.le_trans QB.out.size HB2.out.size) hk)); clear hb hd3)
    | (go_at_call 58; (with_reducible refine (HSH.out _ (below_alloc HB3.out _)).mono ?_); rintro e w4 ⟨rfl, hb⟩; have z2 := (hb.block _ (blt (blk_new _ _))).trans (blk_new _ _); have HB4 := Aside0.mk ((below_alloc HB3.out _).trans (hb.mono (below_alloc HB3.out _).size)); have hz3 : w.heap.size + 1 < w3.heap.size := Nat.lt_of_lt_of_le QS.out HB3.out.size; have HD4 := Aside0.mk (HD3.out.below ((below_alloc (Below.refl _ _) _).trans (hb.mono (by simp)))); obtain ⟨z0, z1⟩ := HBOX.out _ HB4.out; have k0 : w4.cell? ⟨w.heap.size, 0, none⟩ = some (.int .i64 a) := bcell z0 0; have k1 : w4.cell? ⟨w.heap.size, 1, none⟩ = some (.int .i64 b) := bcell z0 1; have g0 : w4.cell? ⟨w3.heap.size, 0, none⟩ = some (.int .u8 kd) := bcell z2 0; have g1 : w4.cell? ⟨w3.heap.size, 1, none⟩ = some (.int .u64 sq) := bcell z2 1; have g2 : w4.cell? ⟨w3.heap.size, 2, none⟩ = some (.slice A3 d.length c3) := bcell z2 2; obtain ⟨t0, t1, t2, t3, t4, t5, f0, f1, f2, f3, f4, f5⟩ := ent_cells z1; have Z1 := Lib.hid z1; clear hb z0 z1 z2))
   clear rs
   have hw1 := HW1.out
   have hw2 := HW2.out
   have hne1 : ¬ w3.heap.size = w.heap.size + 1 := by omega
   have hne2 : ¬ w.heap.size + 1 = w3.heap.size := by omega
   have hi0 : (0 : Int) < (nb : Int) := by omega
   have hi1 : (16 : Int) ≤ (nb : Int) := by omega
   have hi2 : (0 : Int) ≤ (m : Int) + 16 + (nb : Int) - 1 := by omega
   have hi3 : ¬ (nb : Int) = 0 := by omega
   have hi4 : ((nb : Int) == 0) = false := by simp; omega
   have hi5 : ¬ nb = 0 := by omega
   have hq : ((m : Int) + 16 + (nb : Int) - 1).tdiv (nb : Int) = ((m : Int) + 16 + (nb : Int) - 1) / (nb : Int) := Int.tdiv_eq_ediv_of_nonneg hi2
   have hq2 : ((m : Int) + 16 + (nb : Int) - 1) / (nb : Int) ≤ (m : Int) + 16 + (nb : Int) - 1 := Int.ediv_le_self _ hi2
   have hq3 : 0 ≤ ((m : Int) + 16 + (nb : Int) - 1) / (nb : Int) := Int.ediv_nonneg hi2 (by omega)
   have hw5 : IntKind.i64.wrap (((m : Int) + 16 + (nb : Int) - 1) / (nb : Int)) = ((m : Int) + 16 + (nb : Int) - 1) / (nb : Int) := IntWalk.i64_in _ (by omega)
   go_region_held3 (fun w' => w'.cell? ⟨w.heap.size, 0, none⟩ = some (.int .i64 a) ∧ w'.cell? ⟨w.heap.size, 1, none⟩ = some (.int .i64 b) ∧ w'.cell? ⟨w3.heap.size, 0, none⟩ = some (.int .u8 kd) ∧ w'.cell? ⟨w3.heap.size, 1, none⟩ = some (.int .u64 sq) ∧ w'.cell? ⟨w3.heap.size, 2, none⟩ = some (.slice A3 d.length c3)) (go_keep) (fail)
   clear hw1 hw2 hq hq2 hq3 hw5
   go_wp2
   refine post_world (EndE w ⟨a, b, sq, (m + 16 + nb - 1) / nb, kd, d⟩ (.slice A3 d.length c3)) (EndE.drew (EndE.put ⟨a, b, sq, (m + 16 + nb - 1) / nb, kd, d⟩ Z1.out (QB.out.trans (HB4.out.mono QB.out.size)) HD4.out)) ?_
   rintro Y ⟨y, hd, hb⟩
   simp only at y hd
   rw [HKP.out] at y
   obtain ⟨t0, t1, t2, t3, t4, t5, -⟩ := ent_cells y
   exact bodyPost_ret (v := .tuple #[.agg #[.int .i64 a, .int .i64 b, .int .u64 sq, .int .i64 (kpg D.s ((m : Int) + 16 - 16).toNat : Int), .int .u8 kd, .slice A3 d.length c3], .int .i64 0]) (by simp [results, Tryz.results47, go_sem, t0, t1, t2, t3, t4, t5]) rfl ⟨_, rfl, hd, hb⟩
  ·have e1 : (er != 0) = true := bne_iff_ne.2 he
   have HE := Lib.hid he
   rw [if_neg he]
   clear hPE hok he
   go_enter Tryz.func47, Tryz.ntmps47
   go_wp2_with fail
   rw [← HW.out]
   go_wp2_with (first
    | (go_at_call 88; (with_reducible refine HTH.out.mono ?_); rw [HTE.out]; rintro e w1 ⟨rfl, hb⟩; obtain ⟨z0, z1⟩ := HBOX.out _ hb; have k0 : w1.cell? ⟨w.heap.size, 0, none⟩ = some (.int .i64 a) := bcell z0 0; have k1 : w1.cell? ⟨w.heap.size, 1, none⟩ = some (.int .i64 b) := bcell z0 1; have HB1 := Aside0.mk hb; clear hb z0 z1)
    | (go_at_call 90; (with_reducible refine (HRW.out _ HB1.out).mono ?_); rintro e w2 ⟨A2, c2, rfl, hc2, hC2, hb⟩; have HB2 := Aside0.mk (HB1.out.trans (hb.mono HB1.out.size)); have HC2 := Aside0.mk hC2; have HCC := Lib.hid hc2; clear hb hC2 hc2)
    | (go_at_call 89; (with_reducible refine (HGET.out _ _ _ HC2.out HCC.out).mono ?_); rintro e w3 ⟨v3, rfl, hd3, hb⟩; obtain ⟨A3, c3, rfl, -, -⟩ := hd3.reads; have HB3 := Aside0.mk (HB2.out.trans (hb.mono HB2.out.size)); have HD3 := Aside0.mk hd3; obtain ⟨z0, z1⟩ := HBOX.out _ HB3.out; obtain ⟨t0, t1, t2, t3, t4, t5, f0, f1, f2, f3, f4, f5⟩ := ent_cells z1; have hz3 : w.heap.size + 1 < w3.heap.size := blt z1; have Z1 := Lib.hid z1; clear hb hd3 z0 z1))
   refine post_world (EndE w zEn (.slice none 0 0)) ((EndE.zero Z1.out (QB.out.trans (HB3.out.mono QB.out.size))).alloc _) ?_
   rintro Y ⟨y, hd, hb⟩
   obtain ⟨t0, t1, t2, t3, t4, t5, -⟩ := ent_cells y
   exact bodyPost_ret (v := .tuple #[.agg #[.int .i64 0, .int .i64 0, .int .u64 0, .int .i64 0, .int .u8 0, .slice none 0 0], .int .i64 er]) (by simp [results, Tryz.results47, go_sem, t0, t1, t2, t3, t4, t5, zEn]) rfl ⟨_, rfl, hd, hb⟩
end
end Go.Proofs.YtmbiebdcnadhkaaGreat.Fl
namespace Go.Proofs.YtmbiebdcnadhkaaGreat.Fl
open Go.RowKit Go.Proofs.YtmbiebdcnadhkaaGreatW.PrintWords Go.Proofs.YtmbiebdcnadhkaaGreatW.PrintMore Go.Maps
def ScanPost (w : World) (r : Int × List En × Bool) (e : Ending) (w' : World) : Prop :=
 ∃ v, e = .returned (.tuple #[.int .u64 r.1, v, .bool r.2.2]) ∧ kEnt.R TE w' w.heap.size (fun k => w.heap.size ≤ k) v r.2.1 ∧ Below w.heap.size w w'
theorem ent_pages {s : Int × Int × Int} (hs : ShapeOk s) {a b : Int} {raw : List Int} (h : (entL s a b raw).2 = 0) : 1 ≤ (entL s a b raw).1.pages ∧ (entL s a b raw).1.pages ≤ 257 := by
 unfold entL at h ⊢
 by_cases hb : hasB s a b = false
 ·rw [if_pos hb] at h; cases h
 ·rw [if_neg hb] at h ⊢
  by_cases hp : (parsed raw).2.2.2.2 = 0
  ·rw [if_pos hp] at h ⊢
   obtain ⟨m, h1, h2, _, _⟩ := parsed_n hp
   have := kpg_bd hs (n := m) h2
   simp only [h1, show ((m : Int) + 16 - 16).toNat = m by omega]
   omega
  ·rw [if_neg hp] at h
   exact absurd h hp
theorem scanF_end {E : Int → En × Int} {n sq : Int} {f : Nat} {page : Int} (h : ¬ (0 ≤ page ∧ page < n)) : scanF E n sq f page = [] := by
 cases f with
 | zero => rfl
 | succ f => rw [scanF, if_neg h]
theorem scanF_bad {E : Int → En × Int} {n sq : Int} {f : Nat} {page : Int} (h : (E page).2 ≠ 0 ∨ (E page).1.kind = 1 ∨ (E page).1.seq ≠ sq) : scanF E n sq f page = [] := by
 cases f with
 | zero => rfl
 | succ f =>
  rw [scanF]
  by_cases h0 : 0 ≤ page ∧ page < n
  ·rw [if_pos h0, if_pos h]
  ·rw [if_neg h0]
theorem scanF_good {E : Int → En × Int} {n sq : Int} {f : Nat} {page : Int} (h0 : 0 ≤ page ∧ page < n) (h1 : (E page).2 = 0) (h2 : (E page).1.kind ≠ 1) (h3 : (E page).1.seq = sq) : scanF E n sq (f + 1) page = (E page).1 :: scanF E n sq f (page + (E page).1.pages) := by
 rw [scanF, if_pos h0, if_neg]
 rintro (h | h | h)
 ·exact h h1
 ·exact h2 h
 ·exact h h3
theorem ent_app {W : World} {N0 : Nat} {ok : Nat → Prop} {v : Value} {L : List En} (hR : kEnt.R TE W N0 ok v L) {u : Value} {e : En} (hrow : Dat W N0 ok u e.data) :
  ∃ okp : Nat → Prop, kEnt.M W N0 okp e (enC e u) ∧ ∀ k, okp k → ok k ∧ some k ≠ v.ownBlock := by
 refine ⟨_, ⟨u, rfl, hrow.bound⟩, fun k hk => ⟨hk.1, fun e => ?_⟩⟩
 obtain ⟨_, _, _, q, hq, cs, hc⟩ := hk
 obtain rfl : q = TB := by simpa using hq
 obtain ⟨cs', hc'⟩ := own_typed (Kd.R_own hR).choose_spec k e.symm
 exact typ_ne hc hc' (by decide) rfl
theorem scan_app {w4 : World} {B g1 : Nat} {v u : Value} {l : List En} {cs1 : Array Value} (e : En) (hH : w4.heap[g1]? = some (.cells cs1 TE (0, 0))) (hR : kEnt.R TE w4 B (fun k => B ≤ k ∧ k ≠ g1) v l) (hD : Dat w4 B (fun k => B ≤ k) u e.data) (o : Obj) :
  kEnt.R TE (w4.alloc o) B (fun k => (B ≤ k ∧ k ≠ g1) ∧ k ≠ w4.heap.size) v l ∧ ∃ okp : Nat → Prop, kEnt.M (w4.alloc o) B okp e (enC e u) ∧ ∀ k, okp k → ((B ≤ k ∧ k ≠ g1) ∧ k ≠ w4.heap.size) ∧ some k ≠ v.ownBlock := by
 have h1 : kEnt.R TE (w4.alloc o) B (fun k => (B ≤ k ∧ k ≠ g1) ∧ k ≠ w4.heap.size) v l := Kd.R_below (Kd.R_mono (Kd.R_bound hR) (fun k hk => ⟨hk.1, by have := hk.2.2.1; omega⟩)) (below_alloc (Below.refl _ _) _)
 refine ⟨h1, ent_app h1 ((hD.bound.mono (fun k hk => ?_)).below (below_alloc (Below.refl _ _) _))⟩
 obtain ⟨a1, _, a3, q, hq, cs, hc⟩ := hk
 obtain rfl : q = TB := by simpa using hq
 exact ⟨⟨a1, not_typ hH (by decide) hc⟩, by omega⟩
theorem own_ne {w : World} {B : Nat} {ok : Nat → Prop} {v : Value} {l : List En} (h : kEnt.R TE w B ok v l) {k : Nat} (hk : ¬ ok k) : some k ≠ v.ownBlock := fun e => hk (h.1 k e.symm)
section
variable {N0 p : Nat} {D : PD} {w : World} {ok : Nat → Prop}
set_option maxHeartbeats 4000000 in
set_option maxRecDepth 100000 in
theorem Scan_ent (hD : DevIs N0 p D ok w) (hby : BytD D) (a : Int) : Calls Tryz.prog 51 #[.pointer (some ⟨p, 0, none⟩), .int .i64 a] w (ScanPost w (scanD D a)) := by
 have hs : ShapeOk D.s := by
  obtain ⟨m, v, es, ck, hD⟩ := hD
  exact hD.shape
 have hpg : ∀ x, (entD D a x).2 = 0 → 1 ≤ (entD D a x).1.pages ∧ (entD D a x).1.pages ≤ 257 := fun x h => ent_pages hs h
 have hrd := fun (X : World) (hX : Below w.heap.size w X) (x : Int) => Read_ent (hD.below hX) hby a x
 have hshape := fun (X : World) (hX : Below w.heap.size w X) => Shape_any (hD.below hX)
 unfold scanD
 obtain ⟨E, hE⟩ : ∃ E, E = entD D a := ⟨_, rfl⟩
 rw [← hE] at hpg ⊢
 have hrd : ∀ (X : World), Below w.heap.size w X → ∀ x : Int, Calls Tryz.prog 47 #[.pointer (some ⟨p, 0, none⟩), .agg #[.int .i64 a, .int .i64 x]] X (EntPost X (E x)) := by rw [hE]; exact hrd
 obtain ⟨n, hn⟩ := Int.eq_ofNat_of_zero_le (show 0 ≤ D.s.2.1 by have := hs.b0; omega)
 have hn0 : 1 ≤ n := by have := hs.b0; omega
 have hn1 : n ≤ 64 := by have := hs.b1; omega
 rw [hn] at hshape ⊢
 have HRD := Lib.hid hrd
 have HSHP := Lib.hid hshape
 have HPG := Lib.hid hpg
 clear hpg hrd hshape hs hD hby hE hn
 unfold scanL
 rcases hh : E 0 with ⟨⟨ha, hb, hsq, hpgs, hkd, hdt⟩, her⟩
 have hr0 := HRD.out w (Below.refl _ _) 0
 have hp0 := HPG.out 0
 rw [hh] at hr0 hp0
 simp only at hp0 ⊢
 have HR0 := Lib.hid hr0
 have HP0 := Lib.hid hp0
 clear hr0 hp0 hh
 by_cases c1 : her = 0
 ·subst c1
  by_cases c2 : hkd = 1
  ·subst c2
   by_cases c3 : 0 < hdt.length
   ·rw [if_pos (.inr (.inr c3))]
    have e3 : decide ((0 : Int) < (hdt.length : Int)) = true := by simp; omega
    have C3 := Lib.hid c3
    clear c3 HP0
    go_enter Tryz.func51, Tryz.ntmps51
    go_wp2_with fail
    go_step3
    go_wp2_with (go_at_call 47; (with_reducible refine HR0.out.mono ?_); rintro e w1 ⟨v1, rfl, hd1, hb1⟩; obtain ⟨A1, c1, rfl, -, -⟩ := hd1.reads; have HB1 := Aside0.mk hb1; clear hb1 hd1)
    try rw [Exit.noGoto_ret]
    go_ret3
    exact ⟨_, rfl, Kd.R_nil _ _ _ _ _, below_alloc HB1.out _⟩
   ·obtain ⟨hp1, hp2⟩ := HP0.out rfl
    have hdt0 : hdt = [] := List.eq_nil_of_length_eq_zero (by omega)
    subst hdt0
    rw [if_neg (by simp)]
    obtain ⟨L, hL⟩ : ∃ L, L = scanF E (n : Int) hsq 64 hpgs := ⟨_, rfl⟩
    rw [← hL]
    have HL := Lib.hid hL
    clear hL c3 HP0
    go_enter Tryz.func51, Tryz.ntmps51
    go_wp2_with fail
    go_step3
    go_wp2_with (go_at_call 47; (with_reducible refine HR0.out.mono ?_); rintro e w1 ⟨v1, rfl, hd1, hb1⟩; obtain ⟨A1, c1, rfl, -, -⟩ := hd1.reads; have HB1 := Aside0.mk hb1; clear hb1 hd1)
    go_step3
    go_wp2_with fail
    go_loopw [9, 10] (fun v9 v10 wr => ∃ (f : Nat) (page : Int) (l : List En), v10 = .int .i64 page ∧ 1 ≤ page ∧ page ≤ 321 ∧ kEnt.R TE wr w.heap.size (fun k => w.heap.size ≤ k ∧ k ≠ w1.heap.size) v9 l ∧ L = l ++ scanF E (n : Int) hsq f page ∧ (n : Int) - page ≤ f ∧ (l.length : Int) ≤ page ∧ Below w.heap.size w wr ∧ wr.heap[w1.heap.size]? = some (.cells #[.int .i64 ha, .int .i64 hb, .int .u64 hsq, .int .i64 hpgs, .int .u8 1, .slice A1 0 c1] TE (0, 0))) (fun _ v10 _ => ((n : Int) - intOf v10).toNat)
    case atStart => exact ⟨64, hpgs, [], rfl, hp1, by omega, Kd.R_nil _ _ _ _ _, by rw [HL.out]; rfl, by omega, by simp; omega, below_alloc HB1.out _, blk_new _ _⟩
    case round =>
     have rs := fun (X : World) => run_shape2 X D.s.1 (n : Int) D.s.2.2
     obtain ⟨f, page, l, rfl, hpa, hpb, hR, hLL, hf, hll, hb, hH⟩ := hrel
     obtain ⟨A9, c9, rfl⟩ := Kd.R_slice hR
     have HR := Aside0.mk hR
     have HLL := Lib.hid hLL
     have HB := Aside0.mk hb
     have HH := Lib.hid hH
     have HLT := Lib.hid hll
     obtain ⟨y0, y1, y2, y3, y4, y5, -⟩ := ent_cells hH
     clear hR hLL hb hH hll
     by_cases hlt : page < (n : Int)
     ·have hfit : fitsB page 0 ((n : Int) - 1) = true := by unfold fitsB; rw [decide_eq_true_iff]; omega
      have HFIT := Lib.hid hfit
      clear hfit y0 y1 y2 y3 y4 y5
      rcases hx : E page with ⟨⟨xa, xb, xsq, xpg, xkd, xdt⟩, xer⟩
      have hrx := fun (X : World) (hX : Below w.heap.size w X) => HRD.out X hX page
      rw [hx] at hrx
      have HRX := Lib.hid hrx
      have HX := Lib.hid hx
      clear hrx hx
      by_cases x1 : xer = 0
      ·subst x1
       by_cases x2 : xkd = 1
       ·subst x2
        have HBAD := Lib.hid (show (E page).2 ≠ 0 ∨ (E page).1.kind = 1 ∨ (E page).1.seq ≠ hsq from .inr (.inl (by rw [HX.out])))
        go_wp2_with (first
         | (go_at_call 58; (with_reducible refine (HSHP.out _ HB.out).mono ?_); rintro e w2 ⟨rfl, hb2⟩; have HB2 := Aside0.mk (HB.out.trans (hb2.mono HB.out.size)); have HR2 := Aside0.mk (Kd.R_below HR.out hb2); have HH2 := Lib.hid ((hb2.block _ (blt HH.out)).trans HH.out); clear hb2)
         | (go_at_call 91; (with_reducible refine (Fits_any _ _ _ _).mono ?_); rw [HFIT.out]; rintro e w3 ⟨rfl, rfl⟩)
         | (go_at_call 47; (with_reducible refine (HRX.out _ HB2.out).mono ?_); rintro e w4 ⟨v4, rfl, hd4, hb4⟩; obtain ⟨A4, c4, rfl, -, -⟩ := hd4.reads; have HB4 := Aside0.mk (HB2.out.trans (hb4.mono HB2.out.size)); have HR4 := Aside0.mk (Kd.R_below HR2.out hb4); have h4 := (hb4.block _ (blt HH2.out)).trans HH2.out; obtain ⟨y0, y1, y2, y3, y4, y5, -⟩ := ent_cells h4; have HH4 := Lib.hid h4; have HD4 := Aside0.mk (Dat.mono (Dat.lower hd4 HB2.out.size) (fun k hk => Nat.le_trans HB2.out.size hk)); have hz4 : w1.heap.size < w4.heap.size := blt h4; clear hb4 hd4 h4))
        try rw [Exit.noGoto_ret]
        go_ret3
        rw [HLL.out, scanF_bad HBAD.out, List.append_nil]
        exact ⟨_, rfl, Kd.R_below (Kd.R_mono HR4.out (fun k hk => hk.1)) (below_alloc (Below.refl _ _) _), below_alloc HB4.out _⟩
       ·have e2 : (xkd == 1) = false := by simpa using x2
        by_cases x3 : xsq = hsq
        ·subst x3
         have hpx := HPG.out page
         rw [HX.out] at hpx
         obtain ⟨hq1, hq2⟩ := hpx rfl
         simp only at hq1 hq2
         obtain ⟨f, rfl⟩ : ∃ f', f = f' + 1 := ⟨f - 1, by omega⟩
         have hgood := scanF_good (E := E) (n := (n : Int)) (sq := xsq) (f := f) (page := page) ⟨by omega, hlt⟩ (by rw [HX.out]) (by rw [HX.out]; exact x2) (by rw [HX.out])
         rw [HX.out] at hgood
         simp only at hgood
         have HGOOD := Lib.hid hgood
         clear hgood hpx x2
         go_wp2_with (first
          | (go_at_call 58; (with_reducible refine (HSHP.out _ HB.out).mono ?_); rintro e w2 ⟨rfl, hb2⟩; have HB2 := Aside0.mk (HB.out.trans (hb2.mono HB.out.size)); have HR2 := Aside0.mk (Kd.R_below HR.out hb2); have HH2 := Lib.hid ((hb2.block _ (blt HH.out)).trans HH.out); clear hb2)
          | (go_at_call 91; (with_reducible refine (Fits_any _ _ _ _).mono ?_); rw [HFIT.out]; rintro e w3 ⟨rfl, rfl⟩)
          | (go_at_call 47; (with_reducible refine (HRX.out _ HB2.out).mono ?_); rintro e w4 ⟨v4, rfl, hd4, hb4⟩; obtain ⟨A4, c4, rfl, -, -⟩ := hd4.reads; have HB4 := Aside0.mk (HB2.out.trans (hb4.mono HB2.out.size)); have hr4 := Kd.R_below HR2.out hb4; have h4 := (hb4.block _ (blt HH2.out)).trans HH2.out; obtain ⟨y0, y1, y2, y3, y4, y5, -⟩ := ent_cells h4; have hz4 : w1.heap.size < w4.heap.size := blt h4; obtain ⟨hr5, okp, hm5, hok5⟩ := scan_app ⟨xa, xb, xsq, xpg, xkd, xdt⟩ h4 hr4 (Dat.mono (Dat.lower hd4 HB2.out.size) (fun k hk => Nat.le_trans HB2.out.size hk)) (.cells #[.int .i64 xa, .int .i64 xb, .int .u64 xsq, .int .i64 xpg, .int .u8 xkd, .slice A4 xdt.length c4] TE); have HR5 := Aside0.mk hr5; have HM5 := Aside0.mk hm5; have HOK5 := Lib.hid hok5; have HB5 := Aside0.mk (below_alloc HB4.out (.cells #[.int .i64 xa, .int .i64 xb, .int .u64 xsq, .int .i64 xpg, .int .u8 xkd, .slice A4 xdt.length c4] TE)); have HZ4 := Lib.hid h4; clear hb4 hd4 h4 hr4 hr5 hm5 hok5)
          | (at_builtin; refine Kd.R_append kEnt (w0 := w) w.heap.size rfl (.tmp 63) (.tmp 65) 43 TE (.agg #[.int .i64 0, .int .i64 0, .int .u64 0, .int .i64 0, .int .u8 0, .slice none 0 0]) 64 rfl Tryz.underlying43 info_ent rfl (by decide) (by decide) (.slice A9 l.length c9) l ⟨xa, xb, xsq, xpg, xkd, xdt⟩ (enC ⟨xa, xb, xsq, xpg, xkd, xdt⟩ (.slice A4 xdt.length c4)) (fun k => (w.heap.size ≤ k ∧ k ≠ w1.heap.size) ∧ k ≠ w4.heap.size) okp rfl (by simp [Act.eval]) HM5.out HOK5.out (fun k hk => by have := HB4.out.size; have := blt HZ4.out; simp at hk; omega) HR5.out HB5.out HB5.out.size (by have := HLT.out; omega) ?_; intro v6 w6 hr6 hb6 hg6 hat6; have hbx := (hg6.block w4.heap.size (by simp) (own_ne HR5.out (by simp))).trans (blk_new w4 _); have hb1 := (hg6.block w1.heap.size (by simp; omega) (own_ne HR5.out (by simp))).trans ((Below.heap_alloc _ _ _ (blt HZ4.out)).trans HZ4.out); have HX6 := Lib.hid hbx; have HH6 := Lib.hid hb1; obtain ⟨z0, z1, z2, z3, z4, z5, -⟩ := ent_cells hbx; have HR6 := Aside0.mk hr6; have HB6 := Aside0.mk hb6; clear hr6 hb6 hg6 hat6 hbx hb1 y0 y1 y2 y3 y4 y5))
         refine ⟨⟨f, page + xpg, l ++ [⟨xa, xb, xsq, xpg, xkd, xdt⟩], by go_num, by omega, by omega, Kd.R_mono HR6.out (fun k hk => hk.1), by rw [HLL.out, HGOOD.out]; simp, by omega, by have := HLT.out; simp; omega, HB6.out, HH6.out⟩, by simp [intOf]; omega⟩
        ·have e3 : (xsq != hsq) = true := bne_iff_ne.2 x3
         have HBAD := Lib.hid (show (E page).2 ≠ 0 ∨ (E page).1.kind = 1 ∨ (E page).1.seq ≠ hsq from .inr (.inr (by rw [HX.out]; exact x3)))
         clear x2 x3
         go_wp2_with (first
          | (go_at_call 58; (with_reducible refine (HSHP.out _ HB.out).mono ?_); rintro e w2 ⟨rfl, hb2⟩; have HB2 := Aside0.mk (HB.out.trans (hb2.mono HB.out.size)); have HR2 := Aside0.mk (Kd.R_below HR.out hb2); have HH2 := Lib.hid ((hb2.block _ (blt HH.out)).trans HH.out); clear hb2)
          | (go_at_call 91; (with_reducible refine (Fits_any _ _ _ _).mono ?_); rw [HFIT.out]; rintro e w3 ⟨rfl, rfl⟩)
          | (go_at_call 47; (with_reducible refine (HRX.out _ HB2.out).mono ?_); rintro e w4 ⟨v4, rfl, hd4, hb4⟩; obtain ⟨A4, c4, rfl, -, -⟩ := hd4.reads; have HB4 := Aside0.mk (HB2.out.trans (hb4.mono HB2.out.size)); have HR4 := Aside0.mk (Kd.R_below HR2.out hb4); have h4 := (hb4.block _ (blt HH2.out)).trans HH2.out; obtain ⟨y0, y1, y2, y3, y4, y5, -⟩ := ent_cells h4; have HH4 := Lib.hid h4; have HD4 := Aside0.mk (Dat.mono (Dat.lower hd4 HB2.out.size) (fun k hk => Nat.le_trans HB2.out.size hk)); have hz4 : w1.heap.size < w4.heap.size := blt h4; clear hb4 hd4 h4))
         try rw [Exit.noGoto_ret]
         go_ret3
         rw [HLL.out, scanF_bad HBAD.out, List.append_nil]
         exact ⟨_, rfl, Kd.R_below (Kd.R_mono HR4.out (fun k hk => hk.1)) (below_alloc (Below.refl _ _) _), below_alloc HB4.out _⟩
      ·have e1 : (xer != 0) = true := bne_iff_ne.2 x1
       have HBAD := Lib.hid (show (E page).2 ≠ 0 ∨ (E page).1.kind = 1 ∨ (E page).1.seq ≠ hsq from .inl (by rw [HX.out]; exact x1))
       clear x1
       go_wp2_with (first
        | (go_at_call 58; (with_reducible refine (HSHP.out _ HB.out).mono ?_); rintro e w2 ⟨rfl, hb2⟩; have HB2 := Aside0.mk (HB.out.trans (hb2.mono HB.out.size)); have HR2 := Aside0.mk (Kd.R_below HR.out hb2); have HH2 := Lib.hid ((hb2.block _ (blt HH.out)).trans HH.out); clear hb2)
        | (go_at_call 91; (with_reducible refine (Fits_any _ _ _ _).mono ?_); rw [HFIT.out]; rintro e w3 ⟨rfl, rfl⟩)
        | (go_at_call 47; (with_reducible refine (HRX.out _ HB2.out).mono ?_); rintro e w4 ⟨v4, rfl, hd4, hb4⟩; obtain ⟨A4, c4, rfl, -, -⟩ := hd4.reads; have HB4 := Aside0.mk (HB2.out.trans (hb4.mono HB2.out.size)); have HR4 := Aside0.mk (Kd.R_below HR2.out hb4); have h4 := (hb4.block _ (blt HH2.out)).trans HH2.out; obtain ⟨y0, y1, y2, y3, y4, y5, -⟩ := ent_cells h4; have HH4 := Lib.hid h4; have HD4 := Aside0.mk (Dat.mono (Dat.lower hd4 HB2.out.size) (fun k hk => Nat.le_trans HB2.out.size hk)); have hz4 : w1.heap.size < w4.heap.size := blt h4; clear hb4 hd4 h4))
       try rw [Exit.noGoto_ret]
       go_ret3
       rw [HLL.out, scanF_bad HBAD.out, List.append_nil]
       exact ⟨_, rfl, Kd.R_below (Kd.R_mono HR4.out (fun k hk => hk.1)) (below_alloc (Below.refl _ _) _), below_alloc HB4.out _⟩
     ·have hfit : fitsB page 0 ((n : Int) - 1) = false := by unfold fitsB; rw [decide_eq_false_iff_not]; omega
      have HFIT := Lib.hid hfit
      have HEND := Lib.hid (show ¬ (0 ≤ page ∧ page < (n : Int)) from fun h => hlt h.2)
      clear hfit y0 y1 y2 y3 y4 y5
      go_wp2_with (first
       | (go_at_call 58; (with_reducible refine (HSHP.out _ HB.out).mono ?_); rintro e w2 ⟨rfl, hb2⟩; have HB2 := Aside0.mk (HB.out.trans (hb2.mono HB.out.size)); have HR2 := Aside0.mk (Kd.R_below HR.out hb2); have h2 := (hb2.block _ (blt HH.out)).trans HH.out; obtain ⟨y0, y1, y2, y3, y4, y5, -⟩ := ent_cells h2; clear hb2 h2)
       | (go_at_call 91; (with_reducible refine (Fits_any _ _ _ _).mono ?_); rw [HFIT.out]; rintro e w3 ⟨rfl, rfl⟩))
      try rw [Exit.noGoto_ret]
      go_ret3
      rw [HLL.out, scanF_end HEND.out, List.append_nil]
      exact ⟨_, rfl, Kd.R_mono HR2.out (fun k hk => hk.1), HB2.out⟩
  ·rw [if_pos (.inr (.inl c2))]
   have e2 : (hkd != 1) = true := bne_iff_ne.2 c2
   clear c2 HP0
   go_enter Tryz.func51, Tryz.ntmps51
   go_wp2_with fail
   go_step3
   go_wp2_with (go_at_call 47; (with_reducible refine HR0.out.mono ?_); rintro e w1 ⟨v1, rfl, hd1, hb1⟩; obtain ⟨A1, c1, rfl, -, -⟩ := hd1.reads; have HB1 := Aside0.mk hb1; clear hb1 hd1)
   try rw [Exit.noGoto_ret]
   go_ret3
   exact ⟨_, rfl, Kd.R_nil _ _ _ _ _, below_alloc HB1.out _⟩
 ·rw [if_pos (.inl c1)]
  have e1 : (her != 0) = true := bne_iff_ne.2 c1
  clear c1 HP0
  go_enter Tryz.func51, Tryz.ntmps51
  go_wp2_with fail
  go_step3
  go_wp2_with (go_at_call 47; (with_reducible refine HR0.out.mono ?_); rintro e w1 ⟨v1, rfl, hd1, hb1⟩; obtain ⟨A1, c1, rfl, -, -⟩ := hd1.reads; have HB1 := Aside0.mk hb1; clear hb1 hd1)
  try rw [Exit.noGoto_ret]
  go_ret3
  exact ⟨_, rfl, Kd.R_nil _ _ _ _ _, below_alloc HB1.out _⟩
end
end Go.Proofs.YtmbiebdcnadhkaaGreat.Fl
namespace Go.Proofs.YtmbiebdcnadhkaaGreat.Fl
structure Sound (D : PD) : Prop where
 sh : ShapeOk D.s
 lens : ∀ q ∈ D.mp, q.2.length = D.s.2.2.toNat
theorem DevIs.sound {N0 p : Nat} {D : PD} {ok : Nat → Prop} {w : World} (h : DevIs N0 p D ok w) : Sound D := by
 obtain ⟨m, v, es, ck, h⟩ := h
 exact ⟨h.shape, h.lens⟩
section
variable {D : PD} {a b : Int} {l : List Int}
theorem writeE_zero (h : hasB D.s a b = true) (hl : (l.length : Int) ≤ D.s.2.2) (hu : usedB D a b = false) : writeE D a b l = 0 := by
 unfold writeE
 rw [if_neg (by rw [h]; decide), if_neg (by omega), if_neg (by rw [hu]; decide)]
theorem got_write (h : hasB D.s a b = true) (hl : (l.length : Int) ≤ D.s.2.2) (hu : usedB D a b = false) (c d : Int) :
  gotD (writeD D a b l) c d = if c = a ∧ d = b then full D.s.2.2.toNat l else gotD D c d := by
 have h0 := writeE_zero h hl hu
 unfold gotD
 rw [writeD_s]
 unfold writeD
 rw [if_pos h0]
 unfold readD numB
 simp only
 by_cases hc : c = a ∧ d = b
 ·obtain ⟨rfl, rfl⟩ := hc
  rw [if_pos h, look_put, if_pos rfl, if_pos ⟨rfl, rfl⟩, Option.getD_some, full_full (by omega)]
 ·have hne : ¬ ((c, d) = (a, b)) := fun e => hc ⟨congrArg Prod.fst e, congrArg Prod.snd e⟩
  rw [look_put, if_neg hne, if_neg hc]
theorem used_write (h : hasB D.s a b = true) (hl : (l.length : Int) ≤ D.s.2.2) (hu : usedB D a b = false) (c d : Int) :
  usedB (writeD D a b l) c d = (decide (c = a ∧ d = b) || usedB D c d) := by
 have h0 := writeE_zero h hl hu
 unfold usedB
 rw [writeD_s]
 unfold writeD
 rw [if_pos h0]
 simp only
 by_cases hc : c = a ∧ d = b
 ·obtain ⟨rfl, rfl⟩ := hc
  rw [look_put, if_pos rfl, h]
  simp
 ·have hne : ¬ ((c, d) = (a, b)) := fun e => hc ⟨congrArg Prod.fst e, congrArg Prod.snd e⟩
  rw [look_put, if_neg hne, decide_eq_false hc]
  rfl
def FreeRun (D : PD) (a b : Int) (rs : List (List Int)) : Prop := ∀ i : Nat, i < rs.length → hasB D.s a (b + (i : Int)) = true ∧ usedB D a (b + (i : Int)) = false
theorem FreeRun.head {r : List Int} {rs : List (List Int)} (h : FreeRun D a b (r :: rs)) : hasB D.s a b = true ∧ usedB D a b = false := by
 have := h 0 (by simp)
 simpa using this
theorem FreeRun.tail {r : List Int} {rs : List (List Int)} (h : FreeRun D a b (r :: rs)) (hl : (r.length : Int) ≤ D.s.2.2) : FreeRun (writeD D a b r) a (b + 1) rs := fun i hi => by
 have h1 := h (i + 1) (by simp; omega)
 rw [writeD_s, used_write h.head.1 hl h.head.2]
 rw [show b + 1 + (i : Int) = b + ((i + 1 : Nat) : Int) by omega, h1.2, Bool.or_false]
 exact ⟨h1.1, decide_eq_false (fun hh => by omega)⟩
theorem got_wr : ∀ (rs : List (List Int)) (b : Int) (D : PD), FreeRun D a b rs → (∀ r ∈ rs, (r.length : Int) ≤ D.s.2.2) → ∀ c d : Int, gotD (wrD a b rs D) c d = if c = a ∧ b ≤ d ∧ d < b + rs.length then full D.s.2.2.toNat (rs.getD (d - b).toNat []) else gotD D c d
 | [], b, D, _, _, c, d => by
  rw [if_neg (fun h => by simp at h; omega)]
  rfl
 | r :: rs, b, D, h, hl, c, d => by
  have hr := hl r (by simp)
  show gotD (wrD a (b + 1) rs (writeD D a b r)) c d = _
  rw [got_wr rs (b + 1) (writeD D a b r) (h.tail hr) (fun q hq => by rw [writeD_s]; exact hl q (by simp [hq])), writeD_s, got_write h.head.1 hr h.head.2]
  by_cases h1 : c = a ∧ b + 1 ≤ d ∧ d < b + 1 + rs.length
  ·rw [if_pos h1, if_pos ⟨h1.1, by omega, by simp; omega⟩]
   obtain ⟨k, hk⟩ := Int.eq_ofNat_of_zero_le (show 0 ≤ d - (b + 1) by omega)
   rw [hk, show d - b = ((k + 1 : Nat) : Int) by omega]
   rfl
  ·rw [if_neg h1]
   by_cases h2 : c = a ∧ d = b
   ·rw [if_pos h2, if_pos ⟨h2.1, by omega, by simp; omega⟩, h2.2, Int.sub_self]
    rfl
   ·rw [if_neg h2, if_neg]
    rintro ⟨x1, x2, x3⟩
    simp at x3
    exact h1 ⟨x1, by omega, by omega⟩
theorem used_wr : ∀ (rs : List (List Int)) (b : Int) (D : PD), FreeRun D a b rs → (∀ r ∈ rs, (r.length : Int) ≤ D.s.2.2) → ∀ c d : Int, usedB (wrD a b rs D) c d = (decide (c = a ∧ b ≤ d ∧ d < b + rs.length) || usedB D c d)
 | [], b, D, _, _, c, d => by
  rw [decide_eq_false (fun h => by simp at h; omega)]
  rfl
 | r :: rs, b, D, h, hl, c, d => by
  have hr := hl r (by simp)
  show usedB (wrD a (b + 1) rs (writeD D a b r)) c d = _
  rw [used_wr rs (b + 1) (writeD D a b r) (h.tail hr) (fun q hq => by rw [writeD_s]; exact hl q (by simp [hq])), used_write h.head.1 hr h.head.2, ← Bool.or_assoc, ← Bool.decide_or]
  congr 1
  refine decide_eq_decide.2 ⟨?_, ?_⟩
  ·rintro (⟨x1, x2, x3⟩ | ⟨x1, x2⟩)
   ·exact ⟨x1, by omega, by simp; omega⟩
   ·exact ⟨x1, by omega, by simp; omega⟩
  ·rintro ⟨x1, x2, x3⟩
   simp at x3
   by_cases hd : d = b
   ·exact .inr ⟨x1, hd⟩
   ·exact .inl ⟨x1, by omega, by omega⟩
end
def parts (s : Int × Int × Int) (kd sq : Int) (l : List Int) : List (List Int) := chunkL s.2.2.toNat (rec kd sq l)
theorem nb_pos {s : Int × Int × Int} (hs : ShapeOk s) : 16 ≤ s.2.2.toNat ∧ s.2.2.toNat ≤ 256 ∧ ((s.2.2.toNat : Nat) : Int) = s.2.2 := by
 have := hs.c0
 have := hs.c1
 omega
theorem parts_len {s : Int × Int × Int} (hs : ShapeOk s) (kd sq : Int) (l : List Int) : (parts s kd sq l).length = kpg s l.length := by
 unfold parts kpg
 rw [chunk_len (by have := nb_pos hs; omega), rec_len]
theorem parts_le {s : Int × Int × Int} (hs : ShapeOk s) {kd sq : Int} {l r : List Int} (h : r ∈ parts s kd sq l) : (r.length : Int) ≤ s.2.2 := by
 have h1 := chunk_le (by have := nb_pos hs; omega) r h
 have := nb_pos hs
 omega
structure RecOk (kd sq : Int) (l : List Int) : Prop where
 kd : KindOk kd
 sq : SeqOk sq
 byt : Byt l
 len : l.length ≤ 4096
theorem appE_zero {D : PD} (a b : Int) (n : Nat) : (appE D a b n).2 = 0 ↔ (hasB D.s a b = true ∧ n ≤ 4096 ∧ b + (kpg D.s n : Int) ≤ D.s.2.1 ∧ anyUsedD a b (kpg D.s n) D = false) := by
 unfold appE
 by_cases h1 : hasB D.s a b = false
 ·rw [if_pos h1, h1]; simp
 ·rw [if_neg h1]
  by_cases h2 : 4096 < n
  ·rw [if_pos h2]; simp; omega
  ·rw [if_neg h2]
   by_cases h3 : D.s.2.1 < b + (kpg D.s n : Int)
   ·rw [if_pos h3]; simp; omega
   ·rw [if_neg h3]
    by_cases h4 : anyUsedD a b (kpg D.s n) D = true
    ·rw [if_pos h4, h4]; simp
    ·rw [if_neg h4]
     simp only [Bool.not_eq_false] at h1
     simp only [Bool.not_eq_true] at h4
     simp [h1, h4]; omega
theorem appE_one {D : PD} {a b : Int} {n : Nat} (h : (appE D a b n).2 = 0) : appE D a b n = ((kpg D.s n : Int), 0) := by
 obtain ⟨h1, h2, h3, h4⟩ := (appE_zero a b n).1 h
 unfold appE
 rw [if_neg (by rw [h1]; decide), if_neg (by omega), if_neg (by omega), if_neg (by rw [h4]; decide)]
theorem app_run {D : PD} (hs : ShapeOk D.s) {a b kd sq : Int} {l : List Int} (h : (appE D a b l.length).2 = 0) : FreeRun D a b (parts D.s kd sq l) := by
 obtain ⟨h1, h2, h3, h4⟩ := (appE_zero a b l.length).1 h
 intro i hi
 rw [parts_len hs] at hi
 have h5 := (hasB_iff _ _ _).1 h1
 refine ⟨(hasB_iff _ _ _).2 ⟨h5.1, h5.2.1, by omega, by omega⟩, ?_⟩
 unfold anyUsedD at h4
 rw [List.any_eq_false] at h4
 have := h4 i (by simpa using hi)
 simpa using this
theorem appD_ok {D : PD} {a b : Int} {n : Nat} {bs : List Int} (h : (appE D a b n).2 = 0) : appD D a b n bs = wrD a b (chunkL D.s.2.2.toNat bs) D := by unfold appD; rw [if_pos h]
theorem appD_s (D : PD) (a b : Int) (n : Nat) (bs : List Int) : (appD D a b n bs).s = D.s := by
 unfold appD
 split
 ·exact wrD_s _ _ _ _
 ·rfl
structure Holds (D : PD) (a q kd sq : Int) (l : List Int) : Prop where
 ok : RecOk kd sq l
 has : hasB D.s a q = true
 room : q + (kpg D.s l.length : Int) ≤ D.s.2.1
 got : ∀ i : Nat, i < kpg D.s l.length → gotD D a (q + (i : Int)) = full D.s.2.2.toNat ((parts D.s kd sq l).getD i [])
theorem app_holds {D : PD} (hs : ShapeOk D.s) {a b kd sq : Int} {l : List Int} (hr : RecOk kd sq l) (h : (appE D a b l.length).2 = 0) : Holds (appD D a b l.length (rec kd sq l)) a b kd sq l := by
 obtain ⟨h1, h2, h3, h4⟩ := (appE_zero a b l.length).1 h
 have hrun := app_run (kd := kd) (sq := sq) hs h
 refine ⟨hr, by rw [appD_s]; exact h1, by rw [appD_s]; exact h3, fun i hi => ?_⟩
 rw [appD_s] at hi ⊢
 rw [appD_ok h]
 have := got_wr (parts D.s kd sq l) b D hrun (fun r hr => parts_le hs hr) a (b + (i : Int))
 unfold parts at this
 rw [this, if_pos ⟨rfl, by omega, by have := parts_len hs kd sq l; unfold parts at this; omega⟩, show (b + (i : Int) - b).toNat = i by omega]
 rfl
theorem app_got {D : PD} (hs : ShapeOk D.s) {a b kd sq : Int} {l : List Int} (h : (appE D a b l.length).2 = 0) {c d : Int} (hcd : ¬ (c = a ∧ b ≤ d ∧ d < b + (kpg D.s l.length : Int))) : gotD (appD D a b l.length (rec kd sq l)) c d = gotD D c d := by
 rw [appD_ok h]
 have := got_wr (parts D.s kd sq l) b D (app_run hs h) (fun r hr => parts_le hs hr) c d
 unfold parts at this
 rw [this, if_neg]
 have hl := parts_len hs kd sq l
 unfold parts at hl
 rw [hl]
 exact hcd
theorem app_used {D : PD} (hs : ShapeOk D.s) {a b kd sq : Int} {l : List Int} (h : (appE D a b l.length).2 = 0) (c d : Int) : usedB (appD D a b l.length (rec kd sq l)) c d = (decide (c = a ∧ b ≤ d ∧ d < b + (kpg D.s l.length : Int)) || usedB D c d) := by
 rw [appD_ok h]
 have := used_wr (parts D.s kd sq l) b D (app_run hs h) (fun r hr => parts_le hs hr) c d
 have hl := parts_len hs kd sq l
 unfold parts at this hl
 rw [this, hl]
theorem Holds.keep {D : PD} (hs : ShapeOk D.s) {a b kd sq : Int} {l : List Int} (h : (appE D a b l.length).2 = 0) {c q kd2 sq2 : Int} {l2 : List Int} (hh : Holds D c q kd2 sq2 l2) (hd : c ≠ a ∨ q + (kpg D.s l2.length : Int) ≤ b) : Holds (appD D a b l.length (Fl.rec kd sq l)) c q kd2 sq2 l2 := by
 refine ⟨hh.ok, by rw [appD_s]; exact hh.has, by rw [appD_s]; exact hh.room, fun i hi => ?_⟩
 rw [appD_s] at hi ⊢
 rw [app_got hs h (by omega)]
 exact hh.got i hi
theorem pad_flat {n : Nat} (hn : 1 ≤ n) : ∀ (k : Nat) (bs : List Int), bs.length ≤ k → ∃ m, ((chunkL n bs).map (full n)).flatten = bs ++ List.replicate m 255
 | 0, bs, h => by
  have : bs = [] := List.eq_nil_of_length_eq_zero (by omega)
  subst this
  exact ⟨0, by rw [chunkL_nil]; rfl⟩
 | k + 1, bs, h => by
  by_cases h0 : 0 < bs.length
  ·rw [chunkL_cons h0 hn, List.map_cons, List.flatten_cons]
   by_cases h1 : bs.length ≤ n
   ·rw [List.take_of_length_le h1, List.drop_of_length_le h1, chunkL_nil]
    exact ⟨n - bs.length, by simp [full]⟩
   ·obtain ⟨m, hm⟩ := pad_flat hn k (bs.drop n) (by rw [List.length_drop]; omega)
    refine ⟨m, ?_⟩
    rw [hm, full_self (by rw [List.length_take]; omega), ← List.append_assoc, List.take_append_drop]
  ·have : bs = [] := List.eq_nil_of_length_eq_zero (by omega)
   subst this
   exact ⟨0, by rw [chunkL_nil]; rfl⟩
theorem flat_range {α : Type} (f : Nat → List α) (g : List (List α)) : ∀ k, k = g.length → (∀ i, i < k → f i = g.getD i []) → (List.range k).flatMap f = g.flatten := by
 intro k hk h
 have : (List.range k).map f = g := by
  refine List.ext_getElem (by simp [hk]) (fun i h1 h2 => ?_)
  simp only [List.getElem_map, List.getElem_range]
  rw [h i (by omega), List.getD_eq_getElem?_getD, List.getElem?_eq_getElem h2]
  rfl
 rw [List.flatMap_def, this]
theorem raw_split {D : PD} {a q : Int} {k : Nat} (hk : k ≤ nRaw D.s a q) : ∃ r, rawD D a q = rawK D a q k ++ r := by
 unfold rawD
 obtain ⟨m, hm⟩ : ∃ m, nRaw D.s a q = k + m := ⟨nRaw D.s a q - k, by omega⟩
 rw [hm]
 unfold rawK
 rw [List.range_add, List.flatMap_append]
 exact ⟨_, rfl⟩
theorem parsed_rec {kd sq : Int} {l rest : List Int} (hr : RecOk kd sq l) (hb : Byt rest) (hl : rest.length ≤ 700000) : parsed (rec kd sq l ++ rest) = (kd, sq, l, ((l.length : Nat) : Int) + 16, 0) := by
 have h1 := Go.Proofs.YtmbiebdcnadhkaaGreat.FrMore.get_rec (l.length + rest.length + 100) kd sq l rest ⟨hr.kd.k0, hr.kd.k1⟩ ⟨hr.sq.k0, hr.sq.k1⟩ hr.byt hb hr.len hl (Nat.le_refl _)
 have hlen : (rec kd sq l ++ rest).length = l.length + 16 + rest.length := by rw [List.length_append, rec_len]
 have hbb : Byt (rec kd sq l ++ rest) := Byt.append (rec_byt hr.kd hr.byt) hb
 have h2 := Go.Proofs.YtmbiebdcnadhkaaGreat.FrameFacts.get_is (l.length + rest.length + 100) (rec kd sq l ++ rest) hbb (by have := hr.len; omega) (by omega)
 have h3 : some (parsed (rec kd sq l ++ rest)) = some (kd, sq, l, ((l.length : Nat) : Int) + 16, 0) := h2.symm.trans h1
 exact Option.some.inj h3
theorem raw_len {D : PD} (hs : Sound D) (a b : Int) : (rawD D a b).length ≤ 16384 := by
 have hl : ∀ x, (gotD D a x).length ≤ 256 := fun x => by
  unfold gotD readD numB
  split
  ·rw [full_length (look_len hs.lens _)]
   have := hs.sh.c1
   omega
  ·simp
 have h1 := rawK_len (b := b) hl (nRaw D.s a b)
 have h2 := nRaw_le hs.sh a b
 unfold rawD
 omega
theorem Holds.ent {D : PD} (hs : Sound D) (hb : BytD D) {a q kd sq : Int} {l : List Int} (h : Holds D a q kd sq l) : entD D a q = (⟨a, q, sq, (kpg D.s l.length : Int), kd, l⟩, 0) := by
 have hn := nb_pos hs.sh
 have hq := (hasB_iff _ _ _).1 h.has
 have hnr : kpg D.s l.length ≤ nRaw D.s a q := by
  unfold nRaw
  have := h.room
  rw [if_pos hq]
  omega
 obtain ⟨r, hr⟩ := raw_split hnr
 have hk : rawK D a q (kpg D.s l.length) = ((parts D.s kd sq l).map (full D.s.2.2.toNat)).flatten := by
  refine flat_range _ _ _ (by rw [List.length_map, parts_len hs.sh]) (fun i hi => ?_)
  rw [h.got i hi, List.getD_eq_getElem?_getD, List.getD_eq_getElem?_getD, List.getElem?_map]
  rw [List.getElem?_eq_getElem (by rw [parts_len hs.sh]; exact hi)]
  rfl
 obtain ⟨m, hm⟩ := pad_flat (n := D.s.2.2.toNat) (by omega) _ (Fl.rec kd sq l) (Nat.le_refl _)
 unfold parts at hk
 rw [hm] at hk
 have hraw : rawD D a q = Fl.rec kd sq l ++ (List.replicate m 255 ++ r) := by rw [hr, hk, List.append_assoc]
 have hby := hb.raw a q
 have hlen := raw_len hs a q
 rw [hraw] at hby hlen
 rw [List.length_append] at hlen
 have hp := parsed_rec h.ok (rest := List.replicate m 255 ++ r) (fun x hx => hby x (List.mem_append.2 (.inr hx))) (by omega)
 unfold entD entL
 rw [if_neg (by rw [h.has]; decide), hraw, hp]
 simp only [if_true]
 rw [show ((l.length : Nat) : Int) + 16 - 16 = (l.length : Int) by omega, Int.toNat_natCast]
theorem unused_ent {D : PD} (hs : Sound D) {a q : Int} (hu : usedB D a q = false) (hh : hasB D.s a q = true) : (entD D a q).2 = 13 := by
 have hn := nb_pos hs.sh
 have hq := (hasB_iff _ _ _).1 hh
 have hg : gotD D a q = full D.s.2.2.toNat [] := by
  unfold usedB at hu
  rw [hh, Bool.true_and] at hu
  unfold gotD readD numB
  rw [if_pos hh]
  cases hl : look (a, q) D.mp with
  | none => rfl
  | some x => rw [hl] at hu; cases hu
 obtain ⟨r, hr⟩ := raw_split (D := D) (a := a) (q := q) (k := 1) (by unfold nRaw; rw [if_pos hq]; omega)
 have h1 : rawK D a q 1 = full D.s.2.2.toNat [] := by
  unfold rawK
  simp [hg]
 obtain ⟨m, hm⟩ : ∃ m, D.s.2.2.toNat = m + 1 := ⟨D.s.2.2.toNat - 1, by omega⟩
 have hraw : rawD D a q = 255 :: (List.replicate m 255 ++ r) := by
  rw [hr, h1, hm]
  rfl
 unfold entD entL
 rw [if_neg (by rw [hh]; decide), hraw]
 have hp : (parsed (255 :: (List.replicate m 255 ++ r))).2.2.2.2 = 13 := by
  unfold parsed Go.Proofs.YtmbiebdcnadhkaaGreat.FrameFacts.parsed
  have hh : Go.Proofs.YtmbiebdcnadhkaaGreat.FrameFacts.head (255 :: (List.replicate m 255 ++ r)) = 13 := by
   unfold Go.Proofs.YtmbiebdcnadhkaaGreat.FrameFacts.head
   have hrd : Go.Proofs.YtmbiebdcnadhkaaGreatW.PrintWords.rd (255 :: (List.replicate m 255 ++ r)) 0 = 255 := rfl
   rw [if_neg (by simp), if_pos hrd]
  rw [if_neg (by rw [hh]; decide), hh]
 rw [if_neg (by rw [hp]; decide), hp]
def Chain (D : PD) (a sq : Int) : Int → List (Int × List Int) → Int → Prop
 | q, [], e => q = e
 | q, r :: rs, e => Holds D a q r.1 sq r.2 ∧ r.1 ≠ 1 ∧ Chain D a sq (q + (kpg D.s r.2.length : Int)) rs e
def entsL (s : Int × Int × Int) (a sq : Int) : Int → List (Int × List Int) → List En
 | _, [] => []
 | q, r :: rs => ⟨a, q, sq, (kpg s r.2.length : Int), r.1, r.2⟩ :: entsL s a sq (q + (kpg s r.2.length : Int)) rs
theorem Chain.scan {D : PD} (hs : Sound D) (hb : BytD D) {a sq e : Int} (he : (entD D a e).2 ≠ 0) : ∀ {rs : List (Int × List Int)} {q : Int} {f : Nat}, Chain D a sq q rs e → D.s.2.1 - q ≤ f → scanF (entD D a) D.s.2.1 sq f q = entsL D.s a sq q rs
 | [], q, f, h, _ => by
  obtain rfl : q = e := h
  rw [scanF_bad (.inl he)]
  rfl
 | r :: rs, q, f, ⟨h1, h2, h3⟩, hf => by
  have hq := (hasB_iff _ _ _).1 h1.has
  obtain ⟨f, rfl⟩ : ∃ g, f = g + 1 := ⟨f - 1, by omega⟩
  have hent := h1.ent hs hb
  have hk := kpg_bd hs.sh h1.ok.len
  rw [scanF_good ⟨by omega, by omega⟩ (by rw [hent]) (by rw [hent]; exact h2) (by rw [hent]), hent]
  simp only
  rw [Chain.scan hs hb he h3 (by omega)]
  rfl
theorem no_ent {D : PD} {a e : Int} (h : hasB D.s a e = false) : (entD D a e).2 = 6 := by
 unfold entD entL
 rw [if_pos h]
theorem Chain.keep {D : PD} (hs : ShapeOk D.s) {a b kd sq sq2 : Int} {l : List Int} (h : (appE D a b l.length).2 = 0) {c : Int} : ∀ {rs : List (Int × List Int)} {q e : Int}, Chain D c sq2 q rs e → c ≠ a ∨ e ≤ b → Chain (appD D a b l.length (rec kd sq l)) c sq2 q rs e
 | [], _, _, hc, _ => hc
 | r :: rs, q, e, ⟨h1, h2, h3⟩, hd => by
  have he : ∀ {rs : List (Int × List Int)} {q e : Int}, Chain D c sq2 q rs e → q ≤ e := by
   intro rs
   induction rs with
   | nil => intro q e h; exact Int.le_of_eq h
   | cons r rs ih => intro q e h; have := ih h.2.2; omega
  have hle := he h3
  have hd2 : c ≠ a ∨ q + (kpg D.s r.2.length : Int) ≤ b := by
   rcases hd with hd | hd
   ·exact .inl hd
   ·exact .inr (by omega)
  have h4 := Chain.keep hs h h3 hd (kd := kd) (sq := sq)
  refine ⟨h1.keep hs h hd2, h2, ?_⟩
  rw [appD_s]
  exact h4
theorem Chain.snoc {D : PD} {a sq : Int} {r : Int × List Int} : ∀ {rs : List (Int × List Int)} {q e : Int}, Chain D a sq q rs e → Holds D a e r.1 sq r.2 → r.1 ≠ 1 → Chain D a sq q (rs ++ [r]) (e + (kpg D.s r.2.length : Int))
 | [], q, e, hc, h, hk => by
  obtain rfl : q = e := hc
  exact ⟨h, hk, rfl⟩
 | x :: rs, q, e, ⟨h1, h2, h3⟩, h, hk => ⟨h1, h2, Chain.snoc h3 h hk⟩
end Go.Proofs.YtmbiebdcnadhkaaGreat.Fl
namespace Go.Proofs.YtmbiebdcnadhkaaGreat.Fl
open Go.RowKit Go.Proofs.YtmbiebdcnadhkaaGreatW.PrintWords Go.Proofs.YtmbiebdcnadhkaaGreatW.PrintMore Go.Maps
def Solo (N0 p : Nat) (K : Nat → Prop) (D : PD) (w : World) : Prop :=
 ∃ ok : Nat → Prop, DevIs N0 p D ok w ∧ (∀ k, ok k → N0 ≤ k) ∧ N0 ≤ w.heap.size ∧ (∀ k, K k → k < w.heap.size ∧ (¬ ok k ∨ ∃ cs fr, w.heap[k]? = some (.cells cs TB fr)))
theorem solo_frame (N0 p : Nat) : DevFrame N0 p (Solo N0 p) where
 dev := fun h => by
  obtain ⟨ok, hD, _⟩ := h
  exact ⟨ok, hD⟩
 keep := fun {K D w w'} h hb => by
  obtain ⟨ok, hD, h1, h0, hK⟩ := h
  refine ⟨_, hD.bound.below hb, fun k h => h1 k h.1, Nat.le_trans h0 hb.size, fun k hk => ?_⟩
  rcases hk with hk | hk
  ·exact ⟨Nat.lt_of_lt_of_le (hK k hk).1 hb.size, (hK k hk).2.imp (fun h2 h => h2 h.1) (fun ⟨cs, fr, e⟩ => ⟨cs, fr, (hb.block k (hK k hk).1).trans e⟩)⟩
  ·exact ⟨hk.2, .inl (fun h => by have := h.2.2; omega)⟩
 less := fun h hk => by
  obtain ⟨ok, hD, h1, h0, hK⟩ := h
  exact ⟨ok, hD, h1, h0, fun k h => hK k (hk k h)⟩
 upd := fun {K D D' w f args res} h hc => by
  obtain ⟨ok, hD, h1, h0, hK⟩ := h
  refine (hc ok hD).mono fun e w1 ⟨he, hD1, hu⟩ => ⟨he, ⟨_, hD1, ?_, ?_, ?_⟩, upd_below hu h0 h1, fun k hk => hu.block k (hK k hk).1 (fun h => (hK k hk).2.elim (fun h2 => h2 h.1) (fun ⟨cs, fr, e⟩ => h.2 cs fr e))⟩
  ·exact fun k hk => hk.elim (h1 k) (fun h => Nat.le_trans h0 h)
  ·exact Nat.le_trans h0 hu.size
  ·exact fun k hk => ⟨Nat.lt_of_lt_of_le (hK k hk).1 hu.size, (hK k hk).2.elim (fun h2 => .inl (fun h => h.elim h2 (fun h => by have := (hK k hk).1; omega))) (fun ⟨cs, fr, e⟩ => .inr ⟨cs, fr, (hu.block k (hK k hk).1 (fun h => h.2 cs fr e)).trans e⟩)⟩
 size := fun h => by
  obtain ⟨ok, hD, h1, h0, hK⟩ := h
  exact h0
 lt := fun h k hk => by
  obtain ⟨ok, hD, h1, h0, hK⟩ := h
  exact (hK k hk).1
theorem Solo.new {N0 p : Nat} {D : PD} {w w1 : World} (hN : N0 ≤ w.heap.size) (hD : DevIs N0 p D (fun k => w.heap.size ≤ k) w1) (hb : Below w.heap.size w w1) : Solo N0 p (fun _ => False) D w1 :=
 ⟨_, hD, fun k hk => Nat.le_trans hN hk, Nat.le_trans hN hb.size, fun _ h => h.elim⟩
theorem DevFrame.sound {N0 p : Nat} {F : (Nat → Prop) → PD → World → Prop} (hF : DevFrame N0 p F) {K : Nat → Prop} {D : PD} {w : World} (h : F K D w) : Sound D := by
 obtain ⟨ok, hD⟩ := hF.dev h
 exact hD.sound
theorem BytD.new (s : Int × Int × Int) : BytD ⟨s, [], []⟩ := fun a b => by
 unfold gotD
 split
 ·exact Byt.full Byt.nil
 ·exact Byt.nil
theorem writeE_inv {D : PD} {a b : Int} {l : List Int} (h : writeE D a b l = 0) : hasB D.s a b = true ∧ (l.length : Int) ≤ D.s.2.2 ∧ usedB D a b = false := by
 unfold writeE at h
 by_cases h1 : hasB D.s a b = false
 ·rw [if_pos h1] at h; cases h
 ·rw [if_neg h1] at h
  by_cases h2 : D.s.2.2 < (l.length : Int)
  ·rw [if_pos h2] at h; cases h
  ·rw [if_neg h2] at h
   by_cases h3 : usedB D a b = true
   ·rw [if_pos h3] at h; cases h
   ·exact ⟨by simpa using h1, by omega, by simpa using h3⟩
theorem BytD.write {D : PD} (h : BytD D) (a b : Int) {l : List Int} (hl : Byt l) : BytD (writeD D a b l) := by
 by_cases h0 : writeE D a b l = 0
 ·obtain ⟨h1, h2, h3⟩ := writeE_inv h0
  intro c d
  rw [got_write h1 h2 h3]
  split
  ·exact Byt.full hl
  ·exact h c d
 ·unfold writeD
  rw [if_neg h0]
  exact h
theorem BytD.wr (a : Int) : ∀ (rs : List (List Int)) (b : Int) (D : PD), BytD D → (∀ r ∈ rs, Byt r) → BytD (wrD a b rs D)
 | [], _, _, h, _ => h
 | r :: rs, b, D, h, k => BytD.wr a rs (b + 1) _ (h.write a b (k r (by simp))) (fun q hq => k q (by simp [hq]))
theorem BytD.app {D : PD} (hs : ShapeOk D.s) (h : BytD D) (a b : Int) (n : Nat) {bs : List Int} (hb : Byt bs) : BytD (appD D a b n bs) := by
 unfold appD
 split
 ·exact BytD.wr a _ b D h (chunk_byt (by have := nb_pos hs; omega) hb)
 ·exact h
theorem C_one7 {w : World} {g : Nat} (h : w.cell? ⟨g, 0, none⟩ = some (.int .u8 7)) : kB.C w (some ⟨g, 0, none⟩) [(7 : Int)].length [7] := by
 refine Kd.C_of_reads (d := 0) ⟨rfl, by simp, fun _ => ⟨_, rfl, fun j hj => ?_⟩⟩
 have : j = 0 := by simp at hj; exact hj
 subst this
 exact h
end Go.Proofs.YtmbiebdcnadhkaaGreat.Fl
namespace Go.Proofs.YtmbiebdcnadhkaaGreat.Fl
open Go.RowKit Go.Proofs.YtmbiebdcnadhkaaGreatW.PrintWords Go.Proofs.YtmbiebdcnadhkaaGreatW.PrintMore Go.Maps
theorem anyUsed_true {a b : Int} {k i : Nat} {ps : List Pg} (hi : i < k) (h : 0 ≤ findI a (b + (i : Int)) ps) : anyUsed a b k ps = true := by
 unfold anyUsed
 rw [List.any_eq_true]
 exact ⟨i, by simpa using hi, by simpa using h⟩
theorem anyUsed_false {a b : Int} {k : Nat} {ps : List Pg} (h : ∀ i : Nat, i < k → findI a (b + (i : Int)) ps < 0) : anyUsed a b k ps = false := by
 unfold anyUsed
 rw [List.any_eq_false]
 intro i hi
 have := h i (by simpa using hi)
 simp
 omega
theorem ref_cells {N0 x : Nat} {s : Int × Int × Int} {ps : List Pg} {ok : Nat → Prop} {w : World} (h : RefIs N0 x s ps ok w) : w.cell? ⟨x, 0, none⟩ = some (.int .i64 s.1) ∧ w.cell? ⟨x, 1, none⟩ = some (.int .i64 s.2.1) ∧ w.cell? ⟨x, 2, none⟩ = some (.int .i64 s.2.2) := by
 obtain ⟨_, _, v, hx, _⟩ := h
 exact ⟨bcell hx 0, bcell hx 1, bcell hx 2⟩
section
variable {N0 x : Nat} {s : Int × Int × Int} {G : (Nat → Prop) → List Pg → World → Prop} {K : Nat → Prop} {ps : List Pg} {w : World} {A : Option Addr} {c : Nat} {l : List Int} {kind seq : Int}
theorem RefFrame.write (hG : RefFrame N0 x s G) (h : G K ps w) (hs : ShapeOk s) (a b : Int) (A : Option Addr) (c : Nat) (l : List Int) (hl : kB.C w A l.length l) (hm : ps.length < 1000000) :
  Calls Tryz.prog 70 #[.pointer (some ⟨x, 0, none⟩), .int .i64 a, .int .i64 b, .slice A l.length c] w fun e w' => e = .returned (.int .i64 (rwE s ps a b l)) ∧ G K (rwP s ps a b l) w' ∧ Below N0 w w' ∧ Kept K w w' :=
 hG.upd h (fun ok hX => RWrite_any hX hs hm a b A c l hl)
set_option maxHeartbeats 4000000 in
set_option maxRecDepth 100000 in
theorem RAppend_G (hG : RefFrame N0 x s G) (h : G K ps w) (hsh : ShapeOk s) (a b : Int) (hk : KindOk kind) (hs : SeqOk seq) (hl : Byt l) (hC : kB.C w A l.length l) (hc : l.length ≤ c) (hm : l.length < 1000000) (hd : ps.length < 900000) :
  Calls Tryz.prog 96 #[.pointer (some ⟨x, 0, none⟩), .int .i64 a, .int .i64 b, .int .u64 seq, .int .u8 kind, .slice A l.length c] w fun e w' => e = .returned (.tuple #[.int .i64 (appR s ps a b l.length).1, .int .i64 (appR s ps a b l.length).2]) ∧ G K (appP s ps a b l.length (rec kind seq l)) w' ∧ Below N0 w w' ∧ Kept K w w' := by
 have hex := hG.ref h
 obtain ⟨ok, hX⟩ := hex
 have hhas := RHas_any hX a b
 have hcells := fun (X : World) (hX' : Below w.heap.size w X) => ref_cells (hX.below hX')
 have hfind := fun (X : World) (hX' : Below w.heap.size w X) (y : Int) => RFind_any (hX.below hX') (by omega) a y
 obtain ⟨n, hn⟩ : ∃ n, n = l.length := ⟨_, rfl⟩
 have en := fun (w : World) (a : Option Addr) (n c : Nat) => Lib.run_eql_slice_nil (P := Tryz.prog) w 25 TB a n c 0 0 Tryz.underlying25
 have HG := Lib.hid hG
 have HH := Aside0.mk h
 have HN := Lib.hid hn
 have HST := Lib.hid (fun (X : World) (hX : Below w.heap.size w X) => hG.still h hX)
 have HOK := Lib.hid hsh
 have HDD := Lib.hid hd
 have nm : (n : Int) < 1000000 := by omega
 rw [← hn] at hc hm
 rw [← hn]
 cases hb : hasB s a b with
 | false =>
  have hE : appR s ps a b n = (0, 6) := by unfold appR; rw [hb]; rfl
  have hA : appP s ps a b n (rec kind seq l) = ps := by unfold appP; rw [hE]; rfl
  rw [hE, hA]
  rw [hb] at hhas
  have HHAS := Lib.hid hhas
  clear hb hE hA hG h hn hsh hX hhas hcells hfind hd hk hs hl hC hc hm en
  go_enter Tryz.func96, Tryz.ntmps96
  go_wp2_with (go_at_call 100; (with_reducible refine HHAS.out.mono ?_); rintro e w1 ⟨rfl, rfl⟩)
  go_ret2
  exact ⟨rfl, HST.out _ (Below.refl _ _)⟩
 | true =>
  rw [hb] at hhas
  have HHAS := Lib.hid hhas
  have HHB := Lib.hid hb
  have hab := (hasB_iff _ _ _).1 hb
  have b0 : 0 ≤ b := hab.2.2.1
  have b1 : b < 64 := by have := hab.2.2.2; have := hsh.b1; omega
  by_cases hlen : n ≤ 4096
  ·have hfr := fun (X : World) (hX' : Below w.heap.size w X) => Frame_ok (w := X) (A := A) (c := c) hk hs hl (Kd.C_below hC hX') (by rw [← hn]; exact hc) (by rw [← hn]; exact hlen)
   rw [← hn] at hfr
   have hpg := fun (X : World) => RPages_ok n s hsh hlen X
   have hkb := kpg_bd hsh hlen
   obtain ⟨k, hkd⟩ : ∃ k, k = kpg s n := ⟨_, rfl⟩
   rw [← hkd] at hpg hkb
   obtain ⟨nb, hnb⟩ := Int.eq_ofNat_of_zero_le (show 0 ≤ s.2.2 by have := hsh.c0; omega)
   have hnb0 : 16 ≤ nb := by have := hsh.c0; omega
   have hnb1 : nb ≤ 256 := by have := hsh.c1; omega
   obtain ⟨R0, hR0⟩ : ∃ R0, R0 = rec kind seq l := ⟨_, rfl⟩
   have hRl : R0.length = n + 16 := by rw [hR0, rec_len, hn]
   have hcl : (chunkL nb R0).length = k := by
    rw [chunk_len (by omega), hRl, hkd, kpg, hnb]
    rfl
   rw [← hR0] at hfr
   rw [hnb] at hpg hcells
   have hnbt : s.2.2.toNat = nb := by rw [hnb]; rfl
   have hcell2 : ∀ X ok, RefIs N0 x s ps ok X → True := fun _ _ _ => trivial
   clear hcell2
   have hgc : ∀ (ps' : List Pg) (K' : Nat → Prop) (X : World), G K' ps' X → X.cell? ⟨x, 2, none⟩ = some (.int .i64 (nb : Int)) := fun ps' K' X hg => by
    obtain ⟨ok, hx⟩ := hG.ref hg
    have := (ref_cells hx).2.2
    rwa [hnb] at this
   have hrow : ∀ i r, (chunkL nb R0)[i]? = some r → i * nb < n + 16 ∧ r = (R0.drop (i * nb)).take nb := fun i r hi => by
    obtain ⟨h1, h2⟩ := chunk_get (by omega) i R0 r hi
    exact ⟨by omega, h2⟩
   have HFR := Lib.hid hfr
   have HPG := Lib.hid hpg
   have HCE := Lib.hid hcells
   have HGC := Lib.hid hgc
   have HROW := Lib.hid hrow
   have HCL := Lib.hid hcl
   have HNB := Lib.hid hnbt
   have HKD := Lib.hid hkd
   have HRL := Lib.hid hRl
   have HFD := Lib.hid hfind
   have k1 : 1 ≤ k := hkb.1
   have k257 : k ≤ 257 := hkb.2
   obtain ⟨y0, y1, y2⟩ := hcells w (Below.refl _ _)
   obtain ⟨S1, hS1⟩ : ∃ S1, S1 = s.2.1 := ⟨_, rfl⟩
   have s1a : 1 ≤ S1 := by rw [hS1]; exact hsh.b0
   have s1b : S1 ≤ 64 := by rw [hS1]; exact hsh.b1
   have HS1 := Lib.hid hS1
   rw [← hS1] at y1
   rw [← hR0]
   clear hG h hn hsh hX hhas hcells hfind hd hk hs hl hC hc hm hfr hpg hkb hkd hnb hR0 hRl hcl hnbt hgc hrow hab hb hS1 y0
   have HCE1 := Lib.hid (show ∀ X : World, Below w.heap.size w X → X.cell? ⟨x, 1, none⟩ = some (.int .i64 S1) ∧ X.cell? ⟨x, 2, none⟩ = some (.int .i64 (nb : Int)) from fun X hX => by
    have := HCE.out X hX
    rw [← HS1.out] at this
    exact this.2)
   by_cases hroom : S1 < b + (k : Int)
   ·have hE : appR s ps a b n = (0, 5) := by
     unfold appR
     rw [if_neg (by rw [HHB.out]; decide), if_neg (by omega), if_pos (by have := HKD.out; have := HS1.out; omega)]
    have hA : appP s ps a b n R0 = ps := by unfold appP; rw [hE]; rfl
    rw [hE, hA]
    have d1 : decide (S1 < b + (k : Int)) = true := by simpa using hroom
    clear hE hA hroom
    go_enter Tryz.func96, Tryz.ntmps96
    go_wp2_with (first
     | (go_at_call 100; (with_reducible refine HHAS.out.mono ?_); rintro e w1 ⟨rfl, rfl⟩)
     | (go_at_call 118; (with_reducible refine (HFR.out _ (Below.refl _ _)).mono ?_); rintro e w2 ⟨ad, c2, rfl, hc2, hC2, hrw, hb⟩; have HB2 := Aside0.mk hb; obtain ⟨z1, z2⟩ := HCE1.out _ hb; clear hb hC2 hc2 hrw)
     | (go_at_call 95; (with_reducible refine (HPG.out _).mono ?_); rintro e w3 ⟨rfl, hb⟩; have HB3 := Aside0.mk (HB2.out.trans (hb.mono HB2.out.size)); obtain ⟨x1, x2⟩ := HCE1.out _ HB3.out; clear hb))
    go_ret2
    exact ⟨rfl, HST.out _ HB3.out⟩
   ·have d1 : decide (S1 < b + (k : Int)) = false := by simpa using hroom
    have HRM := Lib.hid hroom
    clear hroom
    go_enter Tryz.func96, Tryz.ntmps96
    go_wp2_with (first
     | (go_at_call 100; (with_reducible refine HHAS.out.mono ?_); rintro e w1 ⟨rfl, rfl⟩)
     | (go_at_call 118; (with_reducible refine (HFR.out _ (Below.refl _ _)).mono ?_); rintro e w2 ⟨ad, c2, rfl, hc2, hC2, hrw, hb⟩; have HC2 := Aside0.mk hrw; have HCC := Lib.hid hc2; have HB2 := Aside0.mk hb; obtain ⟨z1, z2⟩ := HCE1.out _ hb; clear hb hC2 hc2 hrw)
     | (go_at_call 95; (with_reducible refine (HPG.out _).mono ?_); rintro e w3 ⟨rfl, hb⟩; have HC3 := Aside0.mk (HC2.out.below hb); have HB3 := Aside0.mk (HB2.out.trans (hb.mono HB2.out.size)); obtain ⟨x1, x2⟩ := HCE1.out _ HB3.out; clear hb))
    clear d1 en y1 y2 z1 z2 x1 x2
    go_loopw [16] (fun v16 wr => ∃ i : Nat, i ≤ k ∧ v16 = .int .i64 (i : Int) ∧ Below w3.heap.size w3 wr ∧ ∀ j : Nat, j < i → findI a (b + (j : Int)) ps < 0) (fun v16 _ => k - (intOf v16).toNat)
    case atStart => exact ⟨0, Nat.zero_le _, rfl, Below.refl _ _, fun j hj => by omega⟩
    case round =>
     obtain ⟨i, hi, rfl, hbi, hpre⟩ := hrel
     have HI := Aside0.mk hbi
     have HPRE := Lib.hid hpre
     have HBW := Aside0.mk (HB3.out.trans (hbi.mono HB3.out.size))
     clear hbi hpre
     by_cases hlt : i < k
     ·have i0 : (0 : Int) ≤ (i : Int) := by omega
      have i2 : (i : Int) < (k : Int) := by omega
      have i3 : (i : Int) < 257 := by omega
      have hfd := HFD.out _ HBW.out (b + (i : Int))
      obtain ⟨F, hF⟩ : ∃ F, F = findI a (b + (i : Int)) ps := ⟨_, rfl⟩
      rw [← hF] at hfd
      have HFI := Lib.hid hF
      have HFDI := Lib.hid hfd
      clear hF hfd
      by_cases hu : 0 ≤ F
      ·have hE : appR s ps a b n = (0, 7) := by
        unfold appR
        rw [if_neg (by rw [HHB.out]; decide), if_neg (by omega), if_neg (by have := HRM.out; have := HS1.out; have := HKD.out; omega), if_pos (by rw [← HKD.out]; exact anyUsed_true hlt (by rw [← HFI.out]; exact hu))]
       have hA : appP s ps a b n R0 = ps := by unfold appP; rw [hE]; rfl
       have HE := Lib.hid hE
       have HA := Lib.hid hA
       have d2 : decide (0 ≤ F) = true := by simpa using hu
       clear hE hA hu
       go_wp2_with (go_at_call 64; (with_reducible refine HFDI.out.mono ?_); rintro e w4 ⟨rfl, hb⟩; have HB4 := Aside0.mk (HBW.out.trans (hb.mono HBW.out.size)); clear hb)
       go_ret2
       rw [HE.out, HA.out]
       exact ⟨rfl, HST.out _ HB4.out⟩
      ·have d2 : decide (0 ≤ F) = false := by simpa using hu
       have HU := Lib.hid hu
       clear hu
       go_wp2_with (go_at_call 64; (with_reducible refine HFDI.out.mono ?_); rintro e w4 ⟨rfl, hb⟩; have HB4 := Aside0.mk (HI.out.trans (hb.mono HI.out.size)); clear hb)
       refine ⟨⟨i + 1, by omega, by go_num, HB4.out, fun j hj => ?_⟩, by simp [intOf]; omega⟩
       rcases Nat.lt_or_ge j i with h2 | h2
       ·exact HPRE.out j h2
       ·obtain rfl : j = i := by omega
        have := HU.out
        have := HFI.out
        omega
     ·obtain rfl : i = k := by omega
      have hE : appR s ps a b n = ((i : Int), 0) := by
       unfold appR
       rw [if_neg (by rw [HHB.out]; decide), if_neg (by omega), if_neg (by have := HRM.out; have := HS1.out; have := HKD.out; omega), if_neg (by rw [← HKD.out, anyUsed_false HPRE.out]; decide), ← HKD.out]
      have hA : appP s ps a b n R0 = wrP s a b (chunkL nb R0) ps := by unfold appP; rw [hE, if_pos rfl, HNB.out]
      have HE := Lib.hid hE
      have HA := Lib.hid hA
      obtain ⟨wa, rfl⟩ : ∃ wa : World, wa = wr := ⟨_, rfl⟩
      have HCA := Aside0.mk (HC3.out.below HI.out)
      have HK0 := Aside0.mk (HG.out.keep HH.out HBW.out)
      clear hE hA hlt
      go_wp2
      go_loopw [17] (fun v17 wr => ∃ j : Nat, j ≤ i ∧ v17 = .int .i64 (j : Int) ∧ G (fun k => K k ∨ (w.heap.size ≤ k ∧ k < wa.heap.size)) (wrP s a b ((chunkL nb R0).take j) ps) wr ∧ Below N0 wa wr ∧ Kept (fun k => K k ∨ (w.heap.size ≤ k ∧ k < wa.heap.size)) wa wr) (fun v17 _ => i - (intOf v17).toNat)
      case atStart => exact ⟨0, Nat.zero_le _, rfl, HK0.out, Below.refl _ _, fun _ _ => rfl⟩
      case round =>
       obtain ⟨j, hj, rfl, hf, hbj, hkj⟩ := hrel
       have HGJ := Aside0.mk hf
       have HBJ := Aside0.mk hbj
       have HKJ := Lib.hid hkj
       clear hf hbj hkj
       by_cases hltj : j < i
       ·obtain ⟨r, hr⟩ : ∃ r, (chunkL nb R0)[j]? = some r := ⟨_, List.getElem?_eq_getElem (by have := HCL.out; omega)⟩
        obtain ⟨hp1, hp2⟩ := HROW.out j r hr
        have hrow := HCA.out.step (w' := wr) (fun k h1 h2 => HKJ.out k (.inr ⟨h1, h2⟩))
        obtain ⟨Ax, cx, ex, hcx, hCx⟩ := hrow.reads
        injection ex with ex1 ex2 ex3
        subst ex1 ex3
        have hx2 := HGC.out _ _ _ HGJ.out
        obtain ⟨P, hP⟩ : ∃ P, P = j * nb := ⟨_, rfl⟩
        have hjk : j * nb ≤ 257 * 256 := Nat.mul_le_mul (by omega) hnb1
        have hPi : (j : Int) * (nb : Int) = (P : Int) := by rw [hP]; simp
        have hQi : ((j : Int) + 1) * (nb : Int) = (P : Int) + (nb : Int) := by rw [Int.add_mul, hPi, Int.one_mul]
        have hps : (wrP s a b ((chunkL nb R0).take j) ps).length < 1000000 := by
         have h1 := wrP_len s a ((chunkL nb R0).take j) b ps
         have h2 := HDD.out
         rw [List.length_take] at h1
         omega
        have hnx : rwP s (wrP s a b ((chunkL nb R0).take j) ps) a (b + (j : Int)) r = wrP s a b ((chunkL nb R0).take (j + 1)) ps := by
         rw [List.take_add_one, hr]
         show _ = wrP s a b ((chunkL nb R0).take j ++ [r]) ps
         rw [wrP_snoc, List.length_take, Nat.min_eq_left (by have := HCL.out; omega)]
        have j0 : (0 : Int) ≤ (j : Int) := by omega
        have j2 : (j : Int) < (i : Int) := by omega
        have j3 : (j : Int) < 257 := by omega
        have p0 : (0 : Int) ≤ (P : Int) := by omega
        have p1 : (P : Int) ≤ 65792 := by omega
        have hcc := HCC.out
        have hPn : P < n + 16 := by rw [hP]; exact hp1
        by_cases hq : n + 16 < P + nb
        ·have hmid := Kd.C_mid (lo := P) (hi := n + 16) (c := c2) hCx (by omega) (by have := HRL.out; omega) (by have := HRL.out; omega)
         have hz : P * kB.sz = P := Nat.mul_one P
         have hre : (R0.take (n + 16)).drop P = r := by
          rw [hp2, ← hP, List.take_of_length_le (by have := HRL.out; omega), List.take_of_length_le (by rw [List.length_drop]; have := HRL.out; omega)]
         rw [hre, if_neg (by omega), hz] at hmid
         have hrlen : r.length = n + 16 - P := by rw [← hre, List.length_drop, List.length_take]; have := HRL.out; omega
         have hw := HG.out.write HGJ.out HOK.out a (b + (j : Int)) (some (ad.add P)) (c2 - P) r hmid hps
         rw [hnx, hrlen] at hw
         have HW := Lib.hid hw
         have d3 : decide ((n : Int) + 16 < (P : Int) + (nb : Int)) = true := by simp; omega
         have d4 : (P : Int) ≤ (n : Int) + 16 := by omega
         have d5 : (n : Int) + 16 ≤ (c2 : Int) := by omega
         clear hr hp1 hp2 hrow hCx hcx hP hjk hps hnx hmid hz hre hrlen hw ex2
         go_wp2_with (go_at_call 70; (with_reducible refine HW.out.mono ?_); rintro e w8 ⟨rfl, hf8, hb8, hk8⟩; have HF8 := Aside0.mk hf8; have HB8 := Aside0.mk hb8; have HK8 := Lib.hid hk8; clear hf8 hb8 hk8)
         exact ⟨⟨j + 1, by omega, by go_num, HF8.out, HBJ.out.trans HB8.out, fun k hk => (HK8.out k hk).trans (HKJ.out k hk)⟩, by simp [intOf]; omega⟩
        ·have hmid := Kd.C_mid (lo := P) (hi := P + nb) (c := c2) hCx (by omega) (by have := HRL.out; omega) (by have := HRL.out; omega)
         have hz : P * kB.sz = P := Nat.mul_one P
         have hre : (R0.take (P + nb)).drop P = r := by
          rw [hp2, ← hP, List.drop_take]
          congr 1
          omega
         rw [hre, if_neg (by omega), hz] at hmid
         have hrlen : r.length = nb := by rw [← hre, List.length_drop, List.length_take]; have := HRL.out; omega
         have hw := HG.out.write HGJ.out HOK.out a (b + (j : Int)) (some (ad.add P)) (c2 - P) r hmid hps
         rw [hnx, hrlen] at hw
         have HW := Lib.hid hw
         have d3 : decide ((n : Int) + 16 < (P : Int) + (nb : Int)) = false := by simp; omega
         have d4 : (P : Int) + (nb : Int) ≤ (n : Int) + 16 := by omega
         have d5 : (n : Int) + 16 ≤ (c2 : Int) := by omega
         clear hr hp1 hp2 hrow hCx hcx hP hjk hps hnx hmid hz hre hrlen hw ex2
         go_wp2_with (go_at_call 70; (with_reducible refine HW.out.mono ?_); rintro e w8 ⟨rfl, hf8, hb8, hk8⟩; have HF8 := Aside0.mk hf8; have HB8 := Aside0.mk hb8; have HK8 := Lib.hid hk8; clear hf8 hb8 hk8)
         exact ⟨⟨j + 1, by omega, by go_num, HF8.out, HBJ.out.trans HB8.out, fun k hk => (HK8.out k hk).trans (HKJ.out k hk)⟩, by simp [intOf]; omega⟩
       ·obtain rfl : j = i := by omega
        have hfin : G K (wrP s a b (chunkL nb R0) ps) wr := by
         have h1 := HG.out.less HGJ.out (K' := K) (fun k hk => .inl hk)
         rwa [List.take_of_length_le (by have := HCL.out; omega)] at h1
        have HFIN := Aside0.mk hfin
        clear hfin
        go_wp2
        go_ret2
        rw [HE.out, HA.out]
        refine ⟨rfl, HFIN.out, (HBW.out.mono (HG.out.size HH.out)).trans HBJ.out, fun k hk => (HKJ.out k (.inl hk)).trans (HBW.out.block k (HG.out.lt HH.out k hk))⟩
  ·have hE : appR s ps a b n = (0, 10) := by
    unfold appR
    rw [if_neg (by rw [hb]; decide), if_pos (by omega)]
   have hA : appP s ps a b n (rec kind seq l) = ps := by unfold appP; rw [hE]; rfl
   have hfr := fun (X : World) => Frame_no (w := X) (A := A) (c := c) (l := l) (kind := kind) (seq := seq) (by rw [← hn]; omega)
   rw [← hn] at hfr
   have HFR := Lib.hid hfr
   rw [hE, hA]
   clear hb hE hA hG h hn hsh hX hhas hcells hfind hd hk hs hl hC hc hm hfr hab hlen
   go_enter Tryz.func96, Tryz.ntmps96
   go_wp2_with (first
    | (go_at_call 100; (with_reducible refine HHAS.out.mono ?_); rintro e w1 ⟨rfl, rfl⟩)
    | (go_at_call 118; (with_reducible refine (HFR.out _).mono ?_); rintro e w2 ⟨rfl, rfl⟩))
   go_ret2
   exact ⟨rfl, HST.out _ (Below.refl _ _)⟩
end
end Go.Proofs.YtmbiebdcnadhkaaGreat.Fl
namespace Go.Proofs.YtmbiebdcnadhkaaGreat.Fl
open Go.RowKit Go.Proofs.YtmbiebdcnadhkaaGreatW.PrintWords Go.Proofs.YtmbiebdcnadhkaaGreatW.PrintMore Go.Maps
structure RecT where
 seg : Int
 page : Int
 seq : Int
 kind : Int
 l : List Int
structure RCell (w : World) (ad : Addr) (i : Nat) (r : RecT) (A : Option Addr) (c : Nat) : Prop where
 c0 : w.cell? (ad.add (i * 5)) = some (.int .i64 r.seg)
 c1 : w.cell? ⟨(ad.add (i * 5)).block, (ad.add (i * 5)).off + 1, none⟩ = some (.int .i64 r.page)
 c2 : w.cell? ⟨(ad.add (i * 5)).block, (ad.add (i * 5)).off + 2, none⟩ = some (.int .u64 r.seq)
 c3 : w.cell? ⟨(ad.add (i * 5)).block, (ad.add (i * 5)).off + 3, none⟩ = some (.int .u8 r.kind)
 c4 : w.cell? ⟨(ad.add (i * 5)).block, (ad.add (i * 5)).off + 4, none⟩ = some (.slice A r.l.length c)
 row : kB.C w A r.l.length r.l
 cap : r.l.length ≤ c
def RRow (w : World) (A : Option Addr) (rs : List RecT) : Prop := ∀ (i : Nat) (r : RecT), rs[i]? = some r → ∃ ad A1 c1, A = some ad ∧ RCell w ad i r A1 c1
theorem RCell.below {w w' : World} {ad : Addr} {i : Nat} {r : RecT} {A : Option Addr} {c : Nat} (h : RCell w ad i r A c) (hb : Below w.heap.size w w') : RCell w' ad i r A c :=
 have f : ∀ {a : Addr} {v : Value}, w.cell? a = some v → w'.cell? a = some v := fun h => (hb.cell (blt_of_cell h)).trans h
 ⟨f h.c0, f h.c1, f h.c2, f h.c3, f h.c4, Kd.C_below h.row hb, h.cap⟩
theorem RRow.below {w w' : World} {A : Option Addr} {rs : List RecT} (h : RRow w A rs) (hb : Below w.heap.size w w') : RRow w' A rs := fun i d hi => by
 obtain ⟨ad, A1, c1, h1, h2⟩ := h i d hi
 exact ⟨ad, A1, c1, h1, h2.below hb⟩
theorem appP_len {s : Int × Int × Int} (hs : ShapeOk s) (ps : List Pg) (a b : Int) (n : Nat) {bs : List Int} (hb : bs.length = n + 16) : (appP s ps a b n bs).length ≤ ps.length + 257 := by
 unfold appP
 split
 ·rename_i h
  have h1 := wrP_len s a (chunkL s.2.2.toNat bs) b ps
  have h2 := chunk_len (n := s.2.2.toNat) (by have := nb_pos hs; omega) bs
  have h3 : n ≤ 4096 := by
   unfold appR at h
   by_cases h1 : hasB s a b = false
   ·rw [if_pos h1] at h; cases h
   ·rw [if_neg h1] at h
    by_cases h2 : 4096 < n
    ·rw [if_pos h2] at h; cases h
    ·omega
  have h4 := kpg_bd hs h3
  unfold kpg at h4
  rw [hb] at h2
  omega
 ·omega
theorem BytP.app {s : Int × Int × Int} (hs : ShapeOk s) {ps : List Pg} (h : BytP ps) (a b : Int) (n : Nat) {bs : List Int} (hb : Byt bs) : BytP (appP s ps a b n bs) := by
 unfold appP
 split
 ·exact h.wr a _ b ps (chunk_byt (by have := nb_pos hs; omega) hb)
 ·exact h
end Go.Proofs.YtmbiebdcnadhkaaGreat.Fl
namespace Go.Proofs.YtmbiebdcnadhkaaGreat.Fl
open Go.RowKit Go.Proofs.YtmbiebdcnadhkaaGreatW.PrintWords Go.Proofs.YtmbiebdcnadhkaaGreatW.PrintMore Go.Maps
end Go.Proofs.YtmbiebdcnadhkaaGreat.Fl
namespace Go.Proofs.YtmbiebdcnadhkaaGreat.Fl
open Go.RowKit Go.Proofs.YtmbiebdcnadhkaaGreatW.PrintWords Go.Proofs.YtmbiebdcnadhkaaGreatW.PrintMore Go.Maps
def rawPK (n : Nat) (ps : List Pg) (a b : Int) (k : Nat) : List Int := (List.range k).flatMap fun (i : Nat) => readP n a (b + (i : Int)) ps
def rawP (s : Int × Int × Int) (ps : List Pg) (a b : Int) : List Int := rawPK s.2.2.toNat ps a b (nRaw s a b)
theorem rawPK_succ (n : Nat) (ps : List Pg) (a b : Int) (k : Nat) : rawPK n ps a b (k + 1) = rawPK n ps a b k ++ readP n a (b + (k : Int)) ps := by
 simp [rawPK, List.range_succ]
theorem readP_len {n : Nat} {ps : List Pg} (hp : ∀ p ∈ ps, p.2.1.length = n) (a b : Int) : (readP n a b ps).length = n := by
 unfold readP
 split
 ·rename_i p h
  exact hp p (List.mem_of_find?_eq_some h)
 ·exact fullT_length _ _
theorem rawPK_len {n : Nat} {ps : List Pg} {a b : Int} (hl : ∀ x, (readP n a x ps).length ≤ 256) : ∀ k, (rawPK n ps a b k).length ≤ 256 * k
 | 0 => by simp [rawPK]
 | k + 1 => by
  rw [rawPK_succ, List.length_append]
  have := rawPK_len (b := b) hl k
  have := hl (b + (k : Int))
  omega
section
variable {N0 x : Nat} {s : Int × Int × Int} {ps : List Pg} {w : World} {ok : Nat → Prop}
set_option maxHeartbeats 2000000 in
set_option maxRecDepth 100000 in
theorem RRaw_any (hX : RefIs N0 x s ps ok w) (hs : ShapeOk s) (hl : ps.length < 1000000) (hp : ∀ p ∈ ps, p.2.1.length = s.2.2.toNat) (a b : Int) : Calls Tryz.prog 103 #[.pointer (some ⟨x, 0, none⟩), .int .i64 a, .int .i64 b] w fun e w' => ∃ A c, e = .returned (.slice A (rawP s ps a b).length c) ∧ (rawP s ps a b).length ≤ c ∧ kB.C w' A (rawP s ps a b).length (rawP s ps a b) ∧ Below w.heap.size w w' := by
 have hglen : ∀ x, (readP s.2.2.toNat a x ps).length ≤ 256 := fun y => by rw [readP_len hp]; have := hs.c1; omega
 have hlen : ∀ k, (rawPK s.2.2.toNat ps a b k).length ≤ 256 * k := rawPK_len hglen
 have hrd := fun (V : World) (hV : Below w.heap.size w V) (y : Int) => RRead_any (hX.below hV) hs hl a y
 have hhs := fun (V : World) (hV : Below w.heap.size w V) (y : Int) => RHas_any (hX.below hV) a y
 have hn := nRaw_le hs a b
 have hnl := fun i => @nRaw_lt s a b i
 have hne := @nRaw_eq s a b
 unfold rawP
 obtain ⟨n, hnn⟩ : ∃ n, n = nRaw s a b := ⟨_, rfl⟩
 rw [← hnn] at hn hne hnl ⊢
 have hb1 := hs.b1
 have hN := hX.1
 have HLEN := Lib.hid hlen
 have HGL := Lib.hid hglen
 have HRD := Lib.hid hrd
 have HHS := Lib.hid hhs
 have HNL := Lib.hid hnl
 have HNE := Lib.hid hne
 clear hlen hglen hrd hnl hne hnn hs hX hhs hp hN
 go_enter Tryz.func103, Tryz.ntmps103
 go_wp2
 go_loopw [2, 7] (fun v2 v7 wr => ∃ i : Nat, i ≤ n ∧ v2 = .int .i64 (b + (i : Int)) ∧ kB.R TB wr w.heap.size (fun k => w.heap.size ≤ k) v7 (rawPK s.2.2.toNat ps a b i) ∧ Below w.heap.size w wr) (fun v2 _ _ => n - (intOf v2 - b).toNat)
 case atStart => exact ⟨0, Nat.zero_le _, by simp, Kd.R_nil _ _ _ _ _, Below.refl _ _⟩
 case round =>
  obtain ⟨i, hi, rfl, hR, hb⟩ := hrel
  obtain ⟨A7, c7, rfl⟩ := Kd.R_slice hR
  have HR := Aside0.mk hR
  have HB := Aside0.mk hb
  clear hR hb
  have hLn := HLEN.out i
  have HLN := Lib.hid hLn
  clear hLn
  by_cases hb0 : 0 ≤ b
  ·have g0 : (0 : Int) ≤ b + (i : Int) := by omega
   by_cases hin : i < n
   ·obtain ⟨hh, -, hlt⟩ := HNL.out i hin
    have HH := Lib.hid hh
    have HG := Lib.hid (HGL.out (b + (i : Int)))
    clear hh
    go_wp2_with (first
     | (go_at_call 100; (with_reducible refine (HHS.out _ HB.out _).mono ?_); rintro e w1 ⟨rfl, rfl⟩; rw [HH.out])
     | (at_builtin; refine Kd.R_append_row (Value.int .u8) (0 : Int) (w0 := w) w.heap.size rfl (.tmp 16) (.tmp 20) 25 TB (.int .u8 0) 1 rfl Tryz.underlying25 info_u8 rfl (by decide) (.slice A7 (rawPK s.2.2.toNat ps a b i).length c7) (rawPK s.2.2.toNat ps a b i) (readP s.2.2.toNat a (b + (i : Int)) ps) _ _ _ (fun k => w.heap.size ≤ k) rfl rfl (fun k hk => Nat.le_trans HB2.out.size hk) HR2.out HC2.out HB2.out HB2.out.size (by have := HG.out; have := HLN.out; omega) ?_; intro v3 w3 ho3 hb3 hg3 hat3; clear hg3 hat3; have HO3 := Aside0.mk ho3; have HB3 := Aside0.mk hb3; clear ho3 hb3)
     | (go_at_call 62; (with_reducible refine (HRD.out _ HB.out _).mono ?_); rintro e w2 ⟨v, rfl, hrow, hb2⟩; obtain ⟨A8, c8, rfl, _, hC2⟩ := hrow.reads; have HR2 := Aside0.mk (Kd.R_below HR.out hb2); have HC2 := Aside0.mk hC2; have HB2 := Aside0.mk (HB.out.trans (hb2.mono HB.out.size)); clear hrow hb2 hC2))
    refine ⟨⟨i + 1, hin, by congr 1; push_cast; omega, by rw [rawPK_succ]; exact HO3.out, HB3.out⟩, ?_⟩
    simp only [intOf]
    omega
   ·have hii : i = n := by omega
    subst hii
    have HH := Lib.hid (HNE.out hb0)
    obtain ⟨A9, c9, e9, hc9, hC9⟩ := (Row.ofR HR.out).reads
    cases e9
    have HC9 := Aside0.mk hC9
    have HCC := Lib.hid hc9
    clear hC9 hc9
    go_wp2_with (go_at_call 100; (with_reducible refine (HHS.out _ HB.out _).mono ?_); rintro e w1 ⟨rfl, rfl⟩; rw [HH.out])
    go_ret
    first | exact ⟨_, _, rfl, HCC.out, HC9.out, HB.out⟩ | exact ⟨_, HCC.out, HC9.out, HB.out⟩ | exact ⟨HCC.out, HC9.out, HB.out⟩ | exact ⟨A7, ⟨c7, rfl⟩, HCC.out, HC9.out, HB.out⟩ | exact ⟨_, _, ⟨rfl, rfl⟩, HCC.out, HC9.out, HB.out⟩
  ·have hn0 : n = 0 := by
    by_cases hn0 : 0 < n
    ·exact absurd (HNL.out 0 hn0).2.1 hb0
    ·omega
   have hii : i = n := by omega
   subst hii
   have g0 : ¬ (0 : Int) ≤ b + (i : Int) := by omega
   have g1 : decide ((0 : Int) ≤ b + (i : Int)) = false := decide_eq_false g0
   clear hn0
   obtain ⟨A9, c9, e9, hc9, hC9⟩ := (Row.ofR HR.out).reads
   cases e9
   have HC9 := Aside0.mk hC9
   have HCC := Lib.hid hc9
   clear hC9 hc9
   go_wp2
   go_ret
   first | exact ⟨_, _, rfl, HCC.out, HC9.out, HB.out⟩ | exact ⟨_, HCC.out, HC9.out, HB.out⟩ | exact ⟨A7, c7, rfl, HCC.out, HC9.out, HB.out⟩ | exact ⟨A7, ⟨c7, rfl⟩, HCC.out, HC9.out, HB.out⟩
end
end Go.Proofs.YtmbiebdcnadhkaaGreat.Fl
namespace Go.Proofs.YtmbiebdcnadhkaaGreat.Fl
open Go.RowKit Go.Proofs.YtmbiebdcnadhkaaGreatW.PrintWords Go.Proofs.YtmbiebdcnadhkaaGreatW.PrintMore Go.Maps
def entP (s : Int × Int × Int) (ps : List Pg) (a b : Int) : En × Int := entL s a b (rawP s ps a b)
def scanP (s : Int × Int × Int) (ps : List Pg) (a : Int) : Int × List En × Bool := scanL (entP s ps a) s.2.1
theorem rawP_byt {s : Int × Int × Int} {ps : List Pg} (h : BytP ps) (a b : Int) : Byt (rawP s ps a b) := by
 intro x hx
 unfold rawP rawPK at hx
 rw [List.mem_flatMap] at hx
 obtain ⟨i, _, hi⟩ := hx
 unfold readP at hi
 split at hi
 ·rename_i p hp
  exact h p (List.mem_of_find?_eq_some hp) x hi
 ·exact Byt.fullT Byt.nil x hi
section
variable {N0 x : Nat} {s : Int × Int × Int} {ps : List Pg} {w : World} {ok : Nat → Prop}
set_option maxHeartbeats 2000000 in
set_option maxRecDepth 100000 in
theorem Entry_ent (hX : RefIs N0 x s ps ok w) (hs : ShapeOk s) (hl : ps.length < 1000000) (hp : ∀ p ∈ ps, p.2.1.length = s.2.2.toNat) (hby : BytP ps) (a b : Int) : Calls Tryz.prog 72 #[.pointer (some ⟨x, 0, none⟩), .agg #[.int .i64 a, .int .i64 b]] w (EntPost w (entP s ps a b)) := by
 obtain ⟨W, hW⟩ : ∃ W, W = (w.alloc (.cells #[.int .i64 a, .int .i64 b] TA)).alloc (.cells #[.int .i64 0, .int .i64 0, .int .u64 0, .int .i64 0, .int .u8 0, .slice none 0 0] TE) := ⟨_, rfl⟩
 have q0 : W.heap[w.heap.size]? = some (.cells #[.int .i64 a, .int .i64 b] TA (0, 0)) := by
  rw [hW]; exact (Below.heap_alloc _ _ _ (by simp)).trans (blk_new w _)
 have q1 : W.heap[w.heap.size + 1]? = some (.cells #[.int .i64 0, .int .i64 0, .int .u64 0, .int .i64 0, .int .u8 0, .slice none 0 0] TE (0, 0)) := by
  rw [hW]; have := blk_new (w.alloc (.cells #[.int .i64 a, .int .i64 b] TA)) (.cells #[.int .i64 0, .int .i64 0, .int .u64 0, .int .i64 0, .int .u8 0, .slice none 0 0] TE); rwa [World.size_alloc] at this
 have qb : Below w.heap.size w W := by rw [hW]; exact below_alloc (below_alloc (Below.refl _ _) _) _
 have hbox : ∀ X : World, Below W.heap.size W X → X.heap[w.heap.size]? = some (.cells #[.int .i64 a, .int .i64 b] TA (0, 0)) ∧ X.heap[w.heap.size + 1]? = some (.cells #[.int .i64 0, .int .i64 0, .int .u64 0, .int .i64 0, .int .u8 0, .slice none 0 0] TE (0, 0)) := fun X hX =>
  ⟨(hX.block _ (blt q0)).trans q0, (hX.block _ (blt q1)).trans q1⟩
 have hth := RHas_any (hX.below qb) a b
 have hxlt : x < w.heap.size := by
  obtain ⟨_, _, v, hx, _⟩ := hX
  exact blt hx
 have hxc := fun (X : World) (hX' : Below W.heap.size W X) => ref_cells ((hX.below qb).below hX')
 have hraw := fun (X : World) (hX' : Below W.heap.size W X) => RRaw_any ((hX.below qb).below hX') hs hl hp a b
 have k0 : W.cell? ⟨w.heap.size, 0, none⟩ = some (.int .i64 a) := bcell q0 0
 have k1 : W.cell? ⟨w.heap.size, 1, none⟩ = some (.int .i64 b) := bcell q0 1
 have hrl : (rawP s ps a b).length ≤ 16384 := by
  have h1 := rawPK_len (b := b) (fun y => show (readP s.2.2.toNat a y ps).length ≤ 256 by rw [readP_len hp]; have := hs.c1; omega) (nRaw s a b)
  have h2 := nRaw_le hs a b
  unfold rawP
  omega
 have hrb := rawP_byt (s := s) hby a b
 have HBOX := Lib.hid hbox
 have HTH := Lib.hid hth
 have HRAW := Lib.hid hraw
 have HXC := Lib.hid hxc
 have HS := Lib.hid hs
 have HRL := Lib.hid hrl
 have HRB := Lib.hid hrb
 have HW := Lib.hid hW
 have QB := Aside0.mk qb
 have QS := Lib.hid (show w.heap.size + 1 < W.heap.size from blt q1)
 clear hbox hth hraw hxc hs hrl hrb hW qb q0 q1 hX hby hl hp
 cases hb : hasB s a b with
 | false =>
  have hE : entP s ps a b = (zEn, 6) := by unfold entP entL; rw [if_pos hb]
  have HTE := Lib.hid hb
  rw [hE]
  clear hE hb
  go_enter Tryz.func72, Tryz.ntmps72
  go_wp2_with fail
  rw [← HW.out]
  obtain ⟨z0, z1⟩ := HBOX.out _ (Below.refl _ _)
  have k0 : W.cell? ⟨w.heap.size, 0, none⟩ = some (.int .i64 a) := bcell z0 0
  have k1 : W.cell? ⟨w.heap.size, 1, none⟩ = some (.int .i64 b) := bcell z0 1
  obtain ⟨t0, t1, t2, t3, t4, t5, f0, f1, f2, f3, f4, f5⟩ := ent_cells z1
  have Z1 := Lib.hid z1
  have HB1 := Aside0.mk (Below.refl W.heap.size W)
  clear z0 z1
  go_wp2_with (go_at_call 100; (with_reducible refine HTH.out.mono ?_); rw [HTE.out]; rintro e w1 ⟨rfl, rfl⟩)
  refine post_world (EndE w zEn (.slice none 0 0)) (EndE.zero Z1.out (QB.out.trans (HB1.out.mono QB.out.size))) ?_
  rintro Y ⟨y, hd, hb⟩
  obtain ⟨t0, t1, t2, t3, t4, t5, -⟩ := ent_cells y
  exact bodyPost_ret (v := .tuple #[.agg #[.int .i64 0, .int .i64 0, .int .u64 0, .int .i64 0, .int .u8 0, .slice none 0 0], .int .i64 6]) (by simp [results, Tryz.results72, go_sem, t0, t1, t2, t3, t4, t5, zEn]) rfl ⟨_, rfl, hd, hb⟩
 | true =>
  have HTE := Lib.hid hb
  obtain ⟨n, hn⟩ : ∃ n, n = (rawP s ps a b).length := ⟨_, rfl⟩
  have hget := fun (X : World) (A : Option Addr) (c : Nat) (hC : kB.C X A n (rawP s ps a b)) (hc : n ≤ c) => Parse_ok (w := X) (A := A) (c := c) HRB.out (by have := HRL.out; omega) (by rw [← hn]; exact hC) (by rw [← hn]; exact hc)
  rw [← hn] at hget
  have hraw := HRAW.out
  rw [← hn] at hraw
  have HRW := Lib.hid hraw
  have hnl : n ≤ 16384 := by have := HRL.out; omega
  have hP : entP s ps a b = if (parsed (rawP s ps a b)).2.2.2.2 = 0 then (⟨a, b, (parsed (rawP s ps a b)).2.1, (kpg s ((parsed (rawP s ps a b)).2.2.2.1 - 16).toNat : Int), (parsed (rawP s ps a b)).1, (parsed (rawP s ps a b)).2.2.1⟩, 0) else (zEn, (parsed (rawP s ps a b)).2.2.2.2) := by unfold entP entL; rw [if_neg (by rw [hb]; decide)]
  have hok : (parsed (rawP s ps a b)).2.2.2.2 = 0 → ParsedN (rawP s ps a b) (parsed (rawP s ps a b)).2.2.2.1 (parsed (rawP s ps a b)).2.2.1 := fun h => parsed_n h
  clear hn hraw hb HRAW
  rw [hP]
  clear hP
  generalize hPE : parsed (rawP s ps a b) = P at hget hok ⊢
  obtain ⟨kd, sq, d, pn, er⟩ := P
  simp only at hget hok ⊢
  have HGET := Lib.hid hget
  clear hget
  by_cases he : er = 0
  ·subst he
   obtain ⟨m, hm1, hm2, hm3, hm4⟩ := hok rfl
   rw [if_pos rfl]
   subst hm1
   have HM4 := Lib.hid hm4
   have e16 : (m : Int) + 16 - 16 = (m : Int) := by omega
   have hkp : (kpg s ((m : Int) + 16 - 16).toNat : Int) = (kpg s m : Int) := by rw [e16]; rfl
   rw [hkp]
   have hw1 : IntKind.i64.wrap (m : Int) = (m : Int) := IntWalk.i64_in _ (by omega)
   have HPG := Lib.hid (fun X : World => RPages_ok m s HS.out (by omega) X)
   obtain ⟨kp, hkpe⟩ : ∃ q, q = kpg s m := ⟨_, rfl⟩
   have hpg := HPG.out
   rw [← hkpe] at hpg ⊢
   have HPG := Lib.hid hpg
   clear hPE hok hm3 hm4 hkp hkpe hpg
   go_enter Tryz.func72, Tryz.ntmps72
   go_wp2_with fail
   rw [← HW.out]
   go_wp2_with (first
    | (go_at_call 100; (with_reducible refine HTH.out.mono ?_); rw [HTE.out]; rintro e w1 ⟨rfl, rfl⟩)
    | (go_at_call 103; (with_reducible refine (HRW.out _ (Below.refl _ _)).mono ?_); rintro e w2 ⟨A2, c2, rfl, hc2, hC2, hb⟩; have HB2 := Aside0.mk hb; have HC2 := Aside0.mk hC2; have HCC := Lib.hid hc2; clear hb hC2 hc2)
    | (go_at_call 102; (with_reducible refine (HGET.out _ _ _ HC2.out HCC.out).mono ?_); rintro e w3 ⟨v3, rfl, hd3, hb⟩; obtain ⟨A3, c3, rfl, -, -⟩ := hd3.reads; have HB3 := Aside0.mk (HB2.out.trans (hb.mono HB2.out.size)); have HD3 := Aside0.mk (Dat.mono (Dat.lower hd3 (Nat.le_trans QB.out.size HB2.out.size)) (fun k hk => Nat.le_trans (Nat.le_trans QB.out.size HB2.out.size) hk)); clear hb hd3))
   have hfc := fun (X : World) (hX : Below (w3.alloc (.cells #[.int .u8 kd, .int .u64 sq, .slice A3 d.length c3] 134)).heap.size (w3.alloc (.cells #[.int .u8 kd, .int .u64 sq, .slice A3 d.length c3] 134)) X) => (hX.block _ (blt (blk_new w3 (.cells #[.int .u8 kd, .int .u64 sq, .slice A3 d.length c3] 134)))).trans (blk_new w3 (.cells #[.int .u8 kd, .int .u64 sq, .slice A3 d.length c3] 134))
   obtain ⟨Z, hZ⟩ : ∃ Z, Z = w3.alloc (.cells #[.int .u8 kd, .int .u64 sq, .slice A3 d.length c3] 134) := ⟨_, rfl⟩
   have HBZ := Aside0.mk (show Below W.heap.size W Z by rw [hZ]; exact below_alloc HB3.out _)
   have HDZ := Aside0.mk (show Dat Z w.heap.size (fun k => w.heap.size ≤ k) (.slice A3 d.length c3) d by rw [hZ]; exact HD3.out.below (below_alloc (Below.refl _ _) _))
   rw [← hZ] at hfc ⊢
   have hz3 : w.heap.size + 1 < w3.heap.size := Nat.lt_of_lt_of_le QS.out HB3.out.size
   have hall := fun (X : World) (hX : Below Z.heap.size Z X) => show X.cell? ⟨w.heap.size, 0, none⟩ = some (.int .i64 a) ∧ X.cell? ⟨w.heap.size, 1, none⟩ = some (.int .i64 b) ∧ X.cell? ⟨w3.heap.size, 0, none⟩ = some (.int .u8 kd) ∧ X.cell? ⟨w3.heap.size, 1, none⟩ = some (.int .u64 sq) ∧ X.cell? ⟨w3.heap.size, 2, none⟩ = some (.slice A3 d.length c3) ∧ X.cell? ⟨x, 2, none⟩ = some (.int .i64 s.2.2) from
    ⟨bcell (HBOX.out X (HBZ.out.trans (hX.mono HBZ.out.size))).1 0, bcell (HBOX.out X (HBZ.out.trans (hX.mono HBZ.out.size))).1 1, bcell (hfc X hX) 0, bcell (hfc X hX) 1, bcell (hfc X hX) 2, (HXC.out X (HBZ.out.trans (hX.mono HBZ.out.size))).2.2⟩
   have HALL := Lib.hid hall
   have HZ := Lib.hid hZ
   obtain ⟨k0, k1, k2, k3, k4, k5⟩ := HALL.out Z (Below.refl _ _)
   have hne1 : ¬ w3.heap.size = w.heap.size + 1 := by omega
   have hne2 : ¬ w.heap.size + 1 = w3.heap.size := by omega
   have hne3 : ¬ x = w.heap.size + 1 := by omega
   have hne4 : ¬ w.heap.size + 1 = x := by omega
   clear hfc hZ hall
   go_region_held3 (fun w' => w'.cell? ⟨w.heap.size, 0, none⟩ = some (.int .i64 a) ∧ w'.cell? ⟨w.heap.size, 1, none⟩ = some (.int .i64 b) ∧ w'.cell? ⟨w3.heap.size, 0, none⟩ = some (.int .u8 kd) ∧ w'.cell? ⟨w3.heap.size, 1, none⟩ = some (.int .u64 sq) ∧ w'.cell? ⟨w3.heap.size, 2, none⟩ = some (.slice A3 d.length c3) ∧ w'.cell? ⟨x, 2, none⟩ = some (.int .i64 s.2.2)) (first | go_keep | exact HALL.out _ HB5.out)
    (first | (go_at_call 95; (with_reducible refine (HPG.out _).mono ?_); rintro e w5 ⟨rfl, hb⟩; have HB5 := Aside0.mk (undrew hb); obtain ⟨z0, z1⟩ := HBOX.out _ (HBZ.out.trans (HB5.out.mono HBZ.out.size)); obtain ⟨t0, t1, t2, t3, t4, t5, f0, f1, f2, f3, f4, f5⟩ := ent_cells z1; have Z1 := Lib.hid z1; clear hb z0 z1))
   go_wp2
   refine post_world (EndE w ⟨a, b, sq, (kp : Int), kd, d⟩ (.slice A3 d.length c3)) (EndE.put ⟨a, b, sq, (kp : Int), kd, d⟩ Z1.out (QB.out.trans ((HBZ.out.trans (HB5.out.mono HBZ.out.size)).mono QB.out.size)) (HDZ.out.below HB5.out)) ?_
   rintro Y ⟨y, hd, hb⟩
   simp only at y hd
   obtain ⟨t0, t1, t2, t3, t4, t5, -⟩ := ent_cells y
   exact bodyPost_ret (v := .tuple #[.agg #[.int .i64 a, .int .i64 b, .int .u64 sq, .int .i64 (kp : Int), .int .u8 kd, .slice A3 d.length c3], .int .i64 0]) (by simp [results, Tryz.results72, go_sem, t0, t1, t2, t3, t4, t5]) rfl ⟨_, rfl, hd, hb⟩
  ·have e1 : (er != 0) = true := bne_iff_ne.2 he
   have HE := Lib.hid he
   rw [if_neg he]
   clear hPE hok he
   go_enter Tryz.func72, Tryz.ntmps72
   go_wp2_with fail
   rw [← HW.out]
   go_wp2_with (first
    | (go_at_call 100; (with_reducible refine HTH.out.mono ?_); rw [HTE.out]; rintro e w1 ⟨rfl, rfl⟩)
    | (go_at_call 103; (with_reducible refine (HRW.out _ (Below.refl _ _)).mono ?_); rintro e w2 ⟨A2, c2, rfl, hc2, hC2, hb⟩; have HB2 := Aside0.mk hb; have HC2 := Aside0.mk hC2; have HCC := Lib.hid hc2; clear hb hC2 hc2)
    | (go_at_call 102; (with_reducible refine (HGET.out _ _ _ HC2.out HCC.out).mono ?_); rintro e w3 ⟨v3, rfl, hd3, hb⟩; obtain ⟨A3, c3, rfl, -, -⟩ := hd3.reads; have HB3 := Aside0.mk (HB2.out.trans (hb.mono HB2.out.size)); have HD3 := Aside0.mk hd3; obtain ⟨z0, z1⟩ := HBOX.out _ HB3.out; obtain ⟨t0, t1, t2, t3, t4, t5, f0, f1, f2, f3, f4, f5⟩ := ent_cells z1; have hz3 : w.heap.size + 1 < w3.heap.size := blt z1; have Z1 := Lib.hid z1; clear hb hd3 z0 z1))
   refine post_world (EndE w zEn (.slice none 0 0)) ((EndE.zero Z1.out (QB.out.trans (HB3.out.mono QB.out.size))).alloc _) ?_
   rintro Y ⟨y, hd, hb⟩
   obtain ⟨t0, t1, t2, t3, t4, t5, -⟩ := ent_cells y
   exact bodyPost_ret (v := .tuple #[.agg #[.int .i64 0, .int .i64 0, .int .u64 0, .int .i64 0, .int .u8 0, .slice none 0 0], .int .i64 er]) (by simp [results, Tryz.results72, go_sem, t0, t1, t2, t3, t4, t5, zEn]) rfl ⟨_, rfl, hd, hb⟩
end
end Go.Proofs.YtmbiebdcnadhkaaGreat.Fl
namespace Go.Proofs.YtmbiebdcnadhkaaGreat.Fl
open Go.RowKit Go.Proofs.YtmbiebdcnadhkaaGreatW.PrintWords Go.Proofs.YtmbiebdcnadhkaaGreatW.PrintMore Go.Maps
section
variable {N0 x : Nat} {s : Int × Int × Int} {ps : List Pg} {w : World} {ok : Nat → Prop}
set_option maxHeartbeats 4000000 in
set_option maxRecDepth 100000 in
theorem RScan_ent (hX : RefIs N0 x s ps ok w) (hs : ShapeOk s) (hl : ps.length < 1000000) (hp : ∀ p ∈ ps, p.2.1.length = s.2.2.toNat) (hby : BytP ps) (a : Int) : Calls Tryz.prog 40 #[.pointer (some ⟨x, 0, none⟩), .int .i64 a] w (ScanPost w (scanP s ps a)) := by
 have hpg : ∀ x, (entP s ps a x).2 = 0 → 1 ≤ (entP s ps a x).1.pages ∧ (entP s ps a x).1.pages ≤ 257 := fun x h => ent_pages hs h
 have hrd := fun (X : World) (hX' : Below w.heap.size w X) (y : Int) => Entry_ent (hX.below hX') hs hl hp hby a y
 have hshape := fun (X : World) (hX' : Below w.heap.size w X) => (ref_cells (hX.below hX')).2.1
 unfold scanP
 obtain ⟨E, hE⟩ : ∃ E, E = entP s ps a := ⟨_, rfl⟩
 rw [← hE] at hpg ⊢
 have hrd2 : ∀ (X : World), Below w.heap.size w X → ∀ y : Int, Calls Tryz.prog 72 #[.pointer (some ⟨x, 0, none⟩), .agg #[.int .i64 a, .int .i64 y]] X (EntPost X (E y)) := by rw [hE]; exact hrd
 obtain ⟨n, hn⟩ := Int.eq_ofNat_of_zero_le (show 0 ≤ s.2.1 by have := hs.b0; omega)
 have hn0 : 1 ≤ n := by have := hs.b0; omega
 have hn1 : n ≤ 64 := by have := hs.b1; omega
 rw [hn] at hshape ⊢
 have HRD := Lib.hid hrd2
 have HSHP := Lib.hid hshape
 have HPG := Lib.hid hpg
 clear hpg hrd hrd2 hshape hs hX hby hE hn hl hp
 unfold scanL
 rcases hh : E 0 with ⟨⟨ha, hb, hsq, hpgs, hkd, hdt⟩, her⟩
 have hr0 := HRD.out w (Below.refl _ _) 0
 have hp0 := HPG.out 0
 rw [hh] at hr0 hp0
 simp only at hp0 ⊢
 have HR0 := Lib.hid hr0
 have HP0 := Lib.hid hp0
 clear hr0 hp0 hh
 by_cases c1 : her = 0
 ·subst c1
  by_cases c2 : hkd = 1
  ·subst c2
   by_cases c3 : 0 < hdt.length
   ·rw [if_pos (.inr (.inr c3))]
    have e3 : decide ((0 : Int) < (hdt.length : Int)) = true := by simp; omega
    have C3 := Lib.hid c3
    clear c3 HP0
    go_enter Tryz.func40, Tryz.ntmps40
    go_wp2_with fail
    go_wp2_with (go_at_call 72; (with_reducible refine HR0.out.mono ?_); rintro e w1 ⟨v1, rfl, hd1, hb1⟩; obtain ⟨A1, c1, rfl, -, -⟩ := hd1.reads; have HB1 := Aside0.mk hb1; clear hb1 hd1)
    try rw [Exit.noGoto_ret]
    go_ret3
    exact ⟨_, rfl, Kd.R_nil _ _ _ _ _, below_alloc HB1.out _⟩
   ·obtain ⟨hp1, hp2⟩ := HP0.out rfl
    have hdt0 : hdt = [] := List.eq_nil_of_length_eq_zero (by omega)
    subst hdt0
    rw [if_neg (by simp)]
    obtain ⟨L, hL⟩ : ∃ L, L = scanF E (n : Int) hsq 64 hpgs := ⟨_, rfl⟩
    rw [← hL]
    have HL := Lib.hid hL
    clear hL c3 HP0
    go_enter Tryz.func40, Tryz.ntmps40
    go_wp2_with fail
    go_wp2_with (go_at_call 72; (with_reducible refine HR0.out.mono ?_); rintro e w1 ⟨v1, rfl, hd1, hb1⟩; obtain ⟨A1, c1, rfl, -, -⟩ := hd1.reads; have HB1 := Aside0.mk hb1; clear hb1 hd1)
    go_wp2_with fail
    go_loopw [9, 10] (fun v9 v10 wr => ∃ (f : Nat) (page : Int) (l : List En), v10 = .int .i64 page ∧ 1 ≤ page ∧ page ≤ 321 ∧ kEnt.R TE wr w.heap.size (fun k => w.heap.size ≤ k ∧ k ≠ w1.heap.size) v9 l ∧ L = l ++ scanF E (n : Int) hsq f page ∧ (n : Int) - page ≤ f ∧ (l.length : Int) ≤ page ∧ Below w.heap.size w wr ∧ wr.heap[w1.heap.size]? = some (.cells #[.int .i64 ha, .int .i64 hb, .int .u64 hsq, .int .i64 hpgs, .int .u8 1, .slice A1 0 c1] TE (0, 0))) (fun _ v10 _ => ((n : Int) - intOf v10).toNat)
    case atStart => exact ⟨64, hpgs, [], rfl, hp1, by omega, Kd.R_nil _ _ _ _ _, by rw [HL.out]; rfl, by omega, by simp; omega, below_alloc HB1.out _, blk_new _ _⟩
    case round =>
     obtain ⟨f, page, l, rfl, hpa, hpb, hR, hLL, hf, hll, hb, hH⟩ := hrel
     obtain ⟨A9, c9, rfl⟩ := Kd.R_slice hR
     have HR := Aside0.mk hR
     have HLL := Lib.hid hLL
     have HB := Aside0.mk hb
     have HH := Lib.hid hH
     have HLT := Lib.hid hll
     obtain ⟨y0, y1, y2, y3, y4, y5, -⟩ := ent_cells hH
     have kn := HSHP.out _ hb
     clear hR hLL hb hH hll
     by_cases hlt : page < (n : Int)
     ·clear y0 y1 y2 y3 y4 y5
      rcases hx : E page with ⟨⟨xa, xb, xsq, xpg, xkd, xdt⟩, xer⟩
      have hrx := fun (X : World) (hX : Below w.heap.size w X) => HRD.out X hX page
      rw [hx] at hrx
      have HRX := Lib.hid hrx
      have HX := Lib.hid hx
      clear hrx hx
      by_cases x1 : xer = 0
      ·subst x1
       by_cases x2 : xkd = 1
       ·subst x2
        have HBAD := Lib.hid (show (E page).2 ≠ 0 ∨ (E page).1.kind = 1 ∨ (E page).1.seq ≠ hsq from .inr (.inl (by rw [HX.out])))
        go_wp2_with (first
         | (go_at_call 72; (with_reducible refine (HRX.out _ HB.out).mono ?_); rintro e w4 ⟨v4, rfl, hd4, hb4⟩; obtain ⟨A4, c4, rfl, -, -⟩ := hd4.reads; have HB4 := Aside0.mk (HB.out.trans (hb4.mono HB.out.size)); have HR4 := Aside0.mk (Kd.R_below HR.out hb4); have h4 := (hb4.block _ (blt HH.out)).trans HH.out; obtain ⟨y0, y1, y2, y3, y4, y5, -⟩ := ent_cells h4; have HH4 := Lib.hid h4; have HD4 := Aside0.mk (Dat.mono (Dat.lower hd4 HB.out.size) (fun k hk => Nat.le_trans HB.out.size hk)); have hz4 : w1.heap.size < w4.heap.size := blt h4; clear hb4 hd4 h4))
        try rw [Exit.noGoto_ret]
        go_ret3
        rw [HLL.out, scanF_bad HBAD.out, List.append_nil]
        exact ⟨_, rfl, Kd.R_below (Kd.R_mono HR4.out (fun k hk => hk.1)) (below_alloc (Below.refl _ _) _), below_alloc HB4.out _⟩
       ·have e2 : (xkd == 1) = false := by simpa using x2
        by_cases x3 : xsq = hsq
        ·subst x3
         have hpx := HPG.out page
         rw [HX.out] at hpx
         obtain ⟨hq1, hq2⟩ := hpx rfl
         simp only at hq1 hq2
         obtain ⟨f, rfl⟩ : ∃ f', f = f' + 1 := ⟨f - 1, by omega⟩
         have hgood := scanF_good (E := E) (n := (n : Int)) (sq := xsq) (f := f) (page := page) ⟨by omega, hlt⟩ (by rw [HX.out]) (by rw [HX.out]; exact x2) (by rw [HX.out])
         rw [HX.out] at hgood
         simp only at hgood
         have HGOOD := Lib.hid hgood
         clear hgood hpx x2
         go_wp2_with (first
          | (go_at_call 72; (with_reducible refine (HRX.out _ HB.out).mono ?_); rintro e w4 ⟨v4, rfl, hd4, hb4⟩; obtain ⟨A4, c4, rfl, -, -⟩ := hd4.reads; have HB4 := Aside0.mk (HB.out.trans (hb4.mono HB.out.size)); have hr4 := Kd.R_below HR.out hb4; have h4 := (hb4.block _ (blt HH.out)).trans HH.out; obtain ⟨y0, y1, y2, y3, y4, y5, -⟩ := ent_cells h4; have hz4 : w1.heap.size < w4.heap.size := blt h4; obtain ⟨hr5, okp, hm5, hok5⟩ := scan_app ⟨xa, xb, xsq, xpg, xkd, xdt⟩ h4 hr4 (Dat.mono (Dat.lower hd4 HB.out.size) (fun k hk => Nat.le_trans HB.out.size hk)) (.cells #[.int .i64 xa, .int .i64 xb, .int .u64 xsq, .int .i64 xpg, .int .u8 xkd, .slice A4 xdt.length c4] TE); have HR5 := Aside0.mk hr5; have HM5 := Aside0.mk hm5; have HOK5 := Lib.hid hok5; have HB5 := Aside0.mk (below_alloc HB4.out (.cells #[.int .i64 xa, .int .i64 xb, .int .u64 xsq, .int .i64 xpg, .int .u8 xkd, .slice A4 xdt.length c4] TE)); have HZ4 := Lib.hid h4; clear hb4 hd4 h4 hr4 hr5 hm5 hok5)
          | (at_builtin; refine Kd.R_append kEnt (w0 := w) w.heap.size rfl (.tmp 64) (.tmp 66) 43 TE (.agg #[.int .i64 0, .int .i64 0, .int .u64 0, .int .i64 0, .int .u8 0, .slice none 0 0]) 64 rfl Tryz.underlying43 info_ent rfl (by decide) (by decide) (.slice A9 l.length c9) l ⟨xa, xb, xsq, xpg, xkd, xdt⟩ (enC ⟨xa, xb, xsq, xpg, xkd, xdt⟩ (.slice A4 xdt.length c4)) (fun k => (w.heap.size ≤ k ∧ k ≠ w1.heap.size) ∧ k ≠ w4.heap.size) okp rfl (by simp [Act.eval]) HM5.out HOK5.out (fun k hk => by have := HB4.out.size; have := blt HZ4.out; simp at hk; omega) HR5.out HB5.out HB5.out.size (by have := HLT.out; omega) ?_; intro v6 w6 hr6 hb6 hg6 hat6; have hbx := (hg6.block w4.heap.size (by simp) (own_ne HR5.out (by simp))).trans (blk_new w4 _); have hb1 := (hg6.block w1.heap.size (by simp; omega) (own_ne HR5.out (by simp))).trans ((Below.heap_alloc _ _ _ (blt HZ4.out)).trans HZ4.out); have HX6 := Lib.hid hbx; have HH6 := Lib.hid hb1; obtain ⟨z0, z1, z2, z3, z4, z5, -⟩ := ent_cells hbx; have HR6 := Aside0.mk hr6; have HB6 := Aside0.mk hb6; clear hr6 hb6 hg6 hat6 hbx hb1 y0 y1 y2 y3 y4 y5))
         refine ⟨⟨f, page + xpg, l ++ [⟨xa, xb, xsq, xpg, xkd, xdt⟩], by go_num, by omega, by omega, Kd.R_mono HR6.out (fun k hk => hk.1), by rw [HLL.out, HGOOD.out]; simp, by omega, by have := HLT.out; simp; omega, HB6.out, HH6.out⟩, by simp [intOf]; omega⟩
        ·have e3 : (xsq != hsq) = true := bne_iff_ne.2 x3
         have HBAD := Lib.hid (show (E page).2 ≠ 0 ∨ (E page).1.kind = 1 ∨ (E page).1.seq ≠ hsq from .inr (.inr (by rw [HX.out]; exact x3)))
         clear x2 x3
         go_wp2_with (first
          | (go_at_call 72; (with_reducible refine (HRX.out _ HB.out).mono ?_); rintro e w4 ⟨v4, rfl, hd4, hb4⟩; obtain ⟨A4, c4, rfl, -, -⟩ := hd4.reads; have HB4 := Aside0.mk (HB.out.trans (hb4.mono HB.out.size)); have HR4 := Aside0.mk (Kd.R_below HR.out hb4); have h4 := (hb4.block _ (blt HH.out)).trans HH.out; obtain ⟨y0, y1, y2, y3, y4, y5, -⟩ := ent_cells h4; have HH4 := Lib.hid h4; have HD4 := Aside0.mk (Dat.mono (Dat.lower hd4 HB.out.size) (fun k hk => Nat.le_trans HB.out.size hk)); have hz4 : w1.heap.size < w4.heap.size := blt h4; clear hb4 hd4 h4))
         try rw [Exit.noGoto_ret]
         go_ret3
         rw [HLL.out, scanF_bad HBAD.out, List.append_nil]
         exact ⟨_, rfl, Kd.R_below (Kd.R_mono HR4.out (fun k hk => hk.1)) (below_alloc (Below.refl _ _) _), below_alloc HB4.out _⟩
      ·have e1 : (xer != 0) = true := bne_iff_ne.2 x1
       have HBAD := Lib.hid (show (E page).2 ≠ 0 ∨ (E page).1.kind = 1 ∨ (E page).1.seq ≠ hsq from .inl (by rw [HX.out]; exact x1))
       clear x1
       go_wp2_with (first
        | (go_at_call 72; (with_reducible refine (HRX.out _ HB.out).mono ?_); rintro e w4 ⟨v4, rfl, hd4, hb4⟩; obtain ⟨A4, c4, rfl, -, -⟩ := hd4.reads; have HB4 := Aside0.mk (HB.out.trans (hb4.mono HB.out.size)); have HR4 := Aside0.mk (Kd.R_below HR.out hb4); have h4 := (hb4.block _ (blt HH.out)).trans HH.out; obtain ⟨y0, y1, y2, y3, y4, y5, -⟩ := ent_cells h4; have HH4 := Lib.hid h4; have HD4 := Aside0.mk (Dat.mono (Dat.lower hd4 HB.out.size) (fun k hk => Nat.le_trans HB.out.size hk)); have hz4 : w1.heap.size < w4.heap.size := blt h4; clear hb4 hd4 h4))
       try rw [Exit.noGoto_ret]
       go_ret3
       rw [HLL.out, scanF_bad HBAD.out, List.append_nil]
       exact ⟨_, rfl, Kd.R_below (Kd.R_mono HR4.out (fun k hk => hk.1)) (below_alloc (Below.refl _ _) _), below_alloc HB4.out _⟩
     ·have HEND := Lib.hid (show ¬ (0 ≤ page ∧ page < (n : Int)) from fun h => hlt h.2)
      go_wp2
      try rw [Exit.noGoto_ret]
      go_ret3
      rw [HLL.out, scanF_end HEND.out, List.append_nil]
      exact ⟨_, rfl, Kd.R_mono HR.out (fun k hk => hk.1), HB.out⟩
  ·rw [if_pos (.inr (.inl c2))]
   have e2 : (hkd != 1) = true := bne_iff_ne.2 c2
   clear c2 HP0
   go_enter Tryz.func40, Tryz.ntmps40
   go_wp2_with fail
   go_wp2_with (go_at_call 72; (with_reducible refine HR0.out.mono ?_); rintro e w1 ⟨v1, rfl, hd1, hb1⟩; obtain ⟨A1, c1, rfl, -, -⟩ := hd1.reads; have HB1 := Aside0.mk hb1; clear hb1 hd1)
   try rw [Exit.noGoto_ret]
   go_ret3
   exact ⟨_, rfl, Kd.R_nil _ _ _ _ _, below_alloc HB1.out _⟩
 ·rw [if_pos (.inl c1)]
  have e1 : (her != 0) = true := bne_iff_ne.2 c1
  clear c1 HP0
  go_enter Tryz.func40, Tryz.ntmps40
  go_wp2_with fail
  go_wp2_with (go_at_call 72; (with_reducible refine HR0.out.mono ?_); rintro e w1 ⟨v1, rfl, hd1, hb1⟩; obtain ⟨A1, c1, rfl, -, -⟩ := hd1.reads; have HB1 := Aside0.mk hb1; clear hb1 hd1)
  try rw [Exit.noGoto_ret]
  go_ret3
  exact ⟨_, rfl, Kd.R_nil _ _ _ _ _, below_alloc HB1.out _⟩
end
end Go.Proofs.YtmbiebdcnadhkaaGreat.Fl
namespace Go.Proofs.YtmbiebdcnadhkaaGreat.Fl
open Go.RowKit Go.Proofs.YtmbiebdcnadhkaaGreatW.PrintWords Go.Proofs.YtmbiebdcnadhkaaGreatW.PrintMore Go.Maps
end Go.Proofs.YtmbiebdcnadhkaaGreat.Fl
namespace Go.Proofs.YtmbiebdcnadhkaaGreat.Fl
open Go.RowKit Go.Proofs.YtmbiebdcnadhkaaGreatW.PrintWords Go.Proofs.YtmbiebdcnadhkaaGreatW.PrintMore Go.Maps
def sameB (e f : En) : Bool := decide (e.a = f.a ∧ e.b = f.b ∧ e.seq = f.seq ∧ e.pages = f.pages ∧ e.kind = f.kind ∧ e.data = f.data)
theorem sameB_self (e : En) : sameB e e = true := decide_eq_true ⟨rfl, rfl, rfl, rfl, rfl, rfl⟩
set_option maxHeartbeats 2000000 in
set_option maxRecDepth 100000 in
theorem SameEntry_ok {w : World} {A B : Option Addr} {c d : Nat} {e f : En} (hl : kB.C w A e.data.length e.data) (hm : kB.C w B f.data.length f.data) (h0 : e.data.length < 1000000) (h1 : f.data.length < 1000000) :
  Calls Tryz.prog 73 #[.agg #[.int .i64 e.a, .int .i64 e.b, .int .u64 e.seq, .int .i64 e.pages, .int .u8 e.kind, .slice A e.data.length c], .agg #[.int .i64 f.a, .int .i64 f.b, .int .u64 f.seq, .int .i64 f.pages, .int .u8 f.kind, .slice B f.data.length d]] w fun r w' => r = .returned (.bool (sameB e f)) ∧ Below w.heap.size w w' := by
 obtain ⟨W, hW⟩ : ∃ W, W = (w.alloc (.cells #[.int .i64 e.a, .int .i64 e.b, .int .u64 e.seq, .int .i64 e.pages, .int .u8 e.kind, .slice A e.data.length c] TE)).alloc (.cells #[.int .i64 f.a, .int .i64 f.b, .int .u64 f.seq, .int .i64 f.pages, .int .u8 f.kind, .slice B f.data.length d] TE) := ⟨_, rfl⟩
 have q0 : W.heap[w.heap.size]? = some (.cells #[.int .i64 e.a, .int .i64 e.b, .int .u64 e.seq, .int .i64 e.pages, .int .u8 e.kind, .slice A e.data.length c] TE (0, 0)) := by
  rw [hW]; exact (Below.heap_alloc _ _ _ (by simp)).trans (blk_new w _)
 have q1 : W.heap[w.heap.size + 1]? = some (.cells #[.int .i64 f.a, .int .i64 f.b, .int .u64 f.seq, .int .i64 f.pages, .int .u8 f.kind, .slice B f.data.length d] TE (0, 0)) := by
  rw [hW]; have := blk_new (w.alloc (.cells #[.int .i64 e.a, .int .i64 e.b, .int .u64 e.seq, .int .i64 e.pages, .int .u8 e.kind, .slice A e.data.length c] TE)) (.cells #[.int .i64 f.a, .int .i64 f.b, .int .u64 f.seq, .int .i64 f.pages, .int .u8 f.kind, .slice B f.data.length d] TE); rwa [World.size_alloc] at this
 have qb : Below w.heap.size w W := by rw [hW]; exact below_alloc (below_alloc (Below.refl _ _) _) _
 have hby := Bytes_any (c := c) (d := d) (Kd.C_below hl qb) (Kd.C_below hm qb) h0 h1
 obtain ⟨a0, a1, a2, a3, a4, ad⟩ := e
 obtain ⟨b0, b1, b2, b3, b4, bd⟩ := f
 simp only at q0 q1 qb hby hW ⊢
 obtain ⟨n, hn⟩ : ∃ n, n = ad.length := ⟨_, rfl⟩
 obtain ⟨m, hmm⟩ : ∃ n, n = bd.length := ⟨_, rfl⟩
 rw [← hn] at q0 hby hW ⊢
 rw [← hmm] at q1 hby hW ⊢
 obtain ⟨x0, x1, x2, x3, x4, x5, -⟩ := ent_cells q0
 obtain ⟨y0, y1, y2, y3, y4, y5, -⟩ := ent_cells q1
 have HW := Lib.hid hW
 have QB := Aside0.mk qb
 have HBY := Lib.hid hby
 clear hW qb q0 q1 hby hl hm h0 h1 hn hmm
 by_cases c0 : a0 = b0
 ·by_cases c1 : a1 = b1
  ·by_cases c2 : a2 = b2
   ·by_cases c3 : a3 = b3
    ·by_cases c4 : a4 = b4
     ·subst c0 c1 c2 c3 c4
      have hr : sameB ⟨a0, a1, a2, a3, a4, ad⟩ ⟨a0, a1, a2, a3, a4, bd⟩ = decide (ad = bd) := by unfold sameB; simp
      rw [hr]
      generalize decide (ad = bd) = r at HBY ⊢
      clear hr
      go_enter Tryz.func73, Tryz.ntmps73
      go_wp2_with fail
      rw [← HW.out]
      go_wp2_with (go_at_call 61; (with_reducible refine HBY.out.mono ?_); rintro e w1 ⟨rfl, hb⟩; have HB := Aside0.mk hb; clear hb)
      go_ret
      exact ⟨rfl, QB.out.trans (HB.out.mono QB.out.size)⟩
     ·have e4 : (a4 == b4) = false := by simpa using c4
      have hr : sameB ⟨a0, a1, a2, a3, a4, ad⟩ ⟨b0, b1, b2, b3, b4, bd⟩ = false := decide_eq_false (fun h => c4 h.2.2.2.2.1)
      rw [hr]
      subst c0 c1 c2 c3
      clear hr c4
      go_enter Tryz.func73, Tryz.ntmps73
      go_wp2_with fail
      rw [← HW.out]
      go_wp2
      go_ret
      exact ⟨rfl, QB.out⟩
    ·have e4 : (a3 == b3) = false := by simpa using c3
     have hr : sameB ⟨a0, a1, a2, a3, a4, ad⟩ ⟨b0, b1, b2, b3, b4, bd⟩ = false := decide_eq_false (fun h => c3 h.2.2.2.1)
     rw [hr]
     subst c0 c1 c2
     clear hr c3
     go_enter Tryz.func73, Tryz.ntmps73
     go_wp2_with fail
     rw [← HW.out]
     go_wp2
     go_ret
     exact ⟨rfl, QB.out⟩
   ·have e4 : (a2 == b2) = false := by simpa using c2
    have hr : sameB ⟨a0, a1, a2, a3, a4, ad⟩ ⟨b0, b1, b2, b3, b4, bd⟩ = false := decide_eq_false (fun h => c2 h.2.2.1)
    rw [hr]
    subst c0 c1
    clear hr c2
    go_enter Tryz.func73, Tryz.ntmps73
    go_wp2_with fail
    rw [← HW.out]
    go_wp2
    go_ret
    exact ⟨rfl, QB.out⟩
  ·have e4 : (a1 == b1) = false := by simpa using c1
   have hr : sameB ⟨a0, a1, a2, a3, a4, ad⟩ ⟨b0, b1, b2, b3, b4, bd⟩ = false := decide_eq_false (fun h => c1 h.2.1)
   rw [hr]
   subst c0
   clear hr c1
   go_enter Tryz.func73, Tryz.ntmps73
   go_wp2_with fail
   rw [← HW.out]
   go_wp2
   go_ret
   exact ⟨rfl, QB.out⟩
 ·have e4 : (a0 == b0) = false := by simpa using c0
  have hr : sameB ⟨a0, a1, a2, a3, a4, ad⟩ ⟨b0, b1, b2, b3, b4, bd⟩ = false := decide_eq_false (fun h => c0 h.1)
  rw [hr]
  clear hr c0
  go_enter Tryz.func73, Tryz.ntmps73
  go_wp2_with fail
  rw [← HW.out]
  go_wp2
  go_ret
  exact ⟨rfl, QB.out⟩
end Go.Proofs.YtmbiebdcnadhkaaGreat.Fl
namespace Go.Proofs.YtmbiebdcnadhkaaGreat.Fl
open Go.RowKit Go.Proofs.YtmbiebdcnadhkaaGreatW.PrintWords Go.Proofs.YtmbiebdcnadhkaaGreatW.PrintMore Go.Maps
structure ECell (w : World) (g i : Nat) (e : En) (A : Option Addr) (c : Nat) : Prop where
 c0 : w.cell? ⟨g, i * 6, none⟩ = some (.int .i64 e.a)
 c1 : w.cell? ⟨g, i * 6 + 1, none⟩ = some (.int .i64 e.b)
 c2 : w.cell? ⟨g, i * 6 + 2, none⟩ = some (.int .u64 e.seq)
 c3 : w.cell? ⟨g, i * 6 + 3, none⟩ = some (.int .i64 e.pages)
 c4 : w.cell? ⟨g, i * 6 + 4, none⟩ = some (.int .u8 e.kind)
 c5 : w.cell? ⟨g, i * 6 + 5, none⟩ = some (.slice A e.data.length c)
 row : kB.C w A e.data.length e.data
 cap : e.data.length ≤ c
def ERow (w : World) (A : Option Addr) (l : List En) : Prop := ∀ (i : Nat) (e : En), l[i]? = some e → ∃ g A1 c1, A = some ⟨g, 0, none⟩ ∧ ECell w g i e A1 c1
theorem ECell.below {w w' : World} {g i : Nat} {e : En} {A : Option Addr} {c : Nat} (h : ECell w g i e A c) (hb : Below w.heap.size w w') : ECell w' g i e A c :=
 have f : ∀ {a : Addr} {v : Value}, w.cell? a = some v → w'.cell? a = some v := fun h => (hb.cell (blt_of_cell h)).trans h
 ⟨f h.c0, f h.c1, f h.c2, f h.c3, f h.c4, f h.c5, Kd.C_below h.row hb, h.cap⟩
theorem ERow.below {w w' : World} {A : Option Addr} {l : List En} (h : ERow w A l) (hb : Below w.heap.size w w') : ERow w' A l := fun i e hi => by
 obtain ⟨g, A1, c1, h1, h2⟩ := h i e hi
 exact ⟨g, A1, c1, h1, h2.below hb⟩
theorem ERow.take {w : World} {A : Option Addr} {l : List En} (h : ERow w A l) (k : Nat) : ERow w A (l.take k) := fun i e hi => by
 rw [List.getElem?_take] at hi
 split at hi
 ·exact h i e hi
 ·cases hi
theorem ERow.ofR {w : World} {base : Nat} {ok : Nat → Prop} {v : Value} {l : List En} (h : kEnt.R TE w base ok v l) : ∃ A c, v = .slice A l.length c ∧ l.length ≤ c ∧ ERow w A l := by
 have hR := h
 obtain ⟨A, c, rfl, hc, hC⟩ := Kd.R_reads hR
 refine ⟨A, c, rfl, hc, fun i e hi => ?_⟩
 have hpos : 0 < l.length := Nat.lt_of_le_of_lt (Nat.zero_le i) (List.getElem?_eq_some_iff.1 hi).1
 obtain ⟨ad, rfl, hcc⟩ := hC.2.2 hpos
 obtain ⟨g, rfl⟩ : ∃ g, ad = ⟨g, 0, none⟩ := by
  obtain ⟨_, inner, ho, _⟩ := h
  rcases ho.2 with ⟨hv, _⟩ | ⟨g, cap', cur, hv, _⟩
  ·cases hv
  ·injection hv with ha _ _
   injection ha with ha
   exact ⟨g, ha⟩
 obtain ⟨cs, _, ⟨A1, c1, rfl, hc1, hr1⟩, hcell⟩ := hcc i e hi
 have f : ∀ j u, (enC e (.slice A1 e.data.length c1))[j]? = some u → w.cell? ⟨g, i * 6 + j, none⟩ = some u := fun j u hj => by
  have := hcell j u hj
  rw [add_plain] at this
  exact this
 exact ⟨g, A1, c1, rfl, f 0 _ rfl, f 1 _ rfl, f 2 _ rfl, f 3 _ rfl, f 4 _ rfl, f 5 _ rfl, hr1, hc1⟩
set_option maxHeartbeats 2000000 in
set_option maxRecDepth 100000 in
theorem SameEntries_ok {w : World} {A B : Option Addr} {c d : Nat} {l : List En} (hA : ERow w A l) (hB : ERow w B l) (hl : l.length ≤ 1000000) (hd : ∀ e ∈ l, e.data.length < 1000000) :
  Calls Tryz.prog 37 #[.slice A l.length c, .slice B l.length d] w fun r w' => r = .returned (.bool true) ∧ Below w.heap.size w w' := by
 obtain ⟨n, hn⟩ : ∃ n, n = l.length := ⟨_, rfl⟩
 have HA := Lib.hid hA
 have HB := Lib.hid hB
 have HD := Lib.hid hd
 have HN := Lib.hid hn
 rw [← hn] at hl
 rw [← hn]
 clear hA hB hd hn
 go_enter Tryz.func37, Tryz.ntmps37
 go_wp2
 go_loopw [5, 13] (fun v5 v13 wr => ∃ k : Nat, k ≤ n ∧ v13 = .int .i64 (k : Int) ∧ Below w.heap.size w wr) (fun _ v13 _ => n - (intOf v13).toNat)
 case atStart => exact ⟨0, Nat.zero_le _, rfl, Below.refl _ _⟩
 case round =>
  obtain ⟨k, hk, rfl, hb⟩ := hrel
  have HBW := Aside0.mk hb
  clear hb
  by_cases hlt : k < n
  ·obtain ⟨e, he⟩ : ∃ e, l[k]? = some e := ⟨_, List.getElem?_eq_getElem (by have := HN.out; omega)⟩
   obtain ⟨g, A1, c1, hA, hc⟩ := HA.out k e he
   obtain ⟨g2, A2, c2, hB, hc2⟩ := HB.out k e he
   have hde := HD.out e (List.mem_of_getElem? he)
   subst hA hB
   have hall := fun (X : World) (hX : Below w.heap.size w X) => show X.cell? ⟨g, k * 6, none⟩ = some (.int .i64 e.a) ∧ X.cell? ⟨g, k * 6 + 1, none⟩ = some (.int .i64 e.b) ∧ X.cell? ⟨g, k * 6 + 2, none⟩ = some (.int .u64 e.seq) ∧ X.cell? ⟨g, k * 6 + 3, none⟩ = some (.int .i64 e.pages) ∧ X.cell? ⟨g, k * 6 + 4, none⟩ = some (.int .u8 e.kind) ∧ X.cell? ⟨g, k * 6 + 5, none⟩ = some (.slice A1 e.data.length c1) ∧ X.cell? ⟨g2, k * 6, none⟩ = some (.int .i64 e.a) ∧ X.cell? ⟨g2, k * 6 + 1, none⟩ = some (.int .i64 e.b) ∧ X.cell? ⟨g2, k * 6 + 2, none⟩ = some (.int .u64 e.seq) ∧ X.cell? ⟨g2, k * 6 + 3, none⟩ = some (.int .i64 e.pages) ∧ X.cell? ⟨g2, k * 6 + 4, none⟩ = some (.int .u8 e.kind) ∧ X.cell? ⟨g2, k * 6 + 5, none⟩ = some (.slice A2 e.data.length c2) from
    ⟨(hc.below hX).c0, (hc.below hX).c1, (hc.below hX).c2, (hc.below hX).c3, (hc.below hX).c4, (hc.below hX).c5, (hc2.below hX).c0, (hc2.below hX).c1, (hc2.below hX).c2, (hc2.below hX).c3, (hc2.below hX).c4, (hc2.below hX).c5⟩
   have hsame := fun (X : World) (hX : Below w.heap.size w X) => SameEntry_ok (e := e) (f := e) (c := c1) (d := c2) (hc.below hX).row (hc2.below hX).row hde hde
   rw [sameB_self] at hsame
   obtain ⟨j0, j1, j2, j3, j4, j5, i0, i1, i2, i3, i4, i5⟩ := hall wr HBW.out
   have HALL := Lib.hid hall
   have HS := Lib.hid hsame
   have k0 : (0 : Int) ≤ (k : Int) := by omega
   have k2 : (k : Int) < (n : Int) := by omega
   clear hall hsame hc hc2 he hde
   go_wp2_with fail
   go_region_held3 (fun w' => w'.cell? ⟨g, k * 6, none⟩ = some (.int .i64 e.a) ∧ w'.cell? ⟨g, k * 6 + 1, none⟩ = some (.int .i64 e.b) ∧ w'.cell? ⟨g, k * 6 + 2, none⟩ = some (.int .u64 e.seq) ∧ w'.cell? ⟨g, k * 6 + 3, none⟩ = some (.int .i64 e.pages) ∧ w'.cell? ⟨g, k * 6 + 4, none⟩ = some (.int .u8 e.kind) ∧ w'.cell? ⟨g, k * 6 + 5, none⟩ = some (.slice A1 e.data.length c1) ∧ w'.cell? ⟨g2, k * 6, none⟩ = some (.int .i64 e.a) ∧ w'.cell? ⟨g2, k * 6 + 1, none⟩ = some (.int .i64 e.b) ∧ w'.cell? ⟨g2, k * 6 + 2, none⟩ = some (.int .u64 e.seq) ∧ w'.cell? ⟨g2, k * 6 + 3, none⟩ = some (.int .i64 e.pages) ∧ w'.cell? ⟨g2, k * 6 + 4, none⟩ = some (.int .u8 e.kind) ∧ w'.cell? ⟨g2, k * 6 + 5, none⟩ = some (.slice A2 e.data.length c2)) (first | go_keep | exact HALL.out _ HB1.out)
    (first | (go_at_call 73; (with_reducible refine (HS.out _ (below_drew HBW.out)).mono ?_); rintro r w1 ⟨rfl, hb⟩; have HB1 := Aside0.mk (HBW.out.trans ((undrew hb).mono HBW.out.size)); clear hb))
   go_wp2
   exact ⟨⟨k + 1, by omega, by go_num, HB1.out⟩, by simp [intOf]; omega⟩
  ·obtain rfl : k = n := by omega
   go_wp2
   go_ret
   exact ⟨rfl, HBW.out⟩
def cleanD (D : PD) (a : Int) : Bool := hasB D.s a 0 && (List.range D.s.2.1.toNat).all fun i => !usedB D a (i : Int)
section
variable {N0 p : Nat} {D : PD} {w : World} {ok : Nat → Prop}
set_option maxHeartbeats 2000000 in
set_option maxRecDepth 100000 in
theorem Clean_any (hD : DevIs N0 p D ok w) (a : Int) : Calls Tryz.prog 67 #[.pointer (some ⟨p, 0, none⟩), .int .i64 a] w fun e w' => e = .returned (.bool (cleanD D a)) ∧ Below w.heap.size w w' := by
 have hs : ShapeOk D.s := by
  obtain ⟨m, v, es, ck, hD⟩ := hD
  exact hD.shape
 have hth := there_any hD a 0
 have hshape := fun (X : World) (hX : Below w.heap.size w X) => Shape_any (hD.below hX)
 have hus := fun (X : World) (hX : Below w.heap.size w X) (y : Int) => Used_any (hD.below hX) a y
 obtain ⟨n, hn⟩ := Int.eq_ofNat_of_zero_le (show 0 ≤ D.s.2.1 by have := hs.b0; omega)
 have hn1 : n ≤ 64 := by have := hs.b1; omega
 have hcl : cleanD D a = (hasB D.s a 0 && (List.range n).all fun i => !usedB D a (i : Int)) := by unfold cleanD; rw [hn]; rfl
 rw [hcl]
 rw [hn] at hshape
 have HTH := Lib.hid hth
 have HSHP := Lib.hid hshape
 have HUS := Lib.hid hus
 clear hth hshape hus hs hD hcl hn
 cases hb : hasB D.s a 0 with
 | false =>
  have HTE := Lib.hid (show hasE D.s a 0 = 6 by unfold hasE; rw [hb]; rfl)
  clear hb
  go_enter Tryz.func67, Tryz.ntmps67
  go_wp2_with (go_at_call 88; (with_reducible refine HTH.out.mono ?_); rw [HTE.out]; rintro e w1 ⟨rfl, hb⟩; have HB1 := Aside0.mk hb; clear hb)
  go_ret
  exact ⟨rfl, HB1.out⟩
 | true =>
  have HTE := Lib.hid (show hasE D.s a 0 = 0 by unfold hasE; rw [hb]; rfl)
  clear hb
  go_enter Tryz.func67, Tryz.ntmps67
  have rs := fun (X : World) => run_shape2 X D.s.1 (n : Int) D.s.2.2
  go_wp2_with (first
   | (go_at_call 88; (with_reducible refine HTH.out.mono ?_); rw [HTE.out]; rintro e w1 ⟨rfl, hb⟩; have HB1 := Aside0.mk hb; clear hb)
   | (go_at_call 58; (with_reducible refine (HSHP.out _ HB1.out).mono ?_); rintro e w2 ⟨rfl, hb2⟩; have HB2 := Aside0.mk (HB1.out.trans (hb2.mono HB1.out.size)); clear hb2))
  go_loopw [5, 13] (fun v5 v13 wr => ∃ k : Nat, k ≤ n ∧ v13 = .int .i64 (k : Int) ∧ ((List.range k).all fun i => !usedB D a (i : Int)) = true ∧ Below w.heap.size w wr) (fun _ v13 _ => n - (intOf v13).toNat)
  case atStart => exact ⟨0, Nat.zero_le _, rfl, rfl, HB2.out⟩
  case round =>
   obtain ⟨k, hk, rfl, hal, hb⟩ := hrel
   have HBW := Aside0.mk hb
   have HAL := Lib.hid hal
   clear hb hal
   by_cases hlt : k < n
   ·have k0 : (0 : Int) ≤ (k : Int) := by omega
    have k2 : (k : Int) < (n : Int) := by omega
    cases hu : usedB D a (k : Int) with
    | true =>
     have HU := Lib.hid hu
     have HF := Lib.hid (show ((List.range n).all fun i => !usedB D a (i : Int)) = false by
      rw [List.all_eq_false]
      exact ⟨k, List.mem_range.2 hlt, by rw [hu]; decide⟩)
     clear hu
     go_wp2_with (go_at_call 63; (with_reducible refine (HUS.out _ HBW.out _).mono ?_); rw [HU.out]; rintro e w3 ⟨rfl, rfl⟩)
     go_ret
     rw [HF.out]
     exact ⟨rfl, HBW.out⟩
    | false =>
     have HU := Lib.hid hu
     clear hu
     go_wp2_with (go_at_call 63; (with_reducible refine (HUS.out _ HBW.out _).mono ?_); rw [HU.out]; rintro e w3 ⟨rfl, rfl⟩)
     exact ⟨⟨k + 1, by omega, by go_num, by rw [List.range_succ, List.all_append, HAL.out]; simp [HU.out], HBW.out⟩, by simp [intOf]; omega⟩
   ·obtain rfl : k = n := by omega
    go_wp2
    go_ret
    rw [HAL.out]
    exact ⟨rfl, HBW.out⟩
end
end Go.Proofs.YtmbiebdcnadhkaaGreat.Fl
namespace Go.Proofs.YtmbiebdcnadhkaaGreat.Fl
open Go.RowKit Go.Proofs.YtmbiebdcnadhkaaGreatW.PrintWords Go.Proofs.YtmbiebdcnadhkaaGreatW.PrintMore Go.Maps
section
variable {D : PD} {s : Int × Int × Int} {ps : List Pg}
theorem Sim.raw (h : Sim D s ps) (a b : Int) : rawD D a b = rawP s ps a b := by
 unfold rawD rawP
 rw [h.sh]
 have hk : ∀ k, k ≤ nRaw s a b → rawK D a b k = rawPK s.2.2.toNat ps a b k := fun k => by
  induction k with
  | zero => intro _; rfl
  | succ k ih =>
   intro hle
   rw [rawK_succ, rawPK_succ, ih (by omega)]
   have hh := (nRaw_lt (s := s) (a := a) (b := b) (i := k) (by omega)).1
   unfold gotD
   rw [h.sh, if_pos hh, h.read]
 exact hk _ (Nat.le_refl _)
theorem Sim.ent (h : Sim D s ps) (a b : Int) : entD D a b = entP s ps a b := by
 unfold entD entP
 rw [h.raw, h.sh]
theorem Sim.scan (h : Sim D s ps) (a : Int) : scanD D a = scanP s ps a := by
 unfold scanD scanP
 rw [h.sh, funext (h.ent a)]
theorem Sim.byt (h : Sim D s ps) (hb : BytP ps) : BytD D := fun a b => by
 unfold gotD
 split
 ·rw [h.read]
  unfold readP
  split
  ·rename_i p hp
   exact hb p (List.mem_of_find?_eq_some hp)
  ·exact Byt.fullT Byt.nil
 ·exact Byt.nil
end
theorem entL_data (s : Int × Int × Int) (a b : Int) (raw : List Int) : (entL s a b raw).1.data.length ≤ 4096 := by
 unfold entL
 split
 ·simp [zEn]
 ·split
  ·rename_i h
   obtain ⟨m, h1, h2, h3, h4⟩ := parsed_n h
   simp only
   omega
  ·simp [zEn]
theorem scanF_mem {E : Int → En × Int} {n sq : Int} : ∀ {f : Nat} {page : Int} {e : En}, e ∈ scanF E n sq f page → ∃ p, e = (E p).1
 | 0, _, _, h => by cases h
 | f + 1, page, e, h => by
  unfold scanF at h
  split at h
  ·split at h
   ·cases h
   ·rcases List.mem_cons.1 h with h | h
    ·exact ⟨page, h⟩
    ·exact scanF_mem h
  ·cases h
theorem scanF_len {E : Int → En × Int} {n sq : Int} : ∀ {f : Nat} {page : Int}, (scanF E n sq f page).length ≤ f
 | 0, _ => Nat.le_refl _
 | f + 1, page => by
  unfold scanF
  split
  ·split
   ·simp
   ·have := scanF_len (E := E) (n := n) (sq := sq) (f := f) (page := page + (E page).1.pages)
    simp only [List.length_cons]
    omega
  ·simp
theorem scanP_bd (s : Int × Int × Int) (ps : List Pg) (a : Int) : (scanP s ps a).2.1.length ≤ 64 ∧ ∀ e ∈ (scanP s ps a).2.1, e.data.length < 1000000 := by
 unfold scanP scanL
 split
 ·exact ⟨by simp, fun e h => by cases h⟩
 ·refine ⟨scanF_len, fun e h => ?_⟩
  obtain ⟨p, rfl⟩ := scanF_mem h
  have := entL_data s a p (rawP s ps a p)
  unfold entP
  omega
end Go.Proofs.YtmbiebdcnadhkaaGreat.Fl
namespace Go.Proofs.YtmbiebdcnadhkaaGreat.Fl
open Go.RowKit Go.Proofs.YtmbiebdcnadhkaaGreatW.PrintWords Go.Proofs.YtmbiebdcnadhkaaGreatW.PrintMore Go.Maps
structure Snap (D E : PD) (v : Int → Int → Prop) : Prop where
 sh : E.s = D.s
 used : ∀ c d, usedB E c d = true ↔ (usedB D c d = true ∧ v c d)
 got : ∀ c d, usedB E c d = true → gotD E c d = gotD D c d
def TInv (w : World) (z : Nat) (D : PD) (n : Nat) (v : Int → Int → Prop) (wr : World) : Prop :=
 ∃ E ps okx, RefIs w.heap.size (z + 1) D.s ps okx wr ∧ Sim E D.s ps ∧ BytP ps ∧ Snap D E v ∧ ps.length ≤ n ∧ (∀ k, okx k → z < k) ∧ wr.heap[z]? = some (.cells #[.int .i64 D.s.1, .int .i64 D.s.2.1, .int .i64 D.s.2.2] 23 (0, 0)) ∧ Below w.heap.size w wr
theorem TInv.below {w : World} {z : Nat} {D : PD} {n : Nat} {v : Int → Int → Prop} {wr X : World} (h : TInv w z D n v wr) (hb : Below wr.heap.size wr X) : TInv w z D n v X := by
 obtain ⟨E, ps, okx, h1, h2, h3, h4, h5, h6, h7, h8⟩ := h
 exact ⟨E, ps, okx, h1.below hb, h2, h3, h4, h5, h6, (hb.block _ (blt h7)).trans h7, h8.trans (hb.mono h8.size)⟩
theorem TInv.cells {w : World} {z : Nat} {D : PD} {n : Nat} {v : Int → Int → Prop} {wr : World} (h : TInv w z D n v wr) : wr.cell? ⟨z, 0, none⟩ = some (.int .i64 D.s.1) ∧ wr.cell? ⟨z, 1, none⟩ = some (.int .i64 D.s.2.1) ∧ wr.cell? ⟨z, 2, none⟩ = some (.int .i64 D.s.2.2) := by
 obtain ⟨E, ps, okx, h1, h2, h3, h4, h5, h6, h7, h8⟩ := h
 exact ⟨bcell h7 0, bcell h7 1, bcell h7 2⟩
section
variable {N0 p : Nat} {D : PD} {w : World} {ok : Nat → Prop}
end
end Go.Proofs.YtmbiebdcnadhkaaGreat.Fl
namespace Go.Proofs.YtmbiebdcnadhkaaGreat.Fl
open Go.RowKit Go.Proofs.YtmbiebdcnadhkaaGreatW.PrintWords Go.Proofs.YtmbiebdcnadhkaaGreatW.PrintMore Go.Maps
section
variable {N0 N1 x y : Nat} {s : Int × Int × Int} {ps qs : List Pg} {w : World} {okX okY : Nat → Prop}
end
end Go.Proofs.YtmbiebdcnadhkaaGreat.Fl
namespace Go.Proofs.YtmbiebdcnadhkaaGreat.Fl
theorem Holds.move {D E : PD} (hs : E.s = D.s) {a q kd sq : Int} {l : List Int} (h : Holds D a q kd sq l) (hg : ∀ d, q ≤ d → d < q + (kpg D.s l.length : Int) → gotD E a d = gotD D a d) : Holds E a q kd sq l := by
 refine ⟨h.ok, by rw [hs]; exact h.has, by rw [hs]; exact h.room, fun i hi => ?_⟩
 rw [hs] at hi ⊢
 rw [hg _ (by omega) (by omega)]
 exact h.got i hi
theorem Chain.le {D : PD} {c sq : Int} : ∀ {rs : List (Int × List Int)} {q e : Int}, Chain D c sq q rs e → q ≤ e
 | [], _, _, h => Int.le_of_eq h
 | r :: rs, q, e, h => by have := Chain.le h.2.2; omega
theorem Chain.move {D E : PD} (hs : E.s = D.s) {a sq : Int} : ∀ {rs : List (Int × List Int)} {q e : Int}, Chain D a sq q rs e → (∀ d, q ≤ d → d < e → gotD E a d = gotD D a d) → Chain E a sq q rs e
 | [], _, _, h, _ => h
 | r :: rs, q, e, ⟨h1, h2, h3⟩, hg => by
  have hle := Chain.le h3
  refine ⟨h1.move hs (fun d h4 h5 => hg d h4 (by omega)), h2, ?_⟩
  rw [hs]
  exact Chain.move hs h3 (fun d h4 h5 => hg d (by omega) h5)
section
variable {D : PD} {P : PlanT}
end
end Go.Proofs.YtmbiebdcnadhkaaGreat.Fl
namespace Go.Proofs.YtmbiebdcnadhkaaGreat.Fl
open Go.RowKit Go.Proofs.YtmbiebdcnadhkaaGreatW.PrintWords Go.Proofs.YtmbiebdcnadhkaaGreatW.PrintMore Go.Maps
abbrev RecV := RecT × Option Addr × Nat
section
variable {N0 p : Nat} {K : Nat → Prop} {D : PD} {w w1 : World} {v v1 : Value} {want : List RecV}
end
end Go.Proofs.YtmbiebdcnadhkaaGreat.Fl
namespace Go.Proofs.YtmbiebdcnadhkaaGreat.Fl
open Go.RowKit Go.Proofs.YtmbiebdcnadhkaaGreatW.PrintWords Go.Proofs.YtmbiebdcnadhkaaGreatW.PrintMore Go.Maps
theorem kpg_zero {s : Int × Int × Int} (hs : ShapeOk s) : kpg s 0 = 1 := by
 obtain ⟨c, hc⟩ := Int.eq_ofNat_of_zero_le (show 0 ≤ s.2.2 by have := hs.c0; omega)
 have h0 := hs.c0
 unfold kpg
 rw [hc] at h0 ⊢
 simp only [Int.toNat_natCast]
 rw [show 0 + 16 + c - 1 = c + 15 by omega, Nat.add_div_left _ (by omega), Nat.div_eq_of_lt (by omega)]
end Go.Proofs.YtmbiebdcnadhkaaGreat.Fl
namespace Go.Proofs.YtmbiebdcnadhkaaGreat.Fl
open Go.RowKit Go.Proofs.YtmbiebdcnadhkaaGreatW.PrintWords Go.Proofs.YtmbiebdcnadhkaaGreatW.PrintMore Go.Maps
structure LG where
 st : List Int
 op : Int
 pg : Int
 nx : Int
abbrev TL : TypeId := 96
def logC (p : Nat) (g : LG) : List Value := .pointer (some ⟨p, 0, none⟩) :: (g.st.map (fun x => Value.int .i64 x) ++ [.int .i64 g.op, .int .i64 g.pg, .int .u64 g.nx])
structure LogIs (q p : Nat) (g : LG) (w : World) : Prop where
 len : g.st.length = 16
 blk : w.heap[q]? = some (.cells (logC p g).toArray TL (0, 0))
section
variable {q p : Nat} {g : LG} {w w' : World}
theorem LogIs.below (h : LogIs q p g w) (hb : Below w.heap.size w w') : LogIs q p g w' := ⟨h.len, (hb.block _ (blt h.blk)).trans h.blk⟩
theorem LogIs.c0 (h : LogIs q p g w) : w.cell? ⟨q, 0, none⟩ = some (.pointer (some ⟨p, 0, none⟩)) := by rw [bcell h.blk]; rfl
theorem LogIs.cst (h : LogIs q p g w) {i : Nat} {x : Int} (hx : g.st[i]? = some x) : w.cell? ⟨q, 1 + i, none⟩ = some (.int .i64 x) := by
 rw [Nat.add_comm 1 i]
 have hl := (List.getElem?_eq_some_iff.1 hx).1
 rw [bcell h.blk]
 simp only [logC, List.getElem?_toArray, List.getElem?_cons_succ]
 rw [List.getElem?_append_left (by simpa using hl), List.getElem?_map, hx]
 rfl
theorem LogIs.c17 (h : LogIs q p g w) : w.cell? ⟨q, 17, none⟩ = some (.int .i64 g.op) := by
 rw [bcell h.blk]
 simp only [logC, List.getElem?_toArray, List.getElem?_cons_succ]
 rw [List.getElem?_append_right (by simp [h.len])]
 simp [h.len]
theorem LogIs.c18 (h : LogIs q p g w) : w.cell? ⟨q, 18, none⟩ = some (.int .i64 g.pg) := by
 rw [bcell h.blk]
 simp only [logC, List.getElem?_toArray, List.getElem?_cons_succ]
 rw [List.getElem?_append_right (by simp [h.len])]
 simp [h.len]
theorem LogIs.c19 (h : LogIs q p g w) : w.cell? ⟨q, 19, none⟩ = some (.int .u64 g.nx) := by
 rw [bcell h.blk]
 simp only [logC, List.getElem?_toArray, List.getElem?_cons_succ]
 rw [List.getElem?_append_right (by simp [h.len])]
 simp [h.len]
set_option maxHeartbeats 1000000 in
set_option maxRecDepth 100000 in
theorem Lok_any (h : LogIs q p g w) : Calls Tryz.prog 46 #[.pointer (some ⟨q, 0, none⟩)] w fun e w' => e = .returned (.bool true) ∧ w = w' := by
 have k0 := h.c0
 clear h
 go_enter Tryz.func46, Tryz.ntmps46
 go_wp2
 go_ret
 exact ⟨rfl, rfl⟩
set_option maxHeartbeats 1000000 in
set_option maxRecDepth 100000 in
theorem LDevice_any (h : LogIs q p g w) : Calls Tryz.prog 18 #[.pointer (some ⟨q, 0, none⟩)] w fun e w' => e = .returned (.pointer (some ⟨p, 0, none⟩)) ∧ w = w' := by
 have k0 := h.c0
 have HO := Lib.hid (Lok_any h)
 clear h
 go_enter Tryz.func18, Tryz.ntmps18
 go_wp2_with (go_at_call 46; (with_reducible refine HO.out.mono ?_); rintro e w1 ⟨rfl, rfl⟩)
 go_ret
 exact ⟨rfl, rfl⟩
set_option maxHeartbeats 1000000 in
set_option maxRecDepth 100000 in
theorem LNext_any (h : LogIs q p g w) : Calls Tryz.prog 16 #[.pointer (some ⟨q, 0, none⟩)] w fun e w' => e = .returned (.int .u64 g.nx) ∧ w = w' := by
 have k0 := h.c19
 have HO := Lib.hid (Lok_any h)
 clear h
 go_enter Tryz.func16, Tryz.ntmps16
 go_wp2_with (go_at_call 46; (with_reducible refine HO.out.mono ?_); rintro e w1 ⟨rfl, rfl⟩)
 go_ret
 exact ⟨rfl, rfl⟩
end
end Go.Proofs.YtmbiebdcnadhkaaGreat.Fl
namespace Go.Proofs.YtmbiebdcnadhkaaGreat.Fl
open Go.RowKit Go.Proofs.YtmbiebdcnadhkaaGreatW.PrintWords Go.Proofs.YtmbiebdcnadhkaaGreatW.PrintMore Go.Maps
theorem tk1 {α : Type} {l : List α} {i : Nat} {x : α} : l.toArray.setIfInBounds i x = (l.set i x).toArray := by simp
theorem tk2 {α : Type} {l : List α} {a x : α} : (a :: l).set 0 x = x :: l := rfl
theorem tk3 {α : Type} {l : List α} {a x : α} {i : Nat} : (a :: l).set (i + 1) x = a :: l.set i x := rfl
section
variable {P : Program} {ops : Array Oper} {Q : Exit → Act → World → Prop} {md : Region.Mode} {S : World → Prop} {oi : Oper} {v : Value} {fuel : Nat} {listed : Array Bool} {a : Act} {w : World}
theorem tkY (i : Nat) (h : wpAnyH P md ops Q S fuel (listed.setIfInBounds i true) (a.put oi.dst v) w)
  (hi : ops[i]? = some oi := by (simp only [List.getElem?_toArray, List.getElem?_cons_succ, List.getElem?_cons_zero]; rfl))
  (hs : Region.noSelect ops = true := by kernel_rfl) (hf : Region.free md ops listed i = true := by kernel_rfl) (hr : (Region.ready md ops listed).contains i = true := by kernel_rfl)
  (hw : Region.wanted oi (yielded ops a.tmps) = true := by rfl)
  (hy : ∀ w, S w → (execOp a.eval oi).run P w = .ok (.value v) w := by (intro w hSw; (try dsimp only at hSw); go_simp; (try (with_reducible rfl))))
  (hQ : ∀ c a w, Q (.panic c) (a.put oi.dst v) w → Q (.panic c) a w := by exact fun _ _ _ h => h) (hS : S w := by assumption) : wpAnyH P md ops Q S (fuel + 1) listed a w :=
 wpAnyH_take hi hs hf hr hQ (Or.inl ⟨hw, hy⟩) hS h
theorem tkN (i : Nat) (h : wpAnyH P md ops Q S fuel (listed.setIfInBounds i true) (a.put oi.dst undef) w)
  (hi : ops[i]? = some oi := by (simp only [List.getElem?_toArray, List.getElem?_cons_succ, List.getElem?_cons_zero]; rfl))
  (hs : Region.noSelect ops = true := by kernel_rfl) (hf : Region.free md ops listed i = true := by kernel_rfl) (hr : (Region.ready md ops listed).contains i = true := by kernel_rfl)
  (hw : Region.wanted oi (yielded ops a.tmps) = false := by rfl)
  (hQ : ∀ c a w, Q (.panic c) (a.put oi.dst undef) w → Q (.panic c) a w := by exact fun _ _ _ h => h) (hS : S w := by assumption) : wpAnyH P md ops Q S (fuel + 1) listed a w :=
 wpAnyH_take hi hs hf hr hQ (Or.inr ⟨hw, rfl⟩) hS h
end
end Go.Proofs.YtmbiebdcnadhkaaGreat.Fl
namespace Go.Proofs.YtmbiebdcnadhkaaGreat.Fl
open Go.RowKit Go.Proofs.YtmbiebdcnadhkaaGreatW.PrintWords Go.Proofs.YtmbiebdcnadhkaaGreatW.PrintMore Go.Maps
def cmpI (x y : Int) : Int := if x < y then -1 else if y < x then 1 else 0
set_option maxHeartbeats 1000000 in
set_option maxRecDepth 100000 in
theorem isNaN_u64 (x : Int) (w : World) : Calls Tryz.prog 104 #[.int .u64 x] w fun e w' => e = .returned (.bool false) ∧ w = w' := by
 have e1 : (x != x) = false := by simp
 go_enter Tryz.func104, Tryz.ntmps104
 go_wp2
 go_ret
 exact ⟨rfl, rfl⟩
set_option maxHeartbeats 1000000 in
set_option maxRecDepth 100000 in
theorem isNaN_int (x : Int) (w : World) : Calls Tryz.prog 105 #[.int .i64 x] w fun e w' => e = .returned (.bool false) ∧ w = w' := by
 have e1 : (x != x) = false := by simp
 go_enter Tryz.func105, Tryz.ntmps105
 go_wp2
 go_ret
 exact ⟨rfl, rfl⟩
set_option maxHeartbeats 1000000 in
set_option maxRecDepth 100000 in
theorem Compare_u64 (x y : Int) (w : World) : Calls Tryz.prog 77 #[.int .u64 x, .int .u64 y] w fun e w' => e = .returned (.int .i64 (cmpI x y)) ∧ w = w' := by
 obtain ⟨c, hc⟩ : ∃ c, c = cmpI x y := ⟨_, rfl⟩
 rw [← hc]
 by_cases h1 : x < y
 ·have d1 : decide (x < y) = true := decide_eq_true h1
  obtain rfl : c = -1 := by rw [hc]; exact if_pos h1
  clear hc h1
  go_enter Tryz.func77, Tryz.ntmps77
  go_wp2_with (go_at_call 104; (with_reducible refine (isNaN_u64 _ _).mono ?_); rintro e w1 ⟨rfl, rfl⟩)
  go_ret
  exact ⟨rfl, rfl⟩
 ·have d1 : decide (x < y) = false := decide_eq_false h1
  by_cases h2 : y < x
  ·have d2 : decide (x > y) = true := decide_eq_true h2
   obtain rfl : c = 1 := by rw [hc]; unfold cmpI; rw [if_neg h1, if_pos h2]
   clear hc h1 h2
   go_enter Tryz.func77, Tryz.ntmps77
   go_wp2_with (go_at_call 104; (with_reducible refine (isNaN_u64 _ _).mono ?_); rintro e w1 ⟨rfl, rfl⟩)
   go_ret
   exact ⟨rfl, rfl⟩
  ·have d2 : decide (x > y) = false := decide_eq_false h2
   obtain rfl : c = 0 := by rw [hc]; unfold cmpI; rw [if_neg h1, if_neg h2]
   clear hc h1 h2
   go_enter Tryz.func77, Tryz.ntmps77
   go_wp2_with (go_at_call 104; (with_reducible refine (isNaN_u64 _ _).mono ?_); rintro e w1 ⟨rfl, rfl⟩)
   go_ret
   exact ⟨rfl, rfl⟩
set_option maxHeartbeats 1000000 in
set_option maxRecDepth 100000 in
theorem Compare_int (x y : Int) (w : World) : Calls Tryz.prog 78 #[.int .i64 x, .int .i64 y] w fun e w' => e = .returned (.int .i64 (cmpI x y)) ∧ w = w' := by
 obtain ⟨c, hc⟩ : ∃ c, c = cmpI x y := ⟨_, rfl⟩
 rw [← hc]
 by_cases h1 : x < y
 ·have d1 : decide (x < y) = true := decide_eq_true h1
  obtain rfl : c = -1 := by rw [hc]; exact if_pos h1
  clear hc h1
  go_enter Tryz.func78, Tryz.ntmps78
  go_wp2_with (go_at_call 105; (with_reducible refine (isNaN_int _ _).mono ?_); rintro e w1 ⟨rfl, rfl⟩)
  go_ret
  exact ⟨rfl, rfl⟩
 ·have d1 : decide (x < y) = false := decide_eq_false h1
  by_cases h2 : y < x
  ·have d2 : decide (x > y) = true := decide_eq_true h2
   obtain rfl : c = 1 := by rw [hc]; unfold cmpI; rw [if_neg h1, if_pos h2]
   clear hc h1 h2
   go_enter Tryz.func78, Tryz.ntmps78
   go_wp2_with (go_at_call 105; (with_reducible refine (isNaN_int _ _).mono ?_); rintro e w1 ⟨rfl, rfl⟩)
   go_ret
   exact ⟨rfl, rfl⟩
  ·have d2 : decide (x > y) = false := decide_eq_false h2
   obtain rfl : c = 0 := by rw [hc]; unfold cmpI; rw [if_neg h1, if_neg h2]
   clear hc h1 h2
   go_enter Tryz.func78, Tryz.ntmps78
   go_wp2_with (go_at_call 105; (with_reducible refine (isNaN_int _ _).mono ?_); rintro e w1 ⟨rfl, rfl⟩)
   go_ret
   exact ⟨rfl, rfl⟩
def orI (a b : Int) : Int := if a = 0 then b else a
def OrK (a b : Int) (k : Nat) : Prop := (1 ≤ k → a = 0) ∧ (2 ≤ k → b = 0)
set_option maxHeartbeats 1000000 in
set_option maxRecDepth 100000 in
theorem Or_two {a b : Int} {g : Nat} {w : World} (h0 : w.cell? ⟨g, 0, none⟩ = some (.int .i64 a)) (h1 : w.cell? ⟨g, 1, none⟩ = some (.int .i64 b)) : Calls Tryz.prog 76 #[.slice (some ⟨g, 0, none⟩) 2 2] w fun e w' => e = .returned (.int .i64 (orI a b)) ∧ w = w' := by
 obtain ⟨c, hc⟩ : ∃ c, c = orI a b := ⟨_, rfl⟩
 rw [← hc]
 have HC := Lib.hid hc
 clear hc
 go_enter Tryz.func76, Tryz.ntmps76
 go_wp2
 go_loopw [8] (fun v8 wr => ∃ k : Nat, k ≤ 2 ∧ v8 = .int .i64 (k : Int) ∧ OrK a b k ∧ w = wr) (fun v8 _ => 2 - (intOf v8).toNat)
 case atStart => exact ⟨0, by omega, rfl, ⟨fun h => by omega, fun h => by omega⟩, rfl⟩
 case round =>
  obtain ⟨k, hk, rfl, ⟨ha, hb⟩, rfl⟩ := hrel
  rcases (show k = 0 ∨ k = 1 ∨ k = 2 by omega) with rfl | rfl | rfl
  ·by_cases hz : a = 0
   ·have e1 : (a != 0) = false := by simpa using hz
    have HZ := Lib.hid hz
    clear hz ha hb
    go_wp2
    exact ⟨⟨1, by omega, rfl, ⟨fun _ => HZ.out, fun h => by omega⟩, trivial⟩, by simp [intOf]⟩
   ·have e1 : (a != 0) = true := by simpa using hz
    have HZ := Lib.hid hz
    clear hz ha hb
    go_wp2
    go_ret
    exact ⟨by rw [HC.out]; unfold orI; rw [if_neg HZ.out]; rfl, rfl⟩
  ·have HA := Lib.hid (ha (by omega))
   by_cases hz : b = 0
   ·have e1 : (b != 0) = false := by simpa using hz
    have HZ := Lib.hid hz
    clear hz ha hb
    go_wp2
    exact ⟨⟨2, by omega, rfl, ⟨fun _ => HA.out, fun h => HZ.out⟩, trivial⟩, by simp [intOf]⟩
   ·have e1 : (b != 0) = true := by simpa using hz
    clear hz ha hb
    go_wp2
    go_ret
    exact ⟨by rw [HC.out]; unfold orI; rw [if_pos HA.out]; rfl, rfl⟩
  ·have HA := Lib.hid (ha (by omega))
   have HB := Lib.hid (hb (by omega))
   clear ha hb
   go_wp2
   go_ret
   exact ⟨by rw [HC.out]; unfold orI; rw [if_pos HA.out, HB.out]; rfl, rfl⟩
structure FV (α : Type) where
 seg : Int
 seq : Int
 A : Option Addr
 c : Nat
 l : List α
def encF {α : Type} (x : FV α) : List Value := [.int .i64 x.seg, .int .u64 x.seq, .slice x.A x.l.length x.c]
def cmpF {α : Type} (x y : FV α) : Int := orI (cmpI x.seq y.seq) (cmpI x.seg y.seg)
theorem cmpF_lt {α : Type} (x y : FV α) : Go.Proofs.ltOf cmpF x y = decide (x.seq < y.seq ∨ x.seq = y.seq ∧ x.seg < y.seg) := by
 unfold Go.Proofs.ltOf cmpF orI cmpI
 rw [decide_eq_decide]
 constructor
 ·intro h
  split at h <;> split at h <;> (try split at h) <;> (try split at h) <;> first | (exfalso; omega) | omega
 ·rintro h
  split <;> split <;> (try split) <;> (try split) <;> first | (exfalso; omega) | omega
theorem cmpF_swo {α : Type} : Go.Sort.SWO (Go.Proofs.ltOf (cmpF (α := α))) where
 irrefl x := by rw [cmpF_lt]; simp
 trans x y z h1 h2 := by rw [cmpF_lt, decide_eq_true_iff] at *; omega
 ntrans x y z h1 h2 := by rw [cmpF_lt, decide_eq_false_iff_not] at *; omega
end Go.Proofs.YtmbiebdcnadhkaaGreat.Fl
namespace Go.Proofs.YtmbiebdcnadhkaaGreat.Fl
open Go.RowKit Go.Proofs.YtmbiebdcnadhkaaGreatW.PrintWords Go.Proofs.YtmbiebdcnadhkaaGreatW.PrintMore Go.Maps
abbrev TFo : TypeId := 84
def sortRen : Go.Shelf.Ren := ⟨fun n => if n = 6 then 79 else if n = 14 then 106 else if n = 15 then 107 else if n = 20 then 123 else if n = 21 then 124 else if n = 22 then 125 else if n = 23 then 126 else if n = 24 then 127 else if n = 25 then 128 else if n = 26 then 129 else if n = 27 then 130 else if n = 28 then 131 else if n = 29 then 132 else if n = 46 then 142 else if n = 47 then 143 else if n = 48 then 144 else if n = 49 then 145 else if n = 50 then 146 else if n = 57 then 150 else n, fun n => if n = 0 then 0 else if n = 3 then 3 else if n = 4 then 4 else if n = 5 then 5 else if n = 9 then 9 else if n = 22 then 80 else if n = 24 then 84 else if n = 25 then 125 else if n = 39 then 154 else if n = 45 then 172 else if n = 46 then 173 else if n = 50 then 177 else if n = 53 then 180 else if n = 55 then 26 else if n = 66 then 189 else if n = 70 then 192 else if n = 76 then 196 else if n = 77 then 38 else n, fun n => n⟩
theorem sortLays : SlLaysF0.n6 Tryz.prog sortRen where
 mixed := by kernel_rfl
 f6 := ⟨Tryz.f79.name, by kernel_rfl, by kernel_rfl⟩
 f14 := ⟨Tryz.f106.name, by kernel_rfl, by kernel_rfl⟩
 f15 := by kernel_rfl
 f20 := ⟨Tryz.f123.name, by kernel_rfl, by kernel_rfl⟩
 f21 := ⟨Tryz.f124.name, by kernel_rfl, by kernel_rfl⟩
 f22 := ⟨Tryz.f125.name, by kernel_rfl, by kernel_rfl⟩
 f23 := ⟨Tryz.f126.name, by kernel_rfl, by kernel_rfl⟩
 f24 := ⟨Tryz.f127.name, by kernel_rfl, by kernel_rfl⟩
 f25 := ⟨Tryz.f128.name, by kernel_rfl, by kernel_rfl⟩
 f26 := ⟨Tryz.f129.name, by kernel_rfl, by kernel_rfl⟩
 f27 := ⟨Tryz.f130.name, by kernel_rfl, by kernel_rfl⟩
 f28 := by kernel_rfl
 f29 := by kernel_rfl
 f46 := ⟨Tryz.f142.name, by kernel_rfl, by kernel_rfl⟩
 f47 := by kernel_rfl
 f48 := by kernel_rfl
 f49 := ⟨Tryz.f145.name, by kernel_rfl, by kernel_rfl⟩
 f50 := ⟨Tryz.f146.name, by kernel_rfl, by kernel_rfl⟩
 f57 := ⟨Tryz.f150.name, by kernel_rfl, by kernel_rfl⟩
 t0 := by kernel_rfl
 a0 := fun w => by kernel_rfl
 z0 := fun w => by kernel_rfl
 v0 := fun w => by kernel_rfl
 t3 := by kernel_rfl
 a3 := fun w => by kernel_rfl
 z3 := fun w => by kernel_rfl
 v3 := fun w => by kernel_rfl
 t4 := by kernel_rfl
 a4 := fun w => by kernel_rfl
 z4 := fun w => by kernel_rfl
 v4 := fun w => by kernel_rfl
 t5 := by kernel_rfl
 a5 := fun w => by kernel_rfl
 z5 := fun w => by kernel_rfl
 v5 := fun w => by kernel_rfl
 t9 := by kernel_rfl
 a9 := fun w => by kernel_rfl
 z9 := fun w => by kernel_rfl
 v9 := fun w => by kernel_rfl
 t22 := by kernel_rfl
 a22 := fun w => by kernel_rfl
 z22 := fun w => by kernel_rfl
 v22 := fun w => by kernel_rfl
 t25 := by kernel_rfl
 a25 := fun w => by kernel_rfl
 z25 := fun w => by kernel_rfl
 v25 := fun w => by kernel_rfl
 t39 := by kernel_rfl
 a39 := fun w => by kernel_rfl
 z39 := fun w => by kernel_rfl
 v39 := fun w => by kernel_rfl
 t45 := by kernel_rfl
 a45 := fun w => by kernel_rfl
 z45 := fun w => by kernel_rfl
 v45 := fun w => by kernel_rfl
 t46 := by kernel_rfl
 a46 := fun w => by kernel_rfl
 z46 := fun w => by kernel_rfl
 v46 := fun w => by kernel_rfl
 t50 := by kernel_rfl
 a50 := fun w => by kernel_rfl
 z50 := fun w => by kernel_rfl
 v50 := fun w => by kernel_rfl
 t53 := by kernel_rfl
 a53 := fun w => by kernel_rfl
 z53 := fun w => by kernel_rfl
 v53 := fun w => by kernel_rfl
 t55 := by kernel_rfl
 a55 := fun w => by kernel_rfl
 z55 := fun w => by kernel_rfl
 v55 := fun w => by kernel_rfl
 t66 := by kernel_rfl
 a66 := fun w => by kernel_rfl
 z66 := fun w => by kernel_rfl
 v66 := fun w => by kernel_rfl
 t70 := by kernel_rfl
 a70 := fun w => by kernel_rfl
 z70 := fun w => by kernel_rfl
 v70 := fun w => by kernel_rfl
 t76 := by kernel_rfl
 a76 := fun w => by kernel_rfl
 z76 := fun w => by kernel_rfl
 v76 := fun w => by kernel_rfl
 t77 := by kernel_rfl
 a77 := fun w => by kernel_rfl
 z77 := fun w => by kernel_rfl
 v77 := fun w => by kernel_rfl
instance : Inhabited (FV En) := ⟨⟨0, 0, none, 0, []⟩⟩
theorem clo_cells (W : World) (o1 o2 : Obj) (a b : Int) : ((((W.alloc o1).alloc o2).alloc (.cells #[.int .i64 a, .int .i64 b] 3)).drew).cell? ⟨W.heap.size + 2, 0, none⟩ = some (.int .i64 a) ∧ ((((W.alloc o1).alloc o2).alloc (.cells #[.int .i64 a, .int .i64 b] 3)).drew).cell? ⟨W.heap.size + 2, 1, none⟩ = some (.int .i64 b) := by
 have h := blk_new ((W.alloc o1).alloc o2) (.cells #[.int .i64 a, .int .i64 b] 3)
 have hs : ((W.alloc o1).alloc o2).heap.size = W.heap.size + 2 := by
  show ((W.heap.push o1).push o2).size = _
  rw [Array.size_push, Array.size_push]
 rw [hs] at h
 exact ⟨bcell h 0, bcell h 1⟩
set_option maxHeartbeats 1000000 in
set_option maxRecDepth 100000 in
theorem Order_any (x y : FV En) (W : World) : Calls Tryz.prog 75 #[.agg #[.int .i64 x.seg, .int .u64 x.seq, .slice x.A x.l.length x.c], .agg #[.int .i64 y.seg, .int .u64 y.seq, .slice y.A y.l.length y.c]] W fun e w' => e = .returned (.int .i64 (cmpF x y)) ∧ ∃ q os', w' = Go.Sort.grow (W.drewN q) os' := by
 obtain ⟨xa, xq, xA, xc, xl⟩ := x
 obtain ⟨ya, yq, yA, yc, yl⟩ := y
 obtain ⟨xn, hxn⟩ : ∃ n, n = xl.length := ⟨_, rfl⟩
 obtain ⟨yn, hyn⟩ : ∃ n, n = yl.length := ⟨_, rfl⟩
 obtain ⟨c1, hc1⟩ : ∃ c, c = cmpI xq yq := ⟨_, rfl⟩
 obtain ⟨c2, hc2⟩ : ∃ c, c = cmpI xa ya := ⟨_, rfl⟩
 unfold cmpF
 simp only [← hxn, ← hyn, ← hc1, ← hc2]
 have H1 := Lib.hid hc1
 have H2 := Lib.hid hc2
 clear hxn hyn hc1 hc2
 go_enter Tryz.func75, Tryz.ntmps75
 go_wp2_with fail
 go_region_held3 (fun w' => w'.cell? ⟨W.heap.size, 0, none⟩ = some (.int .i64 xa) ∧ w'.cell? ⟨W.heap.size, 1, none⟩ = some (.int .u64 xq) ∧ w'.cell? ⟨W.heap.size + 1, 0, none⟩ = some (.int .i64 ya) ∧ w'.cell? ⟨W.heap.size + 1, 1, none⟩ = some (.int .u64 yq)) (go_keep)
  (first
   | (go_at_call 77; (with_reducible refine (Compare_u64 _ _ _).mono ?_); rw [← H1.out]; rintro e w1 ⟨rfl, rfl⟩)
   | (go_at_call 78; (with_reducible refine (Compare_int _ _ _).mono ?_); rw [← H2.out]; rintro e w1 ⟨rfl, rfl⟩)
   | (go_at_call 76; (refine (Or_two (a := c1) (b := c2) (clo_cells W _ _ c1 c2).1 (clo_cells W _ _ c1 c2).2).mono ?_); rintro e w1 ⟨rfl, rfl⟩)
   | fail)
 go_wp2
 go_ret
 exact ⟨rfl, 1, _, by rw [Go.Sort.alloc_eq_grow, Go.Sort.alloc_eq_grow, Go.Sort.alloc_eq_grow, Go.Sort.grow_grow, Go.Sort.grow_grow]; rfl⟩
theorem ofList_get (zs : List (FV En)) {i : Nat} {z : FV En} (h : zs[i]? = some z) : zs.toArray[i]! = z := by
 have hl := (List.getElem?_eq_some_iff.1 h).1
 rw [getElem!_pos zs.toArray i (by simpa using hl)]
 simpa using (List.getElem?_eq_some_iff.1 h).2
def SortedF (zs : List (FV En)) : Prop := zs.Pairwise (fun x y => ¬ (y.seq < x.seq ∨ y.seq = x.seq ∧ y.seg < x.seg))
theorem sort_upd (w : World) (blk n : Nat) (d : Array (FV En)) (os : Array Obj) : Upd (fun k => k = blk) w (Go.Proofs.sortWorldK encF 3 w blk 0 n d os) := by
 refine ⟨rfl, rfl, rfl, ?_, fun k hk hn => ?_⟩
 ·unfold Go.Proofs.sortWorldK
  rw [Go.Sort.size_grow]
  have : (Go.Sort.putRowK encF 3 (Go.Sort.ahead w n) blk 0 d).heap.size = w.heap.size := by simp [Go.Sort.putRowK, Go.Sort.putRow, Go.Sort.mapBlock, Go.Sort.ahead]
  omega
 ·unfold Go.Proofs.sortWorldK
  rw [Go.Sort.heap_grow_old _ _ (by simp [Go.Sort.putRowK, Go.Sort.putRow, Go.Sort.mapBlock, Go.Sort.ahead]; exact hk)]
  show ((w.heap.modify blk _))[k]? = _
  rw [Array.getElem?_modify, if_neg (fun e => hn e.symm)]
set_option maxHeartbeats 1000000 in
theorem Sort_some {zs : List (FV En)} {blk cap : Nat} {w : World} (hH : Go.Sort.HoldsK encF 3 w blk 0 zs.toArray) (hblk : blk < w.heap.size) (hsz : zs.length < 1000) :
  Calls Tryz.prog 79 #[.slice (some ⟨blk, 0, none⟩) zs.length cap, .func (.func 75) #[] #[]] w fun e w' => e = .returned (.tuple #[]) ∧ ∃ zs', zs'.Perm zs ∧ SortedF zs' ∧ Go.Sort.HoldsK encF 3 w' blk 0 zs'.toArray ∧ Upd (fun k => k = blk) w w' := by
 have eg : ∀ args w, (callFunc 75 args).run Tryz.prog w = .ok (.enter 75 args) w := enters_of Tryz.func75 (by kernel_rfl) rfl
 have hcon := AnyQ.slices_SortFunc sortLays 3 (fun w => by kernel_rfl) (fun w => by kernel_rfl) encF (fun _ => rfl) (fun x v hv => by simp [encF] at hv; rcases hv with rfl | rfl | rfl <;> rfl) cmpF cmpF_swo 75 #[] blk 0 cap zs.toArray w eg (fun _ _ _ _ x y => Order_any x y _) hH hblk (by simp; omega)
 change Calls Tryz.prog 79 _ _ _ at hcon
 refine hcon.mono fun e w' ⟨he, d', n, os, hp, hs, hw⟩ => ⟨he, d'.toList, ?_, ?_, ?_, ?_⟩
 ·have h3 := hp.2.2
  have h1 := hp.1
  simp only [List.size_toArray] at h1 h3
  rw [Array.extract_eq_self_of_le (by omega), Array.extract_eq_self_of_le (by simp)] at h3
  simpa using h3
 ·have h1 := hp.1
  simp only [List.size_toArray] at h1
  unfold SortedF
  rw [List.pairwise_iff_getElem]
  intro i j hi hj hij
  have hlj : j < d'.size := by simpa using hj
  have := hs i j (Nat.zero_le _) hij (by rw [List.size_toArray]; omega)
  rw [cmpF_lt, decide_eq_false_iff_not, getElem!_pos d' j hlj, getElem!_pos d' i (by omega)] at this
  simpa using this
 ·rw [hw]
  have h1 := hp.1
  exact Go.Proofs.holdsK_sortWorldK_c encF 3 w blk 0 zs.toArray d' n os hH hblk h1
 ·rw [hw]
  exact sort_upd w blk n d' os
end Go.Proofs.YtmbiebdcnadhkaaGreat.Fl
namespace Go.Proofs.YtmbiebdcnadhkaaGreat.Fl
open Go.RowKit Go.Proofs.YtmbiebdcnadhkaaGreatW.PrintWords Go.Proofs.YtmbiebdcnadhkaaGreatW.PrintMore Go.Maps
def kFV : Kd (FV En) where
 sz := 3
 E := []
 K := fun _ x cs => cs = encF x
 M := fun _ _ _ x cs => cs = encF x
 K_len := by
  rintro w x cs rfl
  rfl
 K_one := by
  rintro w x cs rfl u hu
  simp only [encF, List.mem_cons, List.not_mem_nil, or_false] at hu
  rcases hu with rfl | rfl | rfl <;> rfl
 K_below := by
  rintro w w1 x cs hb rfl
  rfl
 K_of_M := by
  rintro w base ok x cs rfl
  rfl
 M_mono := by
  rintro w base ok ok' x cs hok rfl
  rfl
 M_bound := by
  rintro w base ok x cs rfl
  rfl
 M_move := by
  rintro w w1 base ok x cs hm rfl
  rfl
 M_lower := by
  rintro w base base' ok x cs hb rfl
  rfl
theorem info_found : (Tryz.prog.info? TFo).map (fun i => (i.zero, i.size, i.bytes)) = some (some (.agg #[.int .i64 0, .int .u64 0, .slice none 0 0]), 3, 40) := by kernel_rfl
structure FCell (w : World) (g i : Nat) (x : FV En) : Prop where
 c0 : w.cell? ⟨g, i * 3, none⟩ = some (.int .i64 x.seg)
 c1 : w.cell? ⟨g, i * 3 + 1, none⟩ = some (.int .u64 x.seq)
 c2 : w.cell? ⟨g, i * 3 + 2, none⟩ = some (.slice x.A x.l.length x.c)
theorem FCell.below {w w' : World} {g i : Nat} {x : FV En} (h : FCell w g i x) (hb : Below w.heap.size w w') : FCell w' g i x :=
 have f : ∀ {a : Addr} {v : Value}, w.cell? a = some v → w'.cell? a = some v := fun h => (hb.cell (blt_of_cell h)).trans h
 ⟨f h.c0, f h.c1, f h.c2⟩
def FRow (w : World) (A : Option Addr) (l : List (FV En)) : Prop := ∀ (i : Nat) (x : FV En), l[i]? = some x → ∃ g, A = some ⟨g, 0, none⟩ ∧ FCell w g i x
theorem FRow.below {w w' : World} {A : Option Addr} {l : List (FV En)} (h : FRow w A l) (hb : Below w.heap.size w w') : FRow w' A l := fun i e hi => by
 obtain ⟨g, h1, h2⟩ := h i e hi
 exact ⟨g, h1, h2.below hb⟩
theorem FRow.nil (w : World) (A : Option Addr) : FRow w A [] := fun i e hi => by simp at hi
theorem FRow.ofHolds {w : World} {g : Nat} {zs : List (FV En)} (h : Go.Sort.HoldsK encF 3 w g 0 zs.toArray) : FRow w (some ⟨g, 0, none⟩) zs := fun i x hi => by
 have hl : i < zs.toArray.size := by simpa using (List.getElem?_eq_some_iff.1 hi).1
 have e := ofList_get zs hi
 have f : ∀ c u, c < 3 → (encF x)[c]? = some u → w.cell? ⟨g, i * 3 + c, none⟩ = some u := fun c u hc hu => by
  have h1 := (h.cell (i := i) (c := c) hl hc).1
  rw [e, Nat.zero_add] at h1
  rw [h1]
  obtain ⟨hlt, hu⟩ := List.getElem?_eq_some_iff.1 hu
  rw [getElem!_pos (encF x) c hlt, hu]
 exact ⟨g, rfl, f 0 _ (by omega) rfl, f 1 _ (by omega) rfl, f 2 _ (by omega) rfl⟩
theorem holds_of {w : World} {base : Nat} {ok : Nat → Prop} {v : Value} {zs : List (FV En)} (h : kFV.R TFo w base ok v zs) (h0 : 0 < zs.length) :
  ∃ g cap cs, v = .slice (some ⟨g, 0, none⟩) zs.length cap ∧ zs.length ≤ cap ∧ ok g ∧ base ≤ g ∧ w.heap[g]? = some (.cells cs TFo (0, 0)) ∧ Go.Sort.HoldsK encF 3 w g 0 zs.toArray := by
 obtain ⟨hok, inner, ho, hr⟩ := h
 rcases ho.2 with ⟨_, h2⟩ | ⟨g, cap, cur, rfl, hb, hg, h1, h2, h3, h4⟩
 ·omega
 ·refine ⟨g, cap, cur, rfl, h1, hok g rfl, hb, hg, fun j hj => ⟨?_, bfrozen hg _⟩⟩
  have hj3 : j < zs.length * 3 := by simpa using hj
  have hi : j / 3 < zs.length := by omega
  obtain ⟨x, hx⟩ : ∃ x, zs[j / 3]? = some x := ⟨_, List.getElem?_eq_getElem hi⟩
  have h5 := hr.2 (j / 3) x hx
  have h6 : (inner.drop (j / 3 * 3)).take 3 = encF x := h5
  rw [Go.Sort.get_flatK _ _ _ _ (by simpa using hj3), ofList_get zs hx, bcell hg, Nat.zero_add]
  have hm : j % 3 < 3 := Nat.mod_lt _ (by omega)
  have h7 : inner[j]? = (encF x)[j % 3]? := by
   rw [← h6, List.getElem?_take, if_pos hm, List.getElem?_drop]
   congr 1
   omega
  have h8 : cur.toList[j]? = inner[j]? := by
   rw [← h4, List.getElem?_take, if_pos (show j < zs.length * kFV.sz from hj3)]
  rw [← Array.getElem?_toList, h8, h7]
  have hl : j % 3 < (encF x).length := hm
  rw [List.getElem?_eq_getElem hl, getElem!_pos (encF x) _ hl]
  rfl
def FEnt (base : Nat) (w : World) (z : FV En) : Prop := kEnt.R TE w base (fun k => base ≤ k) (.slice z.A z.l.length z.c) z.l
theorem FEnt.typed {base : Nat} {w w' : World} {z : FV En} (h : FEnt base w z) (hm : ∀ (k : Nat) (cs : Array Value) (q : TypeId), (q = TE ∨ q = TB) → w.heap[k]? = some (.cells cs q (0, 0)) → w'.heap[k]? = w.heap[k]?) : FEnt base w' z := by
 refine Kd.R_mono (Kd.R_move (Kd.R_bound h) (fun k hk => ?_)) (fun k hk => hk.1)
 obtain ⟨_, _, _, q, hq, cs, hc⟩ := hk
 refine hm k cs q ?_ hc
 simpa [kEnt] using hq
theorem FEnt.below {base : Nat} {w w' : World} {z : FV En} (h : FEnt base w z) (hb : Below w.heap.size w w') : FEnt base w' z := Kd.R_below h hb
theorem FEnt.upd {base g : Nat} {w w' : World} {z : FV En} {cs : Array Value} (h : FEnt base w z) (hg : w.heap[g]? = some (.cells cs TFo (0, 0))) (hu : Upd (fun k => k = g) w w') : FEnt base w' z :=
 h.typed (fun k cs' q hq hk => hu.block k (blt hk) (fun e => by
  rw [e, hg] at hk
  injection hk with hk
  injection hk with _ hk _
  rcases hq with rfl | rfl <;> exact absurd hk (by decide)))
theorem FEnt.grown {base : Nat} {ok : Nat → Prop} {w w1 : World} {v : Value} {zs : List (FV En)} {z : FV En} (h : FEnt base w z) (hR : kFV.R TFo w base ok v zs) (hg : w.grownBy w1 v.ownBlock) : FEnt base w1 z :=
 h.typed (fun k cs' q hq hk => hg.block k (blt hk) (Kd.R_ne hR hk (by rcases hq with rfl | rfl <;> decide)))
set_option maxHeartbeats 1000000 in
set_option maxRecDepth 100000 in
theorem Insertion_none (p : Option Addr) (cap : Nat) (fv : Value) (w : World) : Calls Tryz.prog 123 #[.slice p 0 cap, .int .i64 0, .int .i64 0, fv] w fun e w' => e = .returned (.tuple #[]) ∧ w = w' := by
 go_enter Tryz.func123, Tryz.ntmps123
 go_wp2
 refine wp_loop_rounds 1 ?_
 rw [rounds_succ]
 go_wp2
 go_end0
 exact ⟨rfl, rfl⟩
set_option maxHeartbeats 1000000 in
set_option maxRecDepth 100000 in
theorem Pdq_none (p : Option Addr) (cap : Nat) (lim : Int) (fv : Value) (w : World) : Calls Tryz.prog 106 #[.slice p 0 cap, .int .i64 0, .int .i64 0, .int .i64 lim, fv] w fun e w' => e = .returned (.tuple #[]) ∧ w = w' := by
 go_enter Tryz.func106, Tryz.ntmps106
 go_wp2
 refine wp_loop_rounds 1 ?_
 rw [rounds_succ]
 go_wp2_with (go_at_call 123; (with_reducible refine (Insertion_none _ _ _ _).mono ?_); rintro e w' ⟨rfl, rfl⟩)
 (try simp only [Exit.inBlock, Exit.then]); refine bodyPost_ret (results_none rfl _ _ _) rfl ?_
 exact ⟨rfl, rfl⟩
set_option maxHeartbeats 1000000 in
set_option maxRecDepth 100000 in
theorem Sort_none (p : Option Addr) (cap : Nat) (fv : Value) (w : World) : Calls Tryz.prog 79 #[.slice p 0 cap, fv] w fun e w' => e = .returned (.tuple #[]) ∧ w = w' := by
 have hl : Calls Tryz.prog 107 #[.int .u64 0] w fun e w' => (∃ l : Int, e = .returned (.int .i64 l)) ∧ w = w' :=
  (Any.bits_Len (SlLaysF0.n15.bits (P := Tryz.prog) (ρ := sortRen) { sortLays with }) 0 w (by omega) (by omega)).mono fun _ _ ⟨he, hw⟩ => ⟨⟨_, he⟩, hw.symm⟩
 have HL := Lib.hid hl
 clear hl
 go_enter Tryz.func79, Tryz.ntmps79
 go_wp2_with (first
  | (go_at_call 107; (refine HL.out.mono ?_); rintro e w' ⟨⟨l, rfl⟩, rfl⟩)
  | (go_at_call 106; (with_reducible refine (Pdq_none _ _ _ _ _).mono ?_); rintro e w' ⟨rfl, rfl⟩)
  | fail)
 go_end0
 exact ⟨rfl, rfl⟩
end Go.Proofs.YtmbiebdcnadhkaaGreat.Fl
namespace Go.Proofs.YtmbiebdcnadhkaaGreat.Fl
open Go.RowKit Go.Proofs.YtmbiebdcnadhkaaGreatW.PrintWords Go.Proofs.YtmbiebdcnadhkaaGreatW.PrintMore Go.Maps
abbrev Seg3 := Int × Int × List En
def toT (z : FV En) : Seg3 := (z.seg, z.seq, z.l)
def segF (D : PD) (i : Nat) : Option Seg3 := if (scanD D (i : Int)).2.2 = true then some ((i : Int), (scanD D (i : Int)).1, (scanD D (i : Int)).2.1) else none
def segsL (D : PD) (n : Nat) : List Seg3 := (List.range n).filterMap (segF D)
theorem segsL_succ (D : PD) (n : Nat) : segsL D (n + 1) = segsL D n ++ (segF D n).toList := by
 unfold segsL
 rw [List.range_succ, List.filterMap_append]
 cases h : segF D n <;> simp [h]
theorem segsL_len (D : PD) (n : Nat) : (segsL D n).length ≤ n := by
 unfold segsL
 exact Nat.le_trans (List.length_filterMap_le _ _) (by simp)
def SegsPost (w : World) (D : PD) (e : Ending) (w' : World) : Prop :=
 ∃ A c zs, e = .returned (.slice A zs.length c) ∧ (zs.map toT).Perm (segsL D D.s.1.toNat) ∧ SortedF zs ∧ FRow w' A zs ∧ (∀ z ∈ zs, FEnt w.heap.size w' z) ∧ Below w.heap.size w w' ∧ (∀ ad, A = some ad → 0 < zs.length → w.heap.size ≤ ad.block)
section
variable {N0 p : Nat} {D : PD} {w : World} {ok : Nat → Prop}
set_option maxHeartbeats 4000000 in
set_option maxRecDepth 100000 in
theorem Segments_any (hD : DevIs N0 p D ok w) (hby : BytD D) : Calls Tryz.prog 36 #[.pointer (some ⟨p, 0, none⟩)] w (SegsPost w D) := by
 have hs := hD.sound.sh
 obtain ⟨n, hn⟩ := Int.eq_ofNat_of_zero_le (show 0 ≤ D.s.1 by have := hs.a0; omega)
 have n2 : n ≤ 16 := by have := hs.a1; omega
 have hsc := fun (X : World) (hX : Below w.heap.size w X) (a : Int) => Scan_ent (hD.below hX) hby a
 have hsh := Shape_any hD
 rw [hn] at hsh
 have rs := fun (X : World) => run_shape1 X (n : Int) D.s.2.1 D.s.2.2
 have HSC := Lib.hid hsc
 have HSH := Lib.hid hsh
 have HN := Lib.hid (show D.s.1.toNat = n by omega)
 clear hD hs hsc hsh hn hby
 go_enter Tryz.func36, Tryz.ntmps36
 go_wp2_with (first
  | (go_at_call 58; (with_reducible refine HSH.out.mono ?_); rintro e w1 ⟨rfl, hb⟩; have HB1 := Aside0.mk hb; clear hb)
  | fail)
 go_loopw [3, 12] (fun v3 v12 wr => ∃ (k : Nat) (zs : List (FV En)), k ≤ n ∧ v12 = .int .i64 (k : Int) ∧ kFV.R TFo wr w.heap.size (fun j => w.heap.size ≤ j) v3 zs ∧ zs.map toT = segsL D k ∧ (∀ z ∈ zs, FEnt w.heap.size wr z) ∧ Below w.heap.size w wr) (fun _ v12 _ => n - (intOf v12).toNat)
 case atStart => exact ⟨0, [], Nat.zero_le _, rfl, Kd.R_nil _ _ _ _ _, rfl, fun z hz => by simp at hz, HB1.out⟩
 case round =>
  obtain ⟨k, zs, hk, rfl, hR, hz, hE, hb⟩ := hrel
  obtain ⟨A3, c3, rfl⟩ := Kd.R_slice hR
  have hzl : zs.length ≤ k := by
   have h1 := segsL_len D k
   rw [← hz, List.length_map] at h1
   exact h1
  have HR := Aside0.mk hR
  have HZ := Lib.hid hz
  have HE := Lib.hid hE
  have HB := Aside0.mk hb
  clear hR hz hE hb
  by_cases hlt : k < n
  ·have q1 : (k : Int) < (n : Int) := by omega
   rcases hx : scanD D (k : Int) with ⟨sq, es, is⟩
   have hsc := HSC.out wr HB.out (k : Int)
   rw [hx] at hsc
   have HSK := Lib.hid hsc
   have HX := Lib.hid hx
   clear hsc hx
   cases is with
   | false =>
    have hnx : segsL D (k + 1) = segsL D k := by
     rw [segsL_succ]
     unfold segF
     rw [HX.out, if_neg (by simp)]
     simp
    have HNX := Lib.hid hnx
    clear hnx
    go_wp2_with (first
     | (go_at_call 51; (with_reducible refine HSK.out.mono ?_); rintro e w4 ⟨v4, rfl, hr4, hb4⟩; obtain ⟨A4, c4, rfl⟩ := Kd.R_slice hr4; have HB4 := Aside0.mk hb4; clear hr4 hb4)
     | fail)
    exact ⟨⟨k + 1, zs, by omega, by go_num, Kd.R_below HR.out HB4.out, by rw [HNX.out]; exact HZ.out, fun z hz => (HE.out z hz).below HB4.out, HB.out.trans (HB4.out.mono HB.out.size)⟩, by simp [intOf]; omega⟩
   | true =>
    have hnx : segsL D (k + 1) = segsL D k ++ [((k : Int), sq, es)] := by
     rw [segsL_succ]
     unfold segF
     rw [HX.out, if_pos rfl]
     rfl
    have HNX := Lib.hid hnx
    obtain ⟨m, hm⟩ : ∃ m, m = es.length := ⟨_, rfl⟩
    have HM := Lib.hid hm
    clear hnx hm
    go_wp2_with (first
     | (go_at_call 51; (with_reducible refine HSK.out.mono ?_); rintro e w4 ⟨v4, rfl, hr4, hb4⟩; obtain ⟨A4, c4, hv4⟩ := Kd.R_slice hr4; (rw [← HM.out] at hv4); subst hv4; have hz4 : FEnt w.heap.size w4 ⟨(k : Int), sq, A4, c4, es⟩ := (by show kEnt.R TE w4 w.heap.size (fun k => w.heap.size ≤ k) (.slice A4 es.length c4) es; rw [← HM.out]; exact Kd.R_mono (Kd.R_lower hr4 HB.out.size) (fun k hk => Nat.le_trans HB.out.size hk)); have HZ4 := Lib.hid hz4; have HB4 := Aside0.mk (HB.out.trans (hb4.mono HB.out.size)); have HR4 := Aside0.mk (Kd.R_below HR.out hb4); have HE4 := Lib.hid (fun z hz => (HE.out z hz).below hb4); clear hr4 hb4 hz4)
     | (at_builtin; refine Kd.R_append kFV (w0 := w) w.heap.size rfl (.tmp 23) (.tmp 28) 80 TFo (.agg #[.int .i64 0, .int .u64 0, .slice none 0 0]) 40 rfl Tryz.underlying80 info_found rfl (by decide) (by decide) (.slice A3 zs.length c3) zs ⟨(k : Int), sq, A4, c4, es⟩ [.int .i64 (k : Int), .int .u64 sq, .slice A4 m c4] (fun j => w.heap.size ≤ j) (fun _ => False) rfl (by simp [Act.eval]) (by rw [HM.out]; rfl) (fun _ h => h.elim) (fun j hj => Nat.le_trans HB4.out.size hj) HR4.out HB4.out HB4.out.size (by omega) ?_; intro v1 w5 hr1 hb5 hg hat; have HR5 := Aside0.mk hr1; have HB5 := Aside0.mk hb5; have HE5 := Lib.hid (fun z hz => (HE4.out z hz).grown HR4.out hg); have HZ5 := Lib.hid (HZ4.out.grown HR4.out hg); clear hr1 hb5 hg hat)
     | fail)
    refine ⟨⟨k + 1, zs ++ [⟨(k : Int), sq, A4, c4, es⟩], by omega, by go_num, HR5.out, by rw [HNX.out, List.map_append, HZ.out]; rfl, fun z hz => ?_, HB5.out⟩, by simp [intOf]; omega⟩
    rcases List.mem_append.1 hz with hz | hz
    ·exact HE5.out z hz
    ·rw [List.mem_singleton.1 hz]; exact HZ5.out
  ·obtain rfl : k = n := by omega
   by_cases h0 : 0 < zs.length
   ·obtain ⟨g, cap, cs, hv, hcap, hg0, hg1, hgb, hH⟩ := holds_of HR.out h0
    injection hv with e1 e2 e3
    subst e1 e3
    have hso := Sort_some (cap := c3) hH (blt hgb) (by omega)
    have HSO := Lib.hid hso
    have HGB := Lib.hid hgb
    clear hso hH hgb hcap
    go_wp2_with (first
     | (go_at_call 79; (refine HSO.out.mono ?_); rintro e w5 ⟨rfl, zs', hp, hs, hH, hu⟩; have HP := Lib.hid hp; have HS := Lib.hid hs; have HH := Lib.hid hH; have HU := Aside0.mk hu; clear hp hs hH hu)
     | fail)
    go_ret
    refine ⟨some ⟨g, 0, none⟩, c3, zs', by rw [HP.out.length_eq]; rfl, ?_, HS.out, FRow.ofHolds HH.out, fun z hz => (HE.out z (HP.out.mem_iff.1 hz)).upd HGB.out HU.out, HB.out.trans (HU.out.below HB.out.size (fun k hk => by rw [hk]; exact hg1)), fun ad hA _ => by injection hA with hA; rw [← hA]; exact hg1⟩
    rw [HN.out, ← HZ.out]
    exact HP.out.map toT
   ·obtain rfl : zs = [] := List.eq_nil_of_length_eq_zero (by omega)
    go_wp2_with (first
     | (go_at_call 79; (refine (Sort_none _ _ _ _).mono ?_); rintro e w5 ⟨rfl, rfl⟩)
     | fail)
    go_ret
    exact ⟨A3, c3, [], rfl, by rw [HN.out, ← HZ.out], List.Pairwise.nil, FRow.nil _ _, fun z hz => by simp at hz, HB.out, fun ad _ h0 => by simp at h0⟩
end
end Go.Proofs.YtmbiebdcnadhkaaGreat.Fl
namespace Go.Proofs.YtmbiebdcnadhkaaGreat.Fl
open Go.RowKit Go.Proofs.YtmbiebdcnadhkaaGreatW.PrintWords Go.Proofs.YtmbiebdcnadhkaaGreatW.PrintMore Go.Maps
def joinL (zs : List (FV En)) : List En := zs.flatMap (·.l)
theorem joinL_succ {zs : List (FV En)} {k : Nat} {z : FV En} (h : zs[k]? = some z) : joinL (zs.take (k + 1)) = joinL (zs.take k) ++ z.l := by
 unfold joinL
 rw [List.take_add_one, h, List.flatMap_append]
 simp
theorem joinL_len {zs : List (FV En)} (h : ∀ z ∈ zs, z.l.length ≤ 1000) : (joinL zs).length ≤ 1000 * zs.length := by
 induction zs with
 | nil => simp [joinL]
 | cons z zs ih =>
  have h1 := ih (fun y hy => h y (List.mem_cons_of_mem _ hy))
  have h2 := h z List.mem_cons_self
  unfold joinL at h1 ⊢
  rw [List.flatMap_cons, List.length_append, List.length_cons]
  omega
def JoinPost (w : World) (L : List En) (e : Ending) (w' : World) : Prop :=
 ∃ v, e = .returned v ∧ kEnt.R TE w' 0 (fun _ => True) v L ∧ Below w.heap.size w w'
theorem grown_below {B : Nat} {w W w1 : World} {v : Value} (hb : Below B w W) (hB : B ≤ W.heap.size) (hg : W.grownBy w1 v.ownBlock) (hv : ∀ k, v.ownBlock = some k → B ≤ k) : Below B w w1 :=
 ⟨hg.os.trans hb.os, hg.tape.trans hb.tape, hg.output.trans hb.output, Nat.le_trans hb.size hg.size, fun k hk => (hg.block k (by omega) (fun e => by have := hv k e.symm; omega)).trans (hb.block k hk)⟩
theorem FEnt.rows {base : Nat} {w : World} {z : FV En} (h : FEnt base w z) : ReadsRow (kEnt.M w 0 (fun k => ∃ cs, w.heap[k]? = some (.cells cs TB (0, 0)))) 6 w z.A z.l.length z.l := by
 obtain ⟨A, c, hv, _, hr⟩ := OwnRow.reads h.2
 injection hv with e1 e2 e3
 subst e1 e3
 refine hr.imp_ (Below.refl _ _) (fun x cs hx => ?_)
 refine kEnt.M_mono (fun k hk => ?_) (kEnt.M_bound (kEnt.M_lower (Nat.zero_le base) hx))
 obtain ⟨_, _, _, q, hq, hc⟩ := hk
 obtain rfl : q = TB := by simpa [kEnt] using hq
 exact hc
set_option maxHeartbeats 4000000 in
set_option maxRecDepth 100000 in
theorem Joined_any {w : World} {A : Option Addr} {c B : Nat} {zs : List (FV En)} (hF : FRow w A zs) (hE : ∀ z ∈ zs, FEnt B w z) (hl : zs.length ≤ 100) (hl2 : ∀ z ∈ zs, z.l.length ≤ 1000) :
  Calls Tryz.prog 68 #[.slice A zs.length c] w (JoinPost w (joinL zs)) := by
 obtain ⟨n, hn⟩ : ∃ n, n = zs.length := ⟨_, rfl⟩
 have htk : zs.take n = zs := List.take_of_length_le (by omega)
 have hjl : ∀ k, k ≤ n → (joinL (zs.take k)).length ≤ 1000 * 100 := fun k hk => by
  have h1 := joinL_len (zs := zs.take k) (fun z hz => hl2 z (List.mem_of_mem_take hz))
  rw [List.length_take] at h1
  have : min k zs.length ≤ 100 := by omega
  have h2 := Nat.mul_le_mul_left 1000 this
  omega
 have HF := Lib.hid hF
 have HE := Lib.hid hE
 have HN := Lib.hid hn
 have HL2 := Lib.hid hl2
 have HJL := Lib.hid hjl
 have HTK := Lib.hid htk
 rw [← hn] at hl
 rw [← hn]
 clear hF hE hn hl2 htk hjl
 go_enter Tryz.func68, Tryz.ntmps68
 go_wp2
 go_loopw [3, 8] (fun v3 v8 wr => ∃ (k : Nat), k ≤ n ∧ v8 = .int .i64 (k : Int) ∧ kEnt.R TE wr 0 (fun _ => True) v3 (joinL (zs.take k)) ∧ (∀ j, v3.ownBlock = some j → w.heap.size ≤ j) ∧ Below w.heap.size w wr) (fun _ v8 _ => n - (intOf v8).toNat)
 case atStart => exact ⟨0, Nat.zero_le _, rfl, Kd.R_nil _ _ _ _ _, fun j hj => by simp [Value.ownBlock] at hj, Below.refl _ _⟩
 case round =>
  obtain ⟨k, hk, rfl, hR, hv, hb⟩ := hrel
  obtain ⟨A3, c3, rfl⟩ := Kd.R_slice hR
  have hjk := HJL.out k hk
  obtain ⟨L, hL⟩ : ∃ L, L = joinL (zs.take k) := ⟨_, rfl⟩
  rw [← hL] at hR hv hjk ⊢
  have HLL := Lib.hid hL
  have HR := Aside0.mk hR
  have HV := Lib.hid hv
  have HB := Aside0.mk hb
  clear hR hv hb hL
  by_cases hlt : k < n
  ·obtain ⟨z, hz⟩ : ∃ z, zs[k]? = some z := ⟨_, List.getElem?_eq_getElem (by have := HN.out; omega)⟩
   obtain ⟨g, hA, hc⟩ := HF.out k z hz
   have hc := hc.below HB.out
   subst hA
   have d0 := hc.c0; have d1 := hc.c1; have d2 := hc.c2
   have hzl := HL2.out z (List.mem_of_getElem? hz)
   have hze := (HE.out z (List.mem_of_getElem? hz)).below HB.out
   have hnx := joinL_succ hz
   rw [← HLL.out] at hnx
   obtain ⟨zseg, zseq, zA, zc, zl⟩ := z
   obtain ⟨m, hm⟩ : ∃ m, m = zl.length := ⟨_, rfl⟩
   simp only [← hm] at d0 d1 d2 hzl hnx
   obtain ⟨Y, hY⟩ : ∃ Y, Y = wr.alloc (.cells #[.int .i64 zseg, .int .u64 zseq, .slice zA m zc] TFo) := ⟨_, rfl⟩
   have y0 : Y.heap[wr.heap.size]? = some (.cells #[.int .i64 zseg, .int .u64 zseq, .slice zA m zc] TFo (0, 0)) := by rw [hY]; exact blk_new wr _
   have yb : Below wr.heap.size wr Y := by rw [hY]; exact below_alloc (Below.refl _ _) _
   have b2 : Y.cell? ⟨wr.heap.size, 2, none⟩ = some (.slice zA m zc) := bcell y0 2
   have hRY := Kd.R_below HR.out yb
   have hrw := (hze.below yb).rows
   have hmm : L.length + m ≤ 200000 := by omega
   have HM := Lib.hid hm
   have HNX := Lib.hid hnx
   have HY := Lib.hid hY
   have YB := Aside0.mk (HB.out.trans (yb.mono HB.out.size))
   have HRY := Aside0.mk hRY
   have HRW := Lib.hid hrw
   have k0 : (0 : Int) ≤ (k : Int) := by omega
   have k2 : (k : Int) < (n : Int) := by omega
   clear hz hc hze hY y0 yb hRY hrw hm hnx
   go_wp2_with (first
    | (rw [← HY.out])
    | (at_builtin; refine Kd.R_append_rows kEnt (Rr := kEnt.M Y 0 (fun k => ∃ cs, Y.heap[k]? = some (.cells cs TB (0, 0)))) (w0 := Y) 0 rfl (.tmp 12) (.tmp 14) 43 TE (.agg #[.int .i64 0, .int .i64 0, .int .u64 0, .int .i64 0, .int .u8 0, .slice none 0 0]) 64 rfl Tryz.underlying43 info_ent rfl (by decide) (by decide) (.slice A3 L.length c3) L zl zA m zc (fun _ => True) (fun k => ∃ cs, Y.heap[k]? = some (.cells cs TB (0, 0))) rfl (by simp [Act.eval]) HRY.out (by rw [HM.out]; exact HRW.out) (fun _ _ h => h) (fun k hk => ⟨trivial, by obtain ⟨cs, hc⟩ := hk; exact Kd.R_ne HRY.out hc (by decide)⟩) (fun _ _ => trivial) (Below.refl _ _) (Nat.zero_le _) (by omega) ?_; intro v1 w5 hr1 _ hg hat; have HR5 := Aside0.mk hr1; have HB5 := Aside0.mk (grown_below YB.out YB.out.size hg HV.out); have HV5 := Lib.hid (show ∀ j, v1.ownBlock = some j → w.heap.size ≤ j from fun j hj => hat.elim (fun e => HV.out j (by rw [← e]; exact hj)) (fun ⟨b, e, hb⟩ => by rw [e] at hj; injection hj with hj; have := YB.out.size; omega)); clear hr1 hg hat)
    | fail)
   exact ⟨⟨k + 1, by omega, by go_num, by rw [HNX.out]; exact HR5.out, HV5.out, HB5.out⟩, by simp [intOf]; omega⟩
  ·obtain rfl : k = n := by omega
   go_wp2
   go_ret
   exact ⟨_, rfl, by rw [← HTK.out, ← HLL.out]; exact HR.out, HB.out⟩
def FoundOf (D : PD) (zs : List (FV En)) : Prop := (zs.map toT).Perm (segsL D D.s.1.toNat) ∧ SortedF zs
theorem FoundOf.len {D : PD} {zs : List (FV En)} (h : FoundOf D zs) (hs : ShapeOk D.s) : zs.length ≤ 16 := by
 have h1 := h.1.length_eq
 have h2 := segsL_len D D.s.1.toNat
 rw [List.length_map] at h1
 have := hs.a1
 omega
theorem FoundOf.mem {D : PD} {zs : List (FV En)} (h : FoundOf D zs) {z : FV En} (hz : z ∈ zs) : ∃ i : Nat, i < D.s.1.toNat ∧ (scanD D (i : Int)).2.2 = true ∧ z.seg = (i : Int) ∧ z.seq = (scanD D (i : Int)).1 ∧ z.l = (scanD D (i : Int)).2.1 := by
 have h1 : toT z ∈ segsL D D.s.1.toNat := h.1.mem_iff.1 (List.mem_map_of_mem hz)
 unfold segsL at h1
 rw [List.mem_filterMap] at h1
 obtain ⟨i, hi, h2⟩ := h1
 unfold segF at h2
 split at h2
 ·rename_i h3
  injection h2 with h2
  injection h2 with e1 e2
  injection e2 with e2 e3
  exact ⟨i, by simpa using hi, h3, e1.symm, e2.symm, e3.symm⟩
 ·cases h2
theorem scanD_len (D : PD) (a : Int) : (scanD D a).2.1.length ≤ 64 := by
 unfold scanD scanL
 split
 ·simp
 ·have : ∀ (f : Nat) (E : Int → En × Int) (n sq page : Int), (scanF E n sq f page).length ≤ f := by
   intro f
   induction f with
   | zero => intro E n sq page; simp [scanF]
   | succ f ih =>
    intro E n sq page
    unfold scanF
    split
    ·split
     ·simp
     ·have := ih E n sq (page + (E page).1.pages)
      simp
      omega
    ·simp
  exact this _ _ _ _ _
theorem FoundOf.small {D : PD} {zs : List (FV En)} (h : FoundOf D zs) : ∀ z ∈ zs, z.l.length ≤ 1000 := fun z hz => by
 obtain ⟨i, _, _, _, _, h2⟩ := h.mem hz
 have := scanD_len D (i : Int)
 rw [h2]
 omega
def AllPost (w : World) (D : PD) (e : Ending) (w' : World) : Prop :=
 ∃ v zs, e = .returned v ∧ FoundOf D zs ∧ kEnt.R TE w' 0 (fun _ => True) v (joinL zs) ∧ Below w.heap.size w w'
set_option maxHeartbeats 4000000 in
set_option maxRecDepth 100000 in
theorem All_any {N0 p : Nat} {D : PD} {w : World} {ok : Nat → Prop} (hD : DevIs N0 p D ok w) (hby : BytD D) : Calls Tryz.prog 28 #[.pointer (some ⟨p, 0, none⟩)] w (AllPost w D) := by
 have hsg := Segments_any hD hby
 have hs := hD.sound.sh
 have HSG := Lib.hid hsg
 have HS := Lib.hid hs
 clear hsg hD hs
 go_enter Tryz.func28, Tryz.ntmps28
 go_wp2_with (first
  | (go_at_call 36; (with_reducible refine HSG.out.mono ?_); rintro e w1 ⟨A, c, zs, rfl, hp, hs, hF, hE, hb, -⟩; have HP := Lib.hid (show FoundOf D zs from ⟨hp, hs⟩); have HJ := Lib.hid (Joined_any (c := c) hF hE (by have := (show FoundOf D zs from ⟨hp, hs⟩).len HS.out; omega) (show FoundOf D zs from ⟨hp, hs⟩).small); have HB := Aside0.mk hb; clear hp hs hF hE hb)
  | (go_at_call 68; (with_reducible refine HJ.out.mono ?_); rintro e w2 ⟨v, rfl, hr, hb⟩; obtain ⟨A9, c9, hv9⟩ := Kd.R_slice hr; subst hv9; have HR := Aside0.mk hr; have HB2 := Aside0.mk (HB.out.trans (hb.mono HB.out.size)); clear hr hb)
  | fail)
 go_ret
 exact ⟨_, zs, rfl, HP.out, HR.out, HB2.out⟩
def maxL (l : List Int) : Int := l.foldl (fun m x => if m < x then x else m) 0
theorem maxL_snoc (l : List Int) (x : Int) : maxL (l ++ [x]) = if maxL l < x then x else maxL l := by
 unfold maxL
 rw [List.foldl_append]
 rfl
def nextV (l : List Int) : Int := if maxL l = 18446744073709551615 then maxL l else maxL l + 1
theorem maxL_bd {l : List Int} (h : ∀ x ∈ l, 0 ≤ x ∧ x ≤ 18446744073709551615) : 0 ≤ maxL l ∧ maxL l ≤ 18446744073709551615 := by
 have : ∀ (l : List Int) (m : Int), 0 ≤ m ∧ m ≤ 18446744073709551615 → (∀ x ∈ l, 0 ≤ x ∧ x ≤ 18446744073709551615) → 0 ≤ l.foldl (fun m x => if m < x then x else m) m ∧ l.foldl (fun m x => if m < x then x else m) m ≤ 18446744073709551615 := by
  intro l
  induction l with
  | nil => intro m hm _; exact hm
  | cons x l ih =>
   intro m hm hl
   refine ih _ ?_ (fun y hy => hl y (List.mem_cons_of_mem _ hy))
   have := hl x List.mem_cons_self
   show 0 ≤ (if m < x then x else m) ∧ (if m < x then x else m) ≤ 18446744073709551615
   split <;> omega
 exact this l 0 (by omega) h
set_option maxHeartbeats 4000000 in
set_option maxRecDepth 100000 in
theorem Next_any {w : World} {A : Option Addr} {c : Nat} {zs : List (FV En)} (hF : FRow w A zs) (hl : zs.length ≤ 1000) (hq : ∀ z ∈ zs, 0 ≤ z.seq ∧ z.seq ≤ 18446744073709551615) :
  Calls Tryz.prog 42 #[.slice A zs.length c] w fun e w' => e = .returned (.int .u64 (nextV (zs.map (·.seq)))) ∧ Below w.heap.size w w' := by
 obtain ⟨n, hn⟩ : ∃ n, n = zs.length := ⟨_, rfl⟩
 have hmx : ∀ k, k ≤ n → 0 ≤ maxL ((zs.take k).map (·.seq)) ∧ maxL ((zs.take k).map (·.seq)) ≤ 18446744073709551615 := fun k hk => maxL_bd (fun x hx => by
  obtain ⟨z, hz, rfl⟩ := List.mem_map.1 hx
  exact hq z (List.mem_of_mem_take hz))
 have htk : zs.take n = zs := List.take_of_length_le (by omega)
 have HF := Lib.hid hF
 have HN := Lib.hid hn
 have HMX := Lib.hid hmx
 have HTK := Lib.hid htk
 rw [← hn] at hl
 rw [← hn]
 clear hF hn hmx htk hq
 go_enter Tryz.func42, Tryz.ntmps42
 go_wp2
 go_loopw [3, 8] (fun v3 v8 wr => ∃ (k : Nat), k ≤ n ∧ v8 = .int .i64 (k : Int) ∧ v3 = .int .u64 (maxL ((zs.take k).map (·.seq))) ∧ Below w.heap.size w wr) (fun _ v8 _ => n - (intOf v8).toNat)
 case atStart => exact ⟨0, Nat.zero_le _, rfl, rfl, Below.refl _ _⟩
 case round =>
  obtain ⟨k, hk, rfl, rfl, hb⟩ := hrel
  obtain ⟨M, hM⟩ : ∃ M, M = maxL ((zs.take k).map (·.seq)) := ⟨_, rfl⟩
  have hmk := HMX.out k hk
  rw [← hM] at hmk ⊢
  obtain ⟨m0, m1⟩ := hmk
  have HMM := Lib.hid hM
  have HB := Aside0.mk hb
  clear hb hM
  by_cases hlt : k < n
  ·obtain ⟨z, hz⟩ : ∃ z, zs[k]? = some z := ⟨_, List.getElem?_eq_getElem (by have := HN.out; omega)⟩
   obtain ⟨g, hA, hc⟩ := HF.out k z hz
   have hc := hc.below HB.out
   subst hA
   have d0 := hc.c0; have d1 := hc.c1; have d2 := hc.c2
   have hnx : maxL ((zs.take (k + 1)).map (·.seq)) = if M < z.seq then z.seq else M := by
    rw [List.take_add_one, hz, List.map_append, HMM.out]
    exact maxL_snoc _ _
   obtain ⟨zseg, zseq, zA, zc, zl⟩ := z
   obtain ⟨m, hm⟩ : ∃ m, m = zl.length := ⟨_, rfl⟩
   simp only [← hm] at d0 d1 d2 hnx
   have k0 : (0 : Int) ≤ (k : Int) := by omega
   have k2 : (k : Int) < (n : Int) := by omega
   by_cases hx : M < zseq
   ·rw [if_pos hx] at hnx
    have HNX := Lib.hid hnx
    have emx : (if M < zseq then zseq else M) = zseq := if_pos hx
    have emx2 : max M zseq = zseq := Int.max_eq_right (by omega)
    clear hz hc hm hnx
    go_wp2
    exact ⟨⟨k + 1, by omega, by go_num, by rw [HNX.out], below_alloc HB.out _⟩, by simp [intOf]; omega⟩
   ·rw [if_neg hx] at hnx
    have HNX := Lib.hid hnx
    have emx : (if M < zseq then zseq else M) = M := if_neg hx
    have emx2 : max M zseq = M := Int.max_eq_left (by omega)
    clear hz hc hm hnx
    go_wp2
    exact ⟨⟨k + 1, by omega, by go_num, by rw [HNX.out], below_alloc HB.out _⟩, by simp [intOf]; omega⟩
  ·obtain rfl : k = n := by omega
   have hnv : nextV (zs.map (·.seq)) = if M = 18446744073709551615 then M else M + 1 := by
    unfold nextV
    rw [HMM.out, HTK.out]
   have HNV := Lib.hid hnv
   clear hnv
   by_cases hx : M = 18446744073709551615
   ·have e1 : (M == 18446744073709551615) = true := by simpa using hx
    have HX := Lib.hid hx
    clear hx
    go_wp2
    go_ret
    exact ⟨by rw [HNV.out, if_pos HX.out]; rfl, HB.out⟩
   ·have e1 : (M == 18446744073709551615) = false := by simpa using hx
    have HX := Lib.hid hx
    have ew : IntKind.u64.wrap (M + 1) = M + 1 := IntWalk.u64_in _ (by omega)
    clear hx
    go_wp2
    go_ret
    exact ⟨by rw [HNV.out, if_neg HX.out]; rfl, HB.out⟩
end Go.Proofs.YtmbiebdcnadhkaaGreat.Fl
namespace Go.Proofs.YtmbiebdcnadhkaaGreat.Fl
open Go.RowKit Go.Proofs.YtmbiebdcnadhkaaGreatW.PrintWords Go.Proofs.YtmbiebdcnadhkaaGreatW.PrintMore Go.Maps
abbrev Sc3 := Nat → Int × List En × Bool
def bestF (sc : Sc3) (last : Int) : Nat → Int × List En
 | 0 => (0, [])
 | k + 1 => if (sc k).2.2 = true ∧ last < (sc k).1 ∧ ((bestF sc last k).1 = 0 ∨ (sc k).1 < (bestF sc last k).1) then ((sc k).1, (sc k).2.1) else bestF sc last k
def allF (sc : Sc3) (n : Nat) : Nat → Int × List En
 | 0 => (0, [])
 | j + 1 => if (bestF sc (allF sc n j).1 n).1 = 0 then allF sc n j else ((bestF sc (allF sc n j).1 n).1, (allF sc n j).2 ++ (bestF sc (allF sc n j).1 n).2)
theorem allF_stop {sc : Sc3} {n j : Nat} (h : (bestF sc (allF sc n j).1 n).1 = 0) : ∀ d, allF sc n (j + d) = allF sc n j
 | 0 => rfl
 | d + 1 => by
  have ih := allF_stop h d
  show allF sc n (j + d + 1) = _
  rw [allF, ih, if_pos h]
theorem bestF_len {sc : Sc3} {last : Int} (h : ∀ i, (sc i).2.1.length ≤ 64) : ∀ k, (bestF sc last k).2.length ≤ 64
 | 0 => by simp [bestF]
 | k + 1 => by
  unfold bestF
  split
  ·exact h k
  ·exact bestF_len h k
theorem allF_len {sc : Sc3} {n : Nat} (h : ∀ i, (sc i).2.1.length ≤ 64) : ∀ j, (allF sc n j).2.length ≤ 64 * j
 | 0 => by simp [allF]
 | j + 1 => by
  have h1 := allF_len (n := n) h j
  have h2 := bestF_len (last := (allF sc n j).1) h n
  unfold allF
  split
  ·omega
  ·simp only [List.length_append]
   omega
def entRow (B : Nat) (w : World) (v : Value) (l : List En) : Prop := ∃ A c, v = .slice A l.length c ∧ FEnt B w ⟨0, 0, A, c, l⟩
set_option maxHeartbeats 8000000 in
set_option maxRecDepth 100000 in
theorem RAll_any {N0 x : Nat} {s : Int × Int × Int} {ps : List Pg} {ok : Nat → Prop} {w : World} {n : Nat} {sc : Sc3} (hn : s.1 = (n : Int)) (hn16 : n ≤ 16)
  (hl64 : ∀ i, (sc i).2.1.length ≤ 64) (hX : RefIs N0 x s ps ok w)
  (hsc : ∀ (X : World) (i : Nat), Below w.heap.size w X → i < n → Calls Tryz.prog 40 #[.pointer (some ⟨x, 0, none⟩), .int .i64 (i : Int)] X (ScanPost X (sc i))) :
  Calls Tryz.prog 27 #[.pointer (some ⟨x, 0, none⟩)] w (JoinPost w (allF sc n n).2) := by
 have hbx : ∀ X : World, Below w.heap.size w X → X.cell? ⟨x, 0, none⟩ = some (.int .i64 (n : Int)) := fun X hb => by
  obtain ⟨_, _, v, hx, _⟩ := hX
  have := (hb.block x (blt hx)).trans hx
  rw [bcell this 0, ← hn]
  rfl
 have hal := fun j => allF_len (n := n) hl64 j
 have hbl := fun last k => bestF_len (last := last) hl64 k
 have HBX := Lib.hid hbx
 have HSC := Lib.hid hsc
 have HAL := Lib.hid hal
 have HBL := Lib.hid hbl
 clear hbx hsc hX hn hal hbl hl64
 go_enter Tryz.func27, Tryz.ntmps27
 go_wp2
 go_loopw [3, 4, 5] (fun v3 v4 v5 wr => ∃ (j : Nat), j ≤ n ∧ v5 = .int .i64 (j : Int) ∧ v4 = .int .u64 (allF sc n j).1 ∧ kEnt.R TE wr 0 (fun _ => True) v3 (allF sc n j).2 ∧ (∀ i, v3.ownBlock = some i → w.heap.size ≤ i) ∧ Below w.heap.size w wr) (fun _ _ v5 _ => n - (intOf v5).toNat)
 case atStart => exact ⟨0, Nat.zero_le _, rfl, rfl, Kd.R_nil _ _ _ _ _, fun i hi => by simp [Value.ownBlock] at hi, Below.refl _ _⟩
 case round =>
  obtain ⟨j, hj, rfl, rfl, hR, hv, hb⟩ := hrel
  have hjl := HAL.out j
  obtain ⟨A3, c3, rfl⟩ := Kd.R_slice hR
  obtain ⟨last, L, ha⟩ : ∃ a b, allF sc n j = (a, b) := ⟨_, _, rfl⟩
  rw [ha] at hR hjl hv ⊢
  simp only at hR hjl hv ⊢
  have HA := Lib.hid ha
  have HR := Aside0.mk hR
  have HV := Lib.hid hv
  have HB := Aside0.mk hb
  have c0 := HBX.out wr hb
  clear hR hv hb ha
  by_cases hlt : j < n
  ·have q1 : (j : Int) < (n : Int) := by omega
   go_wp2
   go_loopw [6, 7, 8] (fun v6 v7 v8 wr' => ∃ (k : Nat), k ≤ n ∧ v8 = .int .i64 (k : Int) ∧ v6 = .int .u64 (bestF sc last k).1 ∧ entRow w.heap.size wr' v7 (bestF sc last k).2 ∧ kEnt.R TE wr' 0 (fun _ => True) (.slice A3 L.length c3) L ∧ Below w.heap.size w wr') (fun _ _ v8 _ => n - (intOf v8).toNat)
   case atStart => exact ⟨0, Nat.zero_le _, rfl, rfl, ⟨none, 0, rfl, Kd.R_nil _ _ _ _ _⟩, HR.out, HB.out⟩
   case round =>
    obtain ⟨k, hk, rfl, rfl, hE, hR2, hb2⟩ := hrel
    obtain ⟨best, bl, hbst⟩ : ∃ a b, bestF sc last k = (a, b) := ⟨_, _, rfl⟩
    rw [hbst] at hE ⊢
    simp only at hE ⊢
    obtain ⟨A7, c7, rfl, hE⟩ := hE
    have hbll : bl.length ≤ 64 := by have := HBL.out last k; rw [hbst] at this; exact this
    have HBST := Lib.hid hbst
    have HE := Lib.hid hE
    have HR2 := Aside0.mk hR2
    have HB2 := Aside0.mk hb2
    have c0 := HBX.out wr hb2
    clear hE hR2 hb2 hbst
    by_cases hltk : k < n
    ·have q2 : (k : Int) < (n : Int) := by omega
     obtain ⟨sq, es, is, hx⟩ : ∃ a b c, sc k = (a, b, c) := ⟨_, _, _, rfl⟩
     have hsk := HSC.out wr k HB2.out hltk
     rw [hx] at hsk
     have HSK := Lib.hid hsk
     have HX := Lib.hid hx
     have hstep : bestF sc last (k + 1) = if is = true ∧ last < sq ∧ (best = 0 ∨ sq < best) then (sq, es) else (best, bl) := by rw [bestF, hx, HBST.out]
     have HST := Lib.hid hstep
     obtain ⟨bm, hbm⟩ : ∃ m, m = bl.length := ⟨_, rfl⟩
     have HBM := Lib.hid hbm
     rw [← hbm]
     clear hsk hx hstep hbm hbll
     cases is with
     | false =>
      go_wp2_with (first
       | (go_at_call 40; (with_reducible refine HSK.out.mono ?_); rintro e w4 ⟨v4, rfl, hr4, hb4⟩; obtain ⟨A4, c4, rfl⟩ := Kd.R_slice hr4; have HB4 := Aside0.mk hb4; clear hr4 hb4)
       | fail)
      exact ⟨⟨k + 1, by omega, by go_num, by rw [HST.out, if_neg (by simp)], by rw [HST.out, if_neg (by simp), HBM.out]; exact ⟨A7, c7, rfl, HE.out.below HB4.out⟩, Kd.R_below HR2.out HB4.out, HB2.out.trans (HB4.out.mono HB2.out.size)⟩, by simp [intOf]; omega⟩
     | true =>
      by_cases h1 : last < sq
      ·have d1 : decide (sq > last) = true := decide_eq_true h1
       by_cases h2 : best = 0
       ·have d2 : (best == 0) = true := by simpa using h2
        have HY := Lib.hid (show true = true ∧ last < sq ∧ (best = 0 ∨ sq < best) from ⟨rfl, h1, .inl h2⟩)
        clear h1 h2
        go_wp2_with (first
         | (go_at_call 40; (with_reducible refine HSK.out.mono ?_); rintro e w4 ⟨v4, rfl, hr4, hb4⟩; obtain ⟨A4, c4, hv4⟩ := Kd.R_slice hr4; subst hv4; have HR4 := Aside0.mk hr4; have HB4 := Aside0.mk hb4; clear hr4 hb4)
         | fail)
        exact ⟨⟨k + 1, by omega, by go_num, by rw [HST.out, if_pos HY.out], by rw [HST.out, if_pos HY.out]; exact ⟨A4, c4, rfl, Kd.R_mono (Kd.R_lower HR4.out HB2.out.size) (fun i hi => Nat.le_trans HB2.out.size hi)⟩, Kd.R_below HR2.out HB4.out, HB2.out.trans (HB4.out.mono HB2.out.size)⟩, by simp [intOf]; omega⟩
       ·have d2 : (best == 0) = false := by simpa using h2
        by_cases h3 : sq < best
        ·have d3 : decide (sq < best) = true := decide_eq_true h3
         have HY := Lib.hid (show true = true ∧ last < sq ∧ (best = 0 ∨ sq < best) from ⟨rfl, h1, .inr h3⟩)
         clear h1 h2 h3
         go_wp2_with (first
          | (go_at_call 40; (with_reducible refine HSK.out.mono ?_); rintro e w4 ⟨v4, rfl, hr4, hb4⟩; obtain ⟨A4, c4, hv4⟩ := Kd.R_slice hr4; subst hv4; have HR4 := Aside0.mk hr4; have HB4 := Aside0.mk hb4; clear hr4 hb4)
          | fail)
         exact ⟨⟨k + 1, by omega, by go_num, by rw [HST.out, if_pos HY.out], by rw [HST.out, if_pos HY.out]; exact ⟨A4, c4, rfl, Kd.R_mono (Kd.R_lower HR4.out HB2.out.size) (fun i hi => Nat.le_trans HB2.out.size hi)⟩, Kd.R_below HR2.out HB4.out, HB2.out.trans (HB4.out.mono HB2.out.size)⟩, by simp [intOf]; omega⟩
        ·have d3 : decide (sq < best) = false := decide_eq_false h3
         have HY := Lib.hid (show ¬ (true = true ∧ last < sq ∧ (best = 0 ∨ sq < best)) from fun hh => hh.2.2.elim h2 h3)
         clear h1 h2 h3
         go_wp2_with (first
          | (go_at_call 40; (with_reducible refine HSK.out.mono ?_); rintro e w4 ⟨v4, rfl, hr4, hb4⟩; obtain ⟨A4, c4, rfl⟩ := Kd.R_slice hr4; have HB4 := Aside0.mk hb4; clear hr4 hb4)
          | fail)
         exact ⟨⟨k + 1, by omega, by go_num, by rw [HST.out, if_neg HY.out], by rw [HST.out, if_neg HY.out, HBM.out]; exact ⟨A7, c7, rfl, HE.out.below HB4.out⟩, Kd.R_below HR2.out HB4.out, HB2.out.trans (HB4.out.mono HB2.out.size)⟩, by simp [intOf]; omega⟩
      ·have d1 : decide (sq > last) = false := decide_eq_false h1
       have HY := Lib.hid (show ¬ (true = true ∧ last < sq ∧ (best = 0 ∨ sq < best)) from fun hh => h1 hh.2.1)
       clear h1
       go_wp2_with (first
        | (go_at_call 40; (with_reducible refine HSK.out.mono ?_); rintro e w4 ⟨v4, rfl, hr4, hb4⟩; obtain ⟨A4, c4, rfl⟩ := Kd.R_slice hr4; have HB4 := Aside0.mk hb4; clear hr4 hb4)
        | fail)
       exact ⟨⟨k + 1, by omega, by go_num, by rw [HST.out, if_neg HY.out], by rw [HST.out, if_neg HY.out, HBM.out]; exact ⟨A7, c7, rfl, HE.out.below HB4.out⟩, Kd.R_below HR2.out HB4.out, HB2.out.trans (HB4.out.mono HB2.out.size)⟩, by simp [intOf]; omega⟩
    ·obtain rfl : k = n := by omega
     have hstp : allF sc k (j + 1) = if best = 0 then allF sc k j else (best, (allF sc k j).2 ++ bl) := by
      rw [allF, HA.out]
      simp only
      rw [HBST.out]
     have HSTP := Lib.hid hstp
     obtain ⟨bm, hbm⟩ : ∃ m, m = bl.length := ⟨_, rfl⟩
     have HBM := Lib.hid hbm
     rw [← hbm] at hbll
     rw [← hbm]
     have hrw := HE.out.rows
     simp only at hrw
     have HRW := Lib.hid hrw
     clear hstp hbm hrw
     by_cases h0 : best = 0
     ·have d0 : (best == 0) = true := by simpa using h0
      have hst2 : allF sc k k = allF sc k j := by
       have := allF_stop (sc := sc) (n := k) (j := j) (by rw [HA.out]; simp only; rw [HBST.out]; exact h0) (k - j)
       rw [show j + (k - j) = k by omega] at this
       exact this
      have HS2 := Lib.hid hst2
      clear h0 hst2
      go_wp2
      (try rw [Exit.noGoto_ret])
      go_ret
      exact ⟨_, rfl, by rw [HS2.out, HA.out]; exact HR2.out, HB2.out⟩
     ·have d0 : (best == 0) = false := by simpa using h0
      have H0 := Lib.hid h0
      clear h0
      go_wp2_with (first
       | (at_builtin; refine Kd.R_append_rows kEnt (Rr := kEnt.M wr 0 (fun k => ∃ cs, wr.heap[k]? = some (.cells cs TB (0, 0)))) (w0 := wr) 0 rfl (.tmp 56) (.tmp 57) 43 TE (.agg #[.int .i64 0, .int .i64 0, .int .u64 0, .int .i64 0, .int .u8 0, .slice none 0 0]) 64 rfl Tryz.underlying43 info_ent rfl (by decide) (by decide) (.slice A3 L.length c3) L bl A7 bm c7 (fun _ => True) (fun k => ∃ cs, wr.heap[k]? = some (.cells cs TB (0, 0))) rfl rfl HR2.out (by rw [HBM.out]; exact HRW.out) (fun _ _ h => h) (fun i hi => ⟨trivial, by obtain ⟨cs, hc⟩ := hi; exact Kd.R_ne HR2.out hc (by decide)⟩) (fun _ _ => trivial) (Below.refl _ _) (Nat.zero_le _) (by omega) ?_; intro v1 w5 hr1 _ hg hat; have HR5 := Aside0.mk hr1; have HB5 := Aside0.mk (grown_below HB2.out HB2.out.size hg HV.out); have HV5 := Lib.hid (show ∀ i, v1.ownBlock = some i → w.heap.size ≤ i from fun i hi => hat.elim (fun e => HV.out i (by rw [← e]; exact hi)) (fun ⟨b, e, hb⟩ => by rw [e] at hi; injection hi with hi; have := HB2.out.size; omega)); clear hr1 hg hat)
       | fail)
      exact ⟨⟨j + 1, by omega, by go_num, by rw [HSTP.out, if_neg H0.out], by rw [HSTP.out, if_neg H0.out, HA.out]; exact HR5.out, HV5.out, HB5.out⟩, by simp [intOf]; omega⟩
  ·obtain rfl : j = n := by omega
   go_wp2
   go_ret
   exact ⟨_, rfl, by rw [HA.out]; exact HR.out, HB.out⟩
end Go.Proofs.YtmbiebdcnadhkaaGreat.Fl
