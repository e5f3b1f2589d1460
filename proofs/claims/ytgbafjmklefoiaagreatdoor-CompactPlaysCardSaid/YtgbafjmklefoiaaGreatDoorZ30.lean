/- cartularylaw01.Book, kind Hash: look. cartularylaw01.Book of Hash alone: Apart. cartularylaw01.Book: keep of one kind of list. cartularylaw01.Book of Hash alone: Hashes, as a structure that goes on; Apart. A whole row read by an operation under a guard that holds. -/
import Derived.Test.YtgbafjmklefoiaaGreatDoorZ29
import Derived.Test.YtgbafjmklefoiaaGreatDoorZ27
import Derived.Test.YtgbafjmklefoiaaGreatDoorZ02
import Derived.Laws.Rows
section
namespace Go.Proofs.YtgbafjmklefoiaaGreatDoor
set_option maxRecDepth 100000
open Go.RowKit
set_option maxHeartbeats 3200000 in
theorem lookHash_any (base : Nat) (w : World) (b n : Nat) (l : Nat → Value) (m : Nat) (V : Nat → Value) (N : Nat → Nat) (G : Nat → Value) (Kn : Nat → Nat) (h : BkL 5 129 81 32 base w b n l m V N (fun i => marks (mkHash (Kn i)).toList (N i)) G Kn)
    (hg : ∀ i, i < m → w.ownsRow base 81 32 (G i) (N i + 70) (marks (mkHash (Kn i)).toList (N i + 70))) (hm : m ≤ 100000000) (hN : ∀ i, i < m → N i ≤ 100000000 ∧ Kn i ≤ 100000000) :
    Calls Tryz.prog 67 #[.pointer (some ⟨b, 0, none⟩)] w fun e w' => e = .returned (.bool true) ∧ Below w.heap.size w w' := by
  have BB := Bx.mk h; have MB := Bx.mk hm; have NB := Bx.mk hN; have GG := Bx.mk hg
  obtain ⟨la, lc, hs, -, -, -⟩ := own_shapeK h.row
  have HS := Bx.mk hs
  have CJ := Bx.mk (show w.cell? ⟨b, 5, none⟩ = some (.slice la m lc) by rw [← hs]; exact er_cellAt h.bk.hb 5 _ rfl)
  clear h hm hN hg hs
  go_enter Tryz.func67, Tryz.ntmps67
  go_wp2_with fail
  go_loopw [3] (fun iv wr => ∃ t : Nat, t ≤ m ∧ iv = .int .i64 (t : Int) ∧ Below w.heap.size w wr) (fun iv _ => m - (intOf iv).toNat)
  case atStart => exact ⟨0, Nat.zero_le _, rfl, Below.refl _ _⟩
  case round =>
    obtain ⟨t, ht, rfl, hb⟩ := hrel
    obtain ⟨wo, rfl⟩ : ∃ wo, wo = wr := ⟨_, rfl⟩
    have BW := Bx.mk hb
    have cJ := (hb.cell (block_lt_of_cell CJ.out)).trans CJ.out
    clear hb
    by_cases hlt : t < m
    · have hro := BB.out.row
      rw [HS.out] at hro
      obtain ⟨gl, rfl, hgl, hrg⟩ := hd_range hro hlt
      obtain ⟨va, vc, hv, -, -, -⟩ := own_shapeK (BB.out.li t hlt)
      obtain ⟨ga, gc, hgs, -, -, -⟩ := own_shapeK (GG.out t hlt)
      have hli := BB.out.li t hlt
      have hlo := GG.out t hlt
      rw [hv] at hli
      rw [hgs] at hlo
      obtain ⟨nt, hnt⟩ : ∃ nt, nt = N t := ⟨_, rfl⟩
      obtain ⟨kt, hkt⟩ : ∃ kt, kt = Kn t := ⟨_, rfl⟩
      rw [hv, hgs, ← hnt, ← hkt] at hrg
      rw [← hnt, ← hkt] at hli hlo
      have NT := Bx.mk (show nt ≤ 100000000 ∧ kt ≤ 100000000 by rw [hnt, hkt]; exact NB.out t hlt)
      obtain ⟨qt, hqt⟩ : ∃ qt, qt = nt + 70 := ⟨_, rfl⟩
      rw [← hqt] at hrg hlo
      have RG := Bx.mk (rangeB hrg hgl BW.out); have TL := Bx.mk hlt; have LI := Bx.mk hli; have LO := Bx.mk hlo; have QT := Bx.mk hqt
      have f1 : (t : Int) < (m : Int) := by omega
      have f2b : wrap64 ((nt : Int) + 70) = (qt : Int) := by have := NT.out.1; unfold wrap64; omega
      clear hro hgl hrg hv hnt hkt hlt ht hli hlo hgs hqt
      go_upto_region 5 with (first
        | (guard_target =~ wpList _ _ _ (⟨some 21, _, _, _, _, _⟩ :: _) _ _; refine wpList_load_mid rfl 129 (.tmp 20) rfl gl (t * 3) rfl _ _ RG.out Tryz.underlying129 rfl (by kernel_rfl) ?_)
        | (guard_target =~ wpList _ _ _ (⟨none, _, _, _, _, _⟩ :: _) _ _; refine wpList_store_row rfl 129 (.tmp 4) (.tmp 21) rfl wo.heap.size #[.slice va nt vc, .slice ga qt gc, .int .i64 (kt : Int)] rfl rfl _ #[.slice none 0 0, .slice none 0 0, .int .i64 0] (heap_alloc_new _ _) (by kernel_rfl) rfl (by simp [Value.oneCell']) ?_; rw [setRow_alloc_new _ _ _ _ rfl]))
      have h1 := er_al (Below.refl wo.heap.size wo) (.cells #[.slice va nt vc, .slice ga qt gc, .int .i64 (kt : Int)] 129)
      have h2 := heap_alloc_new wo (.cells #[.slice va nt vc, .slice ga qt gc, .int .i64 (kt : Int)] 129)
      generalize wo.alloc (.cells #[.slice va nt vc, .slice ga qt gc, .int .i64 (kt : Int)] 129) = W1 at h1 h2 ⊢
      obtain ⟨H, hH⟩ : ∃ H, H = wo.heap.size := ⟨_, rfl⟩
      rw [← hH] at h2 ⊢
      have K1 := Bx.mk (BW.out.trans (h1.mono BW.out.size)); have H1 := Bx.mk h2
      have e0 := er_cellAt h2 0 _ rfl; have e1 := er_cellAt h2 1 _ rfl
      clear h1 h2 hH cJ f1
      go_wp2_with fail
      clear e0 e1 f2b
      go_loopw [5] (fun kv wq => ∃ k : Nat, k ≤ qt ∧ kv = .int .i64 (k : Int) ∧ Below W1.heap.size W1 wq) (fun kv _ => qt - (intOf kv).toNat)
      case atStart => exact ⟨0, Nat.zero_le _, rfl, Below.refl _ _⟩
      case round =>
        obtain ⟨k, hk, rfl, hb⟩ := hrel
        have BQ := Bx.mk hb
        have hh := (hb.block H (Array.getElem?_eq_some_iff.1 H1.out).1).trans H1.out
        have c0 := er_cellAt hh 0 _ rfl; have c1 := er_cellAt hh 1 _ rfl; have c2 := er_cellAt hh 2 _ rfl
        have HL := (Array.getElem?_eq_some_iff.1 hh).1
        clear hb hh
        by_cases hlt : k < qt
        · have KL := Bx.mk hlt
          obtain ⟨g2, rfl, hg2, hr2⟩ := own_mark LO.out (mkHashL kt) hlt
          have hrr := rangeB (rangeB hr2 hg2 K1.out) (Nat.lt_of_lt_of_le hg2 K1.out.size) BQ.out
          have hgl := Nat.lt_of_lt_of_le (Nat.lt_of_lt_of_le hg2 K1.out.size) BQ.out.size
          have HR1 : Bx (∀ u, BlwC wr.heap.size wr u → u.rangeAt g2 (k * 32) (mkHash kt).toList) := ⟨fun u ⟨u', hu⟩ => by subst hu; exact rangeB hrr hgl u'.h⟩
          have d0 : ∀ u : Blw wr.heap.size wr, u.w.cell? ⟨H, 0, none⟩ = some (.slice va nt vc) := fun u => (u.h.cell (p := ⟨H, 0, none⟩) HL).trans c0
          have d1 : ∀ u : Blw wr.heap.size wr, u.w.cell? ⟨H, 1, none⟩ = some (.slice (some ⟨g2, 0, none⟩) qt gc) := fun u => (u.h.cell (p := ⟨H, 1, none⟩) HL).trans c1
          have d2 : ∀ u : Blw wr.heap.size wr, u.w.cell? ⟨H, 2, none⟩ = some (.int .i64 (kt : Int)) := fun u => (u.h.cell (p := ⟨H, 2, none⟩) HL).trans c2
          have ne := Blw.ne wr.heap.size wr
          have CI : Bx (∀ u, Below wr.heap.size wr u → Calls Tryz.prog 87 #[.agg (mkHash kt), .int .i64 (kt : Int)] u fun e w' => e = .returned (.bool true) ∧ Below u.heap.size u w') := ⟨fun u _ => by exact isHash_any u kt NT.out.2⟩
          have f1 : (k : Int) < (qt : Int) := by omega
          clear hr2 hg2 hrr hgl HL hk hlt
          by_cases hkn : k < nt
          · obtain ⟨g3, rfl, hg3, hr3⟩ := own_mark LI.out (mkHashL kt) hkn
            have hrr := rangeB (rangeB hr3 hg3 K1.out) (Nat.lt_of_lt_of_le hg3 K1.out.size) BQ.out
            have hgl := Nat.lt_of_lt_of_le (Nat.lt_of_lt_of_le hg3 K1.out.size) BQ.out.size
            have HR2 : Bx (∀ u, BlwC wr.heap.size wr u → u.rangeAt g3 (k * 32) (mkHash kt).toList) := ⟨fun u ⟨u', hu⟩ => by subst hu; exact rangeB hrr hgl u'.h⟩
            have f3 : (k : Int) < (nt : Int) := by omega
            clear hr3 hg3 hrr hgl hkn
            go_upto_region 10 with (fail)
            refine wp_region_quiet_c (C := fun w' => ∃ u : Blw wr.heap.size wr, w' = u.w) (by kernel_rfl) (by kernel_rfl) ⟨⟨_, (Below.refl _ _).drew⟩, rfl⟩ ?_
            iterate 4 go_big_quiet_step (fail)
            go_big_quiet_want
            refine quiet_load_midB 81 (.tmp 40) rfl g2 (k * 32) rfl (mkHash kt).toList _ HR1.out Tryz.underlying81 rfl (by rw [mkHashL]; kernel_rfl) ?_
            go_big_quiet_on
            simp only [Act.put, List.setIfInBounds_toArray, List.set_cons_succ, List.set_cons_zero, Array.toArray_toList]
            iterate 2 go_big_quiet_step (fail)
            go_big_quiet_step (exact Calls.blw (Nat.le_refl _) CI.out)
            iterate 11 go_big_quiet_step (fail)
            go_big_quiet_step (fail)
            go_big_quiet_want
            refine quiet_load_midB 81 (.tmp 56) rfl g3 (k * 32) rfl (mkHash kt).toList _ HR2.out Tryz.underlying81 rfl (by rw [mkHashL]; kernel_rfl) ?_
            go_big_quiet_on
            simp only [Act.put, List.setIfInBounds_toArray, List.set_cons_succ, List.set_cons_zero, Array.toArray_toList]
            iterate 2 go_big_quiet_step (fail)
            go_big_quiet_step (exact Calls.blw (Nat.le_refl _) CI.out)
            iterate 3 go_big_quiet_step (fail)
            refine wpQuiet_nil ?_
            rintro _ ⟨u, rfl⟩
            have BU := Bx.mk (BQ.out.trans (u.h.mono BQ.out.size))
            generalize u.w = W5 at BU ⊢
            clear d0 d1 d2 ne f1 f3
            go_wp2_with fail
            go_roundw
            case rel => exact ⟨k + 1, KL.out, (by rw [wrap_succB k (by have := KL.out; have := NT.out.1; have := QT.out; omega)]), BU.out⟩
            case measure => rw [wrap_succB k (by have := KL.out; have := NT.out.1; have := QT.out; omega)]; have := KL.out; simp [intOf]; omega
          · have f3 : ¬ (k : Int) < (nt : Int) := by omega
            clear hkn
            go_upto_region 10 with (fail)
            refine wp_region_quiet_c (C := fun w' => ∃ u : Blw wr.heap.size wr, w' = u.w) (by kernel_rfl) (by kernel_rfl) ⟨⟨_, (Below.refl _ _).drew⟩, rfl⟩ ?_
            iterate 4 go_big_quiet_step (fail)
            go_big_quiet_want
            refine quiet_load_midB 81 (.tmp 40) rfl g2 (k * 32) rfl (mkHash kt).toList _ HR1.out Tryz.underlying81 rfl (by rw [mkHashL]; kernel_rfl) ?_
            go_big_quiet_on
            simp only [Act.put, List.setIfInBounds_toArray, List.set_cons_succ, List.set_cons_zero, Array.toArray_toList]
            iterate 2 go_big_quiet_step (fail)
            go_big_quiet_step (exact Calls.blw (Nat.le_refl _) CI.out)
            iterate 19 go_big_quiet_step (fail)
            refine wpQuiet_nil ?_
            rintro _ ⟨u, rfl⟩
            have BU := Bx.mk (BQ.out.trans (u.h.mono BQ.out.size))
            generalize u.w = W5 at BU ⊢
            clear d0 d1 d2 ne f1 f3
            go_wp2_with fail
            go_roundw
            case rel => exact ⟨k + 1, KL.out, (by rw [wrap_succB k (by have := KL.out; have := NT.out.1; have := QT.out; omega)]), BU.out⟩
            case measure => rw [wrap_succB k (by have := KL.out; have := NT.out.1; have := QT.out; omega)]; have := KL.out; simp [intOf]; omega
        · have f1 : ¬ (k : Int) < (qt : Int) := by omega
          clear hlt hk c0 c2 HL
          go_wp2_with fail
          go_roundw
          case rel => exact ⟨t + 1, TL.out, (by rw [wrap_succB t (by have := TL.out; have := MB.out; omega)]), K1.out.trans (BQ.out.mono K1.out.size)⟩
          case measure => rw [wrap_succB t (by have := TL.out; have := MB.out; omega)]; have := TL.out; simp [intOf]; omega
    · obtain rfl : t = m := by omega
      have f1 : ¬ (t : Int) < (t : Int) := by omega
      clear ht hlt
      go_wp2_with fail
      go_ret
      exact ⟨rfl, BW.out⟩
end Go.Proofs.YtgbafjmklefoiaaGreatDoor
end
section
namespace Go.Proofs.YtgbafjmklefoiaaGreatDoor
set_option maxRecDepth 100000
open Go.RowKit
set_option maxHeartbeats 6400000 in
theorem apartHash_any (base : Nat) (w : World) (b n : Nat) (l : Nat → Value) (m : Nat) (V : Nat → Value) (N : Nat → Nat) (X : Nat → List Value) (G : Nat → Value) (Kn : Nat → Nat) (h : BkL 5 129 81 32 base w b n l m V N X G Kn) (hz : ∀ i, i ≠ 5 → l i = .slice none 0 0) (hbase : base ≤ w.heap.size) (hm : m ≤ 100000000) (hN : ∀ i, i < m → N i ≤ 100000000 ∧ Kn i ≤ 100000000) :
    Calls Tryz.prog 9 #[.pointer (some ⟨b, 0, none⟩)] w fun e w' => e = .returned (.bool true) ∧ Keep (fun k => (∃ i, i < m ∧ (V i).ownBlock = some k) ∨ (l 5).ownBlock = some k) w w' := by
  have HZ := Bx.mk hz; have HB := Bx.mk hbase

  have B0 := Bx.mk h; have HM := Bx.mk hm; have HN := Bx.mk hN
  have OX : Bx (∀ i, i < m → fillX (mkHash (Kn i)).toList (X i) (N i) = marks (mkHash (Kn i)).toList (N i)) := ⟨fun i hi => fillX_marks _ _ _ (by rw [mkHashL]; exact (h.li i hi).1)⟩
  clear hm hN
  have KK0 : Bx (Keep (fun k => (∃ i, i < m ∧ (V i).ownBlock = some k) ∨ (l 5).ownBlock = some k) w w) := ⟨Keep.refl _ _⟩
  clear hz hbase h
  go_enter Tryz.func9, Tryz.ntmps9
  go_wp2_with fail
  refine (fillInt_nil w b (n : Int) l B0.out.bk (HZ.out 1 (by decide))).mono ?_
  rintro e z1 ⟨rfl, hz1⟩
  rw [hz1]; clear hz1
  go_wp2_with fail
  refine (fillByte_nil w b (n : Int) l B0.out.bk (HZ.out 2 (by decide))).mono ?_
  rintro e z2 ⟨rfl, hz2⟩
  rw [hz2]; clear hz2
  go_wp2_with fail
  refine (fillText_nil w b (n : Int) l B0.out.bk (HZ.out 3 (by decide))).mono ?_
  rintro e z3 ⟨rfl, hz3⟩
  rw [hz3]; clear hz3
  go_wp2_with fail
  refine (fillNumber_nil w b (n : Int) l B0.out.bk (HZ.out 4 (by decide))).mono ?_
  rintro e z4 ⟨rfl, hz4⟩
  rw [hz4]; clear hz4
  go_wp2_with fail
  refine (fillHash_any base w b n l m V N X G Kn B0.out (Nat.le_trans HB.out KK0.out.size) HM.out HN.out).mono ?_
  rintro e w1 ⟨rfl, hB, hk⟩
  have C1 := Bx.mk (hB.of OX.out)
  have K1 := Bx.mk (KK0.out.trans (hk.mono (S' := fun k => (∃ i, i < m ∧ (V i).ownBlock = some k) ∨ (l 5).ownBlock = some k) (fun j _ hj => .inl (hj))) (fun _ _ h => h))
  clear hB hk
  go_wp2_with fail
  refine (fillCoord_nil w1 b (n : Int) l C1.out.bk (HZ.out 6 (by decide))).mono ?_
  rintro e z5 ⟨rfl, hz5⟩
  rw [hz5]; clear hz5
  go_wp2_with fail
  refine (fillSpan_nil w1 b (n : Int) l C1.out.bk (HZ.out 7 (by decide))).mono ?_
  rintro e z6 ⟨rfl, hz6⟩
  rw [hz6]; clear hz6
  go_wp2_with fail
  refine (fillNode_nil w1 b (n : Int) l C1.out.bk (HZ.out 8 (by decide))).mono ?_
  rintro e z7 ⟨rfl, hz7⟩
  rw [hz7]; clear hz7
  go_wp2_with fail
  refine (fillTile_nil w1 b (n : Int) l C1.out.bk (HZ.out 9 (by decide))).mono ?_
  rintro e z8 ⟨rfl, hz8⟩
  rw [hz8]; clear hz8
  go_wp2_with fail
  refine (fillEntry_nil w1 b (n : Int) l C1.out.bk (HZ.out 10 (by decide))).mono ?_
  rintro e z9 ⟨rfl, hz9⟩
  rw [hz9]; clear hz9
  go_wp2_with fail
  refine (fillFound_nil w1 b (n : Int) l C1.out.bk (HZ.out 11 (by decide))).mono ?_
  rintro e z10 ⟨rfl, hz10⟩
  rw [hz10]; clear hz10
  go_wp2_with fail
  refine (fillKnown_nil w1 b (n : Int) l C1.out.bk (HZ.out 12 (by decide))).mono ?_
  rintro e z11 ⟨rfl, hz11⟩
  rw [hz11]; clear hz11
  go_wp2_with fail
  refine (fillVote_nil w1 b (n : Int) l C1.out.bk (HZ.out 13 (by decide))).mono ?_
  rintro e z12 ⟨rfl, hz12⟩
  rw [hz12]; clear hz12
  go_wp2_with fail
  refine (fillPart_nil w1 b (n : Int) l C1.out.bk (HZ.out 14 (by decide))).mono ?_
  rintro e z13 ⟨rfl, hz13⟩
  rw [hz13]; clear hz13
  go_wp2_with fail
  refine (fillHashList_nil w1 b (n : Int) l C1.out.bk (HZ.out 15 (by decide))).mono ?_
  rintro e z14 ⟨rfl, hz14⟩
  rw [hz14]; clear hz14
  go_wp2_with fail
  refine (fillQuery_nil w1 b (n : Int) l C1.out.bk (HZ.out 16 (by decide))).mono ?_
  rintro e z15 ⟨rfl, hz15⟩
  rw [hz15]; clear hz15
  go_wp2_with fail
  refine (growInt_nil w1 b (n : Int) l C1.out.bk (HZ.out 1 (by decide))).mono ?_
  rintro e z16 ⟨rfl, hz16⟩
  rw [hz16]; clear hz16
  go_wp2_with fail
  refine (growByte_nil w1 b (n : Int) l C1.out.bk (HZ.out 2 (by decide))).mono ?_
  rintro e z17 ⟨rfl, hz17⟩
  rw [hz17]; clear hz17
  go_wp2_with fail
  refine (growText_nil w1 b (n : Int) l C1.out.bk (HZ.out 3 (by decide))).mono ?_
  rintro e z18 ⟨rfl, hz18⟩
  rw [hz18]; clear hz18
  go_wp2_with fail
  refine (growNumber_nil w1 b (n : Int) l C1.out.bk (HZ.out 4 (by decide))).mono ?_
  rintro e z19 ⟨rfl, hz19⟩
  rw [hz19]; clear hz19
  go_wp2_with fail
  refine (growHash_any base w1 b n l m V N G Kn C1.out (Nat.le_trans HB.out K1.out.size) HM.out HN.out).mono ?_
  rintro e w2 ⟨rfl, G', hB, hg, hk⟩
  have C2 := Bx.mk hB; have GG := Bx.mk (fun i (hi : i < m) => (hg i hi).1)
  have GL := Bx.mk (fun i (hi : i < m) => (hg i hi).2)
  have LT := Bx.mk K1.out.size
  have K2 := Bx.mk (K1.out.trans (hk.mono (S' := fun k => (∃ i, i < m ∧ (V i).ownBlock = some k) ∨ (l 5).ownBlock = some k) (fun j _ hj => hj.elim (fun hj => .inl (hj)) (fun hj => .inr (hj)))) (fun _ _ h => h))
  clear hB hg hk
  go_wp2_with fail
  refine (growCoord_nil w2 b (n : Int) l C2.out.bk (HZ.out 6 (by decide))).mono ?_
  rintro e z20 ⟨rfl, hz20⟩
  rw [hz20]; clear hz20
  go_wp2_with fail
  refine (growSpan_nil w2 b (n : Int) l C2.out.bk (HZ.out 7 (by decide))).mono ?_
  rintro e z21 ⟨rfl, hz21⟩
  rw [hz21]; clear hz21
  go_wp2_with fail
  refine (growNode_nil w2 b (n : Int) l C2.out.bk (HZ.out 8 (by decide))).mono ?_
  rintro e z22 ⟨rfl, hz22⟩
  rw [hz22]; clear hz22
  go_wp2_with fail
  refine (growTile_nil w2 b (n : Int) l C2.out.bk (HZ.out 9 (by decide))).mono ?_
  rintro e z23 ⟨rfl, hz23⟩
  rw [hz23]; clear hz23
  go_wp2_with fail
  refine (growEntry_nil w2 b (n : Int) l C2.out.bk (HZ.out 10 (by decide))).mono ?_
  rintro e z24 ⟨rfl, hz24⟩
  rw [hz24]; clear hz24
  go_wp2_with fail
  refine (growFound_nil w2 b (n : Int) l C2.out.bk (HZ.out 11 (by decide))).mono ?_
  rintro e z25 ⟨rfl, hz25⟩
  rw [hz25]; clear hz25
  go_wp2_with fail
  refine (growKnown_nil w2 b (n : Int) l C2.out.bk (HZ.out 12 (by decide))).mono ?_
  rintro e z26 ⟨rfl, hz26⟩
  rw [hz26]; clear hz26
  go_wp2_with fail
  refine (growVote_nil w2 b (n : Int) l C2.out.bk (HZ.out 13 (by decide))).mono ?_
  rintro e z27 ⟨rfl, hz27⟩
  rw [hz27]; clear hz27
  go_wp2_with fail
  refine (growPart_nil w2 b (n : Int) l C2.out.bk (HZ.out 14 (by decide))).mono ?_
  rintro e z28 ⟨rfl, hz28⟩
  rw [hz28]; clear hz28
  go_wp2_with fail
  refine (growHashList_nil w2 b (n : Int) l C2.out.bk (HZ.out 15 (by decide))).mono ?_
  rintro e z29 ⟨rfl, hz29⟩
  rw [hz29]; clear hz29
  go_wp2_with fail
  refine (growQuery_nil w2 b (n : Int) l C2.out.bk (HZ.out 16 (by decide))).mono ?_
  rintro e z30 ⟨rfl, hz30⟩
  rw [hz30]; clear hz30
  go_wp2_with fail
  refine (lookInt_nil w2 b (n : Int) l C2.out.bk (HZ.out 1 (by decide))).mono ?_
  rintro e z31 ⟨rfl, hz31⟩
  rw [hz31]; clear hz31
  go_wp2_with fail
  refine (lookByte_nil w2 b (n : Int) l C2.out.bk (HZ.out 2 (by decide))).mono ?_
  rintro e z32 ⟨rfl, hz32⟩
  rw [hz32]; clear hz32
  go_wp2_with fail
  refine (lookText_nil w2 b (n : Int) l C2.out.bk (HZ.out 3 (by decide))).mono ?_
  rintro e z33 ⟨rfl, hz33⟩
  rw [hz33]; clear hz33
  go_wp2_with fail
  refine (lookNumber_nil w2 b (n : Int) l C2.out.bk (HZ.out 4 (by decide))).mono ?_
  rintro e z34 ⟨rfl, hz34⟩
  rw [hz34]; clear hz34
  go_wp2_with fail
  refine (lookHash_any base w2 b n l m V N G' Kn C2.out GG.out HM.out HN.out).mono ?_
  rintro e w3 ⟨rfl, hb⟩
  have K3 := Bx.mk (K2.out.trans (Keep.of_below hb (fun k => (∃ i, i < m ∧ (V i).ownBlock = some k) ∨ (l 5).ownBlock = some k)) (fun _ _ h => h))
  have D3Hash := Bx.mk (C2.out.keep (Keep.of_below hb (fun _ => False)) (C2.out.bk.below hb) rfl (fun _ _ h => h) (fun _ _ _ _ h => h))
  clear hb
  go_wp2_with fail
  refine (lookCoord_nil w3 b (n : Int) l D3Hash.out.bk (HZ.out 6 (by decide))).mono ?_
  rintro e z35 ⟨rfl, hz35⟩
  rw [hz35]; clear hz35
  go_wp2_with fail
  refine (lookSpan_nil w3 b (n : Int) l D3Hash.out.bk (HZ.out 7 (by decide))).mono ?_
  rintro e z36 ⟨rfl, hz36⟩
  rw [hz36]; clear hz36
  go_wp2_with fail
  refine (lookNode_nil w3 b (n : Int) l D3Hash.out.bk (HZ.out 8 (by decide))).mono ?_
  rintro e z37 ⟨rfl, hz37⟩
  rw [hz37]; clear hz37
  go_wp2_with fail
  refine (lookTile_nil w3 b (n : Int) l D3Hash.out.bk (HZ.out 9 (by decide))).mono ?_
  rintro e z38 ⟨rfl, hz38⟩
  rw [hz38]; clear hz38
  go_wp2_with fail
  refine (lookEntry_nil w3 b (n : Int) l D3Hash.out.bk (HZ.out 10 (by decide))).mono ?_
  rintro e z39 ⟨rfl, hz39⟩
  rw [hz39]; clear hz39
  go_wp2_with fail
  refine (lookFound_nil w3 b (n : Int) l D3Hash.out.bk (HZ.out 11 (by decide))).mono ?_
  rintro e z40 ⟨rfl, hz40⟩
  rw [hz40]; clear hz40
  go_wp2_with fail
  refine (lookKnown_nil w3 b (n : Int) l D3Hash.out.bk (HZ.out 12 (by decide))).mono ?_
  rintro e z41 ⟨rfl, hz41⟩
  rw [hz41]; clear hz41
  go_wp2_with fail
  refine (lookVote_nil w3 b (n : Int) l D3Hash.out.bk (HZ.out 13 (by decide))).mono ?_
  rintro e z42 ⟨rfl, hz42⟩
  rw [hz42]; clear hz42
  go_wp2_with fail
  refine (lookPart_nil w3 b (n : Int) l D3Hash.out.bk (HZ.out 14 (by decide))).mono ?_
  rintro e z43 ⟨rfl, hz43⟩
  rw [hz43]; clear hz43
  go_wp2_with fail
  refine (lookHashList_nil w3 b (n : Int) l D3Hash.out.bk (HZ.out 15 (by decide))).mono ?_
  rintro e z44 ⟨rfl, hz44⟩
  rw [hz44]; clear hz44
  go_wp2_with fail
  refine (lookQuery_nil w3 b (n : Int) l D3Hash.out.bk (HZ.out 16 (by decide))).mono ?_
  rintro e z45 ⟨rfl, hz45⟩
  rw [hz45]; clear hz45
  go_wp2_with fail
  go_ret
  exact ⟨rfl, K3.out⟩
end Go.Proofs.YtgbafjmklefoiaaGreatDoor
end
section
namespace Go.Proofs.YtgbafjmklefoiaaGreatDoor
set_option maxRecDepth 100000
open Go.RowKit
/-- what is held of one list: itself, the longer one, its number -/
def hdcHash (x : Value × Value × Int) : List Value := [x.1, x.2.1, .int .i64 x.2.2]
theorem built_heldHash (va : Option Addr) (vn vc : Nat) (n : Int) : Tryz.prog.built 129 [(0, .slice va vn vc), (2, .int .i64 n)] = some #[.slice va vn vc, .slice none 0 0, .int .i64 n] := by kernel_rfl
theorem under_heldHash : Tryz.prog.underlying 38 = some (.slice 129) := by kernel_rfl
theorem info_heldHash : (Tryz.prog.info? 129).map (fun i => (i.zero, i.size, i.bytes)) = some (some (.agg #[.slice none 0 0, .slice none 0 0, .int .i64 0]), 3, 56) := by kernel_rfl
theorem run_bs_heldHash {o : Oper} {a : Act} (w : World) (x : Operand) (ho : o.op = .buildSlice 38 1 #[(0, x)]) (va : Option Addr) (vn vc : Nat) (n : Int) (hx : a.eval x = .agg #[.slice va vn vc, .slice none 0 0, .int .i64 n]) :
    (execOp a.eval o).run Tryz.prog w = .ok (.value (.slice (some ⟨w.heap.size, 0, none⟩) 1 1)) (w.alloc (.cells #[.slice va vn vc, .slice none 0 0, .int .i64 n] 129)) := by
  have hr : (Instr.buildSlice 38 1 #[(0, .agg #[.slice va vn vc, .slice none 0 0, .int .i64 n])]).run Tryz.prog w = .ok (.slice (some ⟨w.heap.size, 0, none⟩) 1 1) (w.alloc (.cells #[.slice va vn vc, .slice none 0 0, .int .i64 n] 129)) := by kernel_rfl
  unfold execOp
  simp only [ho, List.map_toArray, List.map_cons, List.map_nil, hx, Sem.run_bind, hr, Result.andThen_ok, Sem.run_pure]
def StKHash (own : Nat → Option Nat) (w : World) (b n base m : Nat) (l : Nat → Value) (la : Option Addr) (lc : Nat) (xs : List Value) (va : Option Addr) (vn vc B2 : Nat) : Prop :=
  ∃ s1, OutV own w b 15 51 #[.int .i64 ((n + 1 : Nat) : Int), l 1, l 2, l 3, l 4, s1, l 6, l 7, l 8, l 9, l 10, l 11, l 12, l 13, l 14, l 15, l 16] ∧ GrownW own w 12 base 129 3 s1 (m + 1) (xs ++ (#[.slice va vn vc, .slice none 0 0, .int .i64 ((n + 1 : Nat) : Int)] : Array Value).toList) (.slice la m lc) B2
def VKHash (b n base m : Nat) (l : Nat → Value) (la : Option Addr) (lc : Nat) (xs : List Value) (va : Option Addr) (vn vc B2 : Nat) (oi : Nat) (v : Value) (own : Nat → Option Nat) (w : World) : Prop :=
  match oi with
  | 0 => v = .pointer (some ⟨b, 0, none⟩)
  | 1 => v = .pointer (some ⟨b, 0, none⟩)
  | 2 => v = .pointer (some ⟨b, 0, none⟩)
  | 3 => v = .pointer (some ⟨b, 5, none⟩)
  | 4 => v = .slice la m lc
  | 5 => v = .slice va vn vc
  | 6 => v = .pointer (some ⟨b, 0, none⟩)
  | 7 => v = .pointer (some ⟨b, 0, none⟩)
  | 8 => v = .pointer (some ⟨b, 0, none⟩)
  | 9 => v = .int .i64 ((n + 1 : Nat) : Int)
  | 10 => v = .agg #[.slice va vn vc, .slice none 0 0, .int .i64 ((n + 1 : Nat) : Int)]
  | 11 => BuiltV own w v 1 129 #[.slice va vn vc, .slice none 0 0, .int .i64 ((n + 1 : Nat) : Int)]
  | 12 => GrownW own w 12 base 129 3 v (m + 1) (xs ++ (#[.slice va vn vc, .slice none 0 0, .int .i64 ((n + 1 : Nat) : Int)] : Array Value).toList) (.slice la m lc) B2
  | 13 => v = .pointer (some ⟨b, 0, none⟩)
  | 14 => v = .pointer (some ⟨b, 5, none⟩)
  | 15 => StKHash own w b n base m l la lc xs va vn vc B2
  | _ => True
def VKHashmk : Nat → Option Nat := fun _ => none
theorem VKHash_mono (b n base m : Nat) (l : Nat → Value) (la : Option Addr) (lc : Nat) (xs : List Value) (va : Option Addr) (vn vc B2 : Nat) (oi oj : Nat) (v : Value) (own : Nat → Option Nat) (w : World) (own' : Nat → Option Nat) (w' : World) (hij : oi ≠ oj)  (hx0 : oi = 12 → oj = 15 → False) (h : VKHash b n base m l la lc xs va vn vc B2 oj v own w) (r : Rel VKHashmk oi own w own' w') : VKHash b n base m l la lc xs va vn vc B2 oj v own' w' := by
  unfold VKHash at h ⊢
  split at h
  · exact h
  · exact h
  · exact h
  · exact h
  · exact h
  · exact h
  · exact h
  · exact h
  · exact h
  · exact h
  · exact h
  · exact h.stable r
  · exact h.stable r hij
  · exact h
  · exact h
  · obtain ⟨s1, h1, h2⟩ := h; exact ⟨s1, h1.stable r hij, h2.stable r (fun e => hx0 e rfl)⟩
  · trivial

set_option maxHeartbeats 1600000 in
theorem keepHash_any (base : Nat) (w : World) (b n : Nat) (l : Nat → Value) (m : Nat) (xs : List Value) (hB : BkP w b (n : Int) l) (hO : w.ownsRow base 129 3 (l 5) m xs) (hm : m ≤ 100000000) (hn : n ≤ 100000000) (hne : ∀ j, (l 5).ownBlock = some j → j ≠ b) (hbase : base ≤ w.heap.size) (va : Option Addr) (vn vc : Nat) :
    Calls Tryz.prog 94 #[.pointer (some ⟨b, 0, none⟩), .slice va vn vc] w fun e w' => e = .returned (.tuple #[]) ∧ ∃ x, BkP w' b ((n + 1 : Nat) : Int) (updK l 5 x) ∧ w'.ownsRow base 129 3 x (m + 1) (xs ++ hdcHash (.slice va vn vc, .slice none 0 0, ((n + 1 : Nat) : Int))) ∧ Keep (fun k => k = b ∨ (l 5).ownBlock = some k) w w' ∧ ∀ k, x.ownBlock = some k → k ≠ b ∧ ((l 5).ownBlock = some k ∨ w.heap.size ≤ k) := by
  obtain ⟨la, lc, hs, -, -, -⟩ := own_shapeK hO
  have c0 := er_cellAt hB.hb 0 _ rfl
  have f0 : w.frozen? ⟨b, 0, none⟩ = false := by simp [World.frozen?, hB.hb]
  have hlt := (Array.getElem?_eq_some_iff.1 hB.hb).1
  rw [hs] at hO hne
  have hx : (w.setCell ⟨b, 0, none⟩ (.int .i64 ((n + 1 : Nat) : Int))).heap[b]? = some (.cells #[.int .i64 ((n + 1 : Nat) : Int), l 1, l 2, l 3, l 4, (.slice la m lc), l 6, l 7, l 8, l 9, l 10, l 11, l 12, l 13, l 14, l 15, l 16] 51 (0, 0)) := by
    have h := hB.hb
    rw [hs] at h
    simp [World.setCell, Array.getElem?_modify, h]
  have ho := ownsRow_setCell_ne hO ⟨b, 0, none⟩ (.int .i64 ((n + 1 : Nat) : Int)) (fun j hj e => hne j hj e)
  have hk := Keep.setCell w ⟨b, 0, none⟩ (.int .i64 ((n + 1 : Nat) : Int))
  have fw : wrap64 ((n : Int) + 1) = ((n + 1 : Nat) : Int) := by unfold wrap64; omega
  have HS := Bx.mk hs; have HN := Bx.mk hn; have HM := Bx.mk hm; have RNB := Bx.mk hne; have OX0 := Bx.mk ho; have XB0 := Bx.mk hx; have KX0 := Bx.mk hk; have FW := Bx.mk fw; have BS := Bx.mk hbase; have WL := Bx.mk hlt; have OL := Bx.mk (fun j (hj : (Value.slice la m lc).ownBlock = some j) => ownsRow_lt hO j hj)
  clear hB hO hm hn hne hs hx ho hk hbase hlt
  go_enter Tryz.func94, Tryz.ntmps94
  go_upto_region 1 with (fail)
  change Code.wp _ _ _ _ (w.setCell ⟨b, 0, none⟩ (.int .i64 ((n + 1 : Nat) : Int)))
  clear c0 f0 fw
  generalize w.setCell ⟨b, 0, none⟩ (.int .i64 ((n + 1 : Nat) : Int)) = X at OX0 XB0 KX0 ⊢
  have XBX := XB0; have OX := OX0
  have XBL := Bx.mk (Array.getElem?_eq_some_iff.1 XBX.out).1
  have HTP := Bx.mk (fun k' (hk' : X.heap.size ≤ k') => ownBK_none (b := b) (v := .slice la m lc) (i := 15) (j := 12) (k := k') (fun e => by have := OL.out _ e; have := KX0.out.size; omega) (by have := XBL.out; omega))
  obtain ⟨j0, hj0, hy0, hy1, hy2⟩ := info_partsB info_heldHash
  have RJ := Bx.mk (And.intro hj0 (And.intro hy0 (And.intro hy1 hy2)))
  have Q1 := Bx.mk (show m + 1 ≤ maxLen by have := HM.out; unfold maxLen; omega); have Q2 := Bx.mk (show (m + 1) * 56 ≤ 140737488355328 by have := HM.out; omega)
  have QB := Bx.mk (show base ≤ X.heap.size from Nat.le_trans BS.out KX0.out.size)
  clear hj0 hy0 hy1 hy2
  refine wp_region_own8 (n := 26) VKHashmk (ownBK b (.slice la m lc) 15 12) (VKHash b n base m l la lc xs va vn vc (X.heap.size)) (by kernel_rfl) (by kernel_rfl) rfl (fun k hk => HTP.out k hk) (fun j i hj _ => by cases hj) ?_ ?_ ?_
  · exact fun oi oj v own w own' w' hij hnd h r => VKHash_mono b n base m l la lc xs va vn vc (X.heap.size) oi oj v own w own' w' hij (by rintro rfl rfl; exact Bool.noConfusion (hnd.symm.trans (show depB _ 15 12 = true by kernel_rfl))) h r
  · intro oi o hi f u own hsame hsn hfr hlate hkeep8 hdep
    have hkeep := hkeep8 _ (.inl rfl)
    match oi, hi with
    | 0, hi =>
      cases (show some _ = some o from hi)
      have e0 : f.tmps.getD 0 undef = .pointer (some ⟨b, 0, none⟩) := hsame.slot 0 (fun i o h => invB2_not 0 (by kernel_rfl) h)
      clear hdep hsame hi hlate hfr hkeep
      exact .inl ⟨wanted_none rfl, showsO_move hsn rfl _ rfl e0⟩
    | 1, hi =>
      cases (show some _ = some o from hi)
      have e0 : f.tmps.getD 0 undef = .pointer (some ⟨b, 0, none⟩) := hsame.slot 0 (fun i o h => invB2_not 0 (by kernel_rfl) h)
      clear hdep hsame hi hlate hfr hkeep
      exact .inl ⟨wanted_none rfl, showsO_move hsn rfl _ rfl e0⟩
    | 2, hi =>
      cases (show some _ = some o from hi)
      have e12 : (f.tmps.getD 12 undef) = .pointer (some ⟨b, 0, none⟩) := depO (V := (VKHash b n base m l la lc xs va vn vc (X.heap.size))) hdep 1 12 (by kernel_rfl) (by kernel_rfl)
      clear hdep hsame hi hlate hfr hkeep
      exact .inl ⟨wanted_none rfl, showsO_pure hsn rfl (.pointer (some ⟨b, 0, none⟩)) (by simp only [execOp, Act.eval]; go_simp) rfl⟩
    | 3, hi =>
      cases (show some _ = some o from hi)
      have e13 : (f.tmps.getD 13 undef) = .pointer (some ⟨b, 0, none⟩) := depO (V := (VKHash b n base m l la lc xs va vn vc (X.heap.size))) hdep 2 13 (by kernel_rfl) (by kernel_rfl)
      clear hdep hsame hi hlate hfr hkeep
      exact .inl ⟨wanted_none rfl, showsO_pure hsn rfl (.pointer (some ⟨b, 5, none⟩)) (by simp only [execOp, Act.eval]; go_simp) rfl⟩
    | 4, hi =>
      cases (show some _ = some o from hi)
      have e14 : (f.tmps.getD 14 undef) = .pointer (some ⟨b, 5, none⟩) := depO (V := (VKHash b n base m l la lc xs va vn vc (X.heap.size))) hdep 3 14 (by kernel_rfl) (by kernel_rfl)
      clear hdep hsame hi hlate hfr hkeep
      have cc5 := er_cellAt ((hkeep8 15 (.inr (by kernel_rfl)) b XBL.out (ownBK_one _ _ _ _)).trans XBX.out) 5 _ rfl
      exact .inl ⟨wanted_none rfl, showsO_pure hsn rfl (.slice la m lc) (by simp only [execOp, Act.eval]; go_simp) rfl⟩
    | 5, hi =>
      cases (show some _ = some o from hi)
      have e1 : f.tmps.getD 1 undef = .slice va vn vc := hsame.slot 1 (fun i o h => invB2_not 1 (by kernel_rfl) h)
      clear hdep hsame hi hlate hfr hkeep
      exact .inl ⟨wanted_none rfl, showsO_move hsn rfl _ rfl e1⟩
    | 6, hi =>
      cases (show some _ = some o from hi)
      have e0 : f.tmps.getD 0 undef = .pointer (some ⟨b, 0, none⟩) := hsame.slot 0 (fun i o h => invB2_not 0 (by kernel_rfl) h)
      clear hdep hsame hi hlate hfr hkeep
      exact .inl ⟨wanted_none rfl, showsO_move hsn rfl _ rfl e0⟩
    | 7, hi =>
      cases (show some _ = some o from hi)
      have e17 : (f.tmps.getD 17 undef) = .pointer (some ⟨b, 0, none⟩) := depO (V := (VKHash b n base m l la lc xs va vn vc (X.heap.size))) hdep 6 17 (by kernel_rfl) (by kernel_rfl)
      clear hdep hsame hi hlate hfr hkeep
      exact .inl ⟨wanted_none rfl, showsO_pure hsn rfl (.pointer (some ⟨b, 0, none⟩)) (by simp only [execOp, Act.eval]; go_simp) rfl⟩
    | 8, hi =>
      cases (show some _ = some o from hi)
      have e18 : (f.tmps.getD 18 undef) = .pointer (some ⟨b, 0, none⟩) := depO (V := (VKHash b n base m l la lc xs va vn vc (X.heap.size))) hdep 7 18 (by kernel_rfl) (by kernel_rfl)
      clear hdep hsame hi hlate hfr hkeep
      exact .inl ⟨wanted_none rfl, showsO_pure hsn rfl (.pointer (some ⟨b, 0, none⟩)) (by simp only [execOp, Act.eval]; go_simp) rfl⟩
    | 9, hi =>
      cases (show some _ = some o from hi)
      have e19 : (f.tmps.getD 19 undef) = .pointer (some ⟨b, 0, none⟩) := depO (V := (VKHash b n base m l la lc xs va vn vc (X.heap.size))) hdep 8 19 (by kernel_rfl) (by kernel_rfl)
      clear hdep hsame hi hlate hfr hkeep
      have cc0 := er_cellAt ((hkeep8 15 (.inr (by kernel_rfl)) b XBL.out (ownBK_one _ _ _ _)).trans XBX.out) 0 _ rfl
      exact .inl ⟨wanted_none rfl, showsO_pure hsn rfl (.int .i64 ((n + 1 : Nat) : Int)) (by simp only [execOp, Act.eval]; go_simp) rfl⟩
    | 10, hi =>
      cases (show some _ = some o from hi)
      have e16 : (f.tmps.getD 16 undef) = .slice va vn vc := depO (V := (VKHash b n base m l la lc xs va vn vc (X.heap.size))) hdep 5 16 (by kernel_rfl) (by kernel_rfl)
      have e20 : (f.tmps.getD 20 undef) = .int .i64 ((n + 1 : Nat) : Int) := depO (V := (VKHash b n base m l la lc xs va vn vc (X.heap.size))) hdep 9 20 (by kernel_rfl) (by kernel_rfl)
      clear hdep hsame hi hlate hfr hkeep
      exact .inl ⟨wanted_none rfl, showsO_build hsn rfl 129 #[(0, .tmp 16), (2, .tmp 20)] rfl #[.slice va vn vc, .slice none 0 0, .int .i64 ((n + 1 : Nat) : Int)] (by simp only [List.map_toArray, List.map_cons, List.map_nil, Act.eval]; rw [e16, e20]; exact built_heldHash _ _ _ _) rfl⟩
    | 11, hi =>
      cases (show some _ = some o from hi)
      have e21 : (f.tmps.getD 21 undef) = .agg #[.slice va vn vc, .slice none 0 0, .int .i64 ((n + 1 : Nat) : Int)] := depO (V := (VKHash b n base m l la lc xs va vn vc (X.heap.size))) hdep 10 21 (by kernel_rfl) (by kernel_rfl)
      clear hdep hsame hi hlate hfr hkeep
      exact .inl ⟨wanted_none rfl, showsO_built hsn rfl 1 129 #[.slice va vn vc, .slice none 0 0, .int .i64 ((n + 1 : Nat) : Int)] (run_bs_heldHash u (.tmp 21) rfl _ _ _ _ e21) (fun h => h)⟩
    | 12, hi =>
      cases (show some _ = some o from hi)
      have e15 : (f.tmps.getD 15 undef) = .slice la m lc := depO (V := (VKHash b n base m l la lc xs va vn vc (X.heap.size))) hdep 4 15 (by kernel_rfl) (by kernel_rfl)
      have e22 : BuiltV own u (f.tmps.getD 22 undef) 1 129 #[.slice va vn vc, .slice none 0 0, .int .i64 ((n + 1 : Nat) : Int)] := depO (V := (VKHash b n base m l la lc xs va vn vc (X.heap.size))) hdep 11 22 (by kernel_rfl) (by kernel_rfl)
      clear hdep hsame hi hlate hfr
      exact .inl ⟨wanted_none rfl, showsO_appendW hsn hkeep rfl (.tmp 15) (.tmp 22) 38 rfl base 129 j0 (.agg #[.slice none 0 0, .slice none 0 0, .int .i64 0]) 3 56 under_heldHash RJ.out.1 RJ.out.2.1 RJ.out.2.2.1 RJ.out.2.2.2 rfl (by decide) (.slice la m lc) m xs e15 OX.out (fun j hj => ownBK_two hj (RNB.out j hj)) e22 rfl (by simp [Value.oneCell']) Q1.out Q2.out QB.out (fun _ _ _ h => h)⟩
    | 13, hi =>
      cases (show some _ = some o from hi)
      have e11 : (f.tmps.getD 11 undef) = .pointer (some ⟨b, 0, none⟩) := depO (V := (VKHash b n base m l la lc xs va vn vc (X.heap.size))) hdep 0 11 (by kernel_rfl) (by kernel_rfl)
      clear hdep hsame hi hlate hfr hkeep
      exact .inl ⟨wanted_none rfl, showsO_pure hsn rfl (.pointer (some ⟨b, 0, none⟩)) (by simp only [execOp, Act.eval]; go_simp) rfl⟩
    | 14, hi =>
      cases (show some _ = some o from hi)
      have e24 : (f.tmps.getD 24 undef) = .pointer (some ⟨b, 0, none⟩) := depO (V := (VKHash b n base m l la lc xs va vn vc (X.heap.size))) hdep 13 24 (by kernel_rfl) (by kernel_rfl)
      clear hdep hsame hi hlate hfr hkeep
      exact .inl ⟨wanted_none rfl, showsO_pure hsn rfl (.pointer (some ⟨b, 5, none⟩)) (by simp only [execOp, Act.eval]; go_simp) rfl⟩
    | 15, hi =>
      cases (show some _ = some o from hi)
      have e23 : GrownW own u 12 base 129 3 (f.tmps.getD 23 undef) (m + 1) (xs ++ (#[.slice va vn vc, .slice none 0 0, .int .i64 ((n + 1 : Nat) : Int)] : Array Value).toList) (.slice la m lc) (X.heap.size) := depO (V := (VKHash b n base m l la lc xs va vn vc (X.heap.size))) hdep 12 23 (by kernel_rfl) (by kernel_rfl)
      have e25 : (f.tmps.getD 25 undef) = .pointer (some ⟨b, 5, none⟩) := depO (V := (VKHash b n base m l la lc xs va vn vc (X.heap.size))) hdep 14 25 (by kernel_rfl) (by kernel_rfl)
      clear hdep hsame hi hlate hfr hkeep
      have hst := er_cellAt ((hkeep8 15 (.inl rfl) b XBL.out (ownBK_one _ _ _ _)).trans XBX.out) 5 _ rfl
      have hfr2 : u.frozen? ⟨b, 5, none⟩ = false := by simp [World.frozen?, ((hkeep8 15 (.inl rfl) b XBL.out (ownBK_one _ _ _ _)).trans XBX.out)]
      obtain ⟨a1, c1, ev, _, _, _⟩ := own_shapeK e23.1.1
      rw [ev] at e23
      have hob : own b = some 15 := (hsn.owns b XBL.out).trans (ownBK_one _ _ _ _)
      have HQ : ∀ {v}, GrownW own u 12 base 129 3 v (m + 1) (xs ++ (#[.slice va vn vc, .slice none 0 0, .int .i64 ((n + 1 : Nat) : Int)] : Array Value).toList) (.slice la m lc) (X.heap.size) → GrownW own u 12 base 129 3 v (m + 1) (xs ++ (#[.slice va vn vc, .slice none 0 0, .int .i64 ((n + 1 : Nat) : Int)] : Array Value).toList) (.slice la m lc) (X.heap.size) := fun h => h
      exact .inl ⟨wanted_none rfl, showsO_store_cell hsn hkeep8 rfl b 5 #[.int .i64 ((n + 1 : Nat) : Int), l 1, l 2, l 3, l 4, (.slice la m lc), l 6, l 7, l 8, l 9, l 10, l 11, l 12, l 13, l 14, l 15, l 16] 51 XBX.out (ownBK_one _ _ _ _) (.slice a1 (m + 1) c1) (by simp only [execOp, Act.eval]; go_simp) (fun h => ⟨_, h, grownW_setCellK (HQ e23) b 5 _ hob (by decide)⟩)⟩
    | n + 16, hi => exact absurd hi (by simp)
  · intro f u own hsame hsn hall
    have q11 : f.tmps.getD 11 undef = .pointer (some ⟨b, 0, none⟩) := finO (V := (VKHash b n base m l la lc xs va vn vc (X.heap.size))) hall 0 11 rfl
    have q12 : f.tmps.getD 12 undef = .pointer (some ⟨b, 0, none⟩) := finO (V := (VKHash b n base m l la lc xs va vn vc (X.heap.size))) hall 1 12 rfl
    have q13 : f.tmps.getD 13 undef = .pointer (some ⟨b, 0, none⟩) := finO (V := (VKHash b n base m l la lc xs va vn vc (X.heap.size))) hall 2 13 rfl
    have q14 : f.tmps.getD 14 undef = .pointer (some ⟨b, 5, none⟩) := finO (V := (VKHash b n base m l la lc xs va vn vc (X.heap.size))) hall 3 14 rfl
    have q15 : f.tmps.getD 15 undef = .slice la m lc := finO (V := (VKHash b n base m l la lc xs va vn vc (X.heap.size))) hall 4 15 rfl
    have q16 : f.tmps.getD 16 undef = .slice va vn vc := finO (V := (VKHash b n base m l la lc xs va vn vc (X.heap.size))) hall 5 16 rfl
    have q17 : f.tmps.getD 17 undef = .pointer (some ⟨b, 0, none⟩) := finO (V := (VKHash b n base m l la lc xs va vn vc (X.heap.size))) hall 6 17 rfl
    have q18 : f.tmps.getD 18 undef = .pointer (some ⟨b, 0, none⟩) := finO (V := (VKHash b n base m l la lc xs va vn vc (X.heap.size))) hall 7 18 rfl
    have q19 : f.tmps.getD 19 undef = .pointer (some ⟨b, 0, none⟩) := finO (V := (VKHash b n base m l la lc xs va vn vc (X.heap.size))) hall 8 19 rfl
    have q20 : f.tmps.getD 20 undef = .int .i64 ((n + 1 : Nat) : Int) := finO (V := (VKHash b n base m l la lc xs va vn vc (X.heap.size))) hall 9 20 rfl
    have q21 : f.tmps.getD 21 undef = .agg #[.slice va vn vc, .slice none 0 0, .int .i64 ((n + 1 : Nat) : Int)] := finO (V := (VKHash b n base m l la lc xs va vn vc (X.heap.size))) hall 10 21 rfl
    obtain ⟨g22, q22, o22, m22⟩ : BuiltV own u (f.tmps.getD 22 undef) 1 129 #[.slice va vn vc, .slice none 0 0, .int .i64 ((n + 1 : Nat) : Int)] := finO (V := (VKHash b n base m l la lc xs va vn vc (X.heap.size))) hall 11 22 rfl
    have m23 := finO (V := (VKHash b n base m l la lc xs va vn vc (X.heap.size))) hall 12 23 rfl
    obtain ⟨r23, q23⟩ : ∃ r, f.tmps.getD 23 undef = r := ⟨_, rfl⟩
    rw [q23] at m23
    have q24 : f.tmps.getD 24 undef = .pointer (some ⟨b, 0, none⟩) := finO (V := (VKHash b n base m l la lc xs va vn vc (X.heap.size))) hall 13 24 rfl
    have q25 : f.tmps.getD 25 undef = .pointer (some ⟨b, 5, none⟩) := finO (V := (VKHash b n base m l la lc xs va vn vc (X.heap.size))) hall 14 25 rfl
    obtain ⟨s1, ⟨ob, hbb⟩, ⟨gw, gf⟩, gz⟩ := finN (V := (VKHash b n base m l la lc xs va vn vc (X.heap.size))) hall 15 rfl
    obtain rfl := frame_eq hsame [(11, .pointer (some ⟨b, 0, none⟩)), (12, .pointer (some ⟨b, 0, none⟩)), (13, .pointer (some ⟨b, 0, none⟩)), (14, .pointer (some ⟨b, 5, none⟩)), (15, .slice la m lc), (16, .slice va vn vc), (17, .pointer (some ⟨b, 0, none⟩)), (18, .pointer (some ⟨b, 0, none⟩)), (19, .pointer (some ⟨b, 0, none⟩)), (20, .int .i64 ((n + 1 : Nat) : Int)), (21, .agg #[.slice va vn vc, .slice none 0 0, .int .i64 ((n + 1 : Nat) : Int)]), (22, .slice (some ⟨g22, 0, none⟩) 1 1), (23, r23), (24, .pointer (some ⟨b, 0, none⟩)), (25, .pointer (some ⟨b, 5, none⟩))] (by kernel_rfl) ⟨q11, q12, q13, q14, q15, q16, q17, q18, q19, q20, q21, q22, q23, q24, q25, trivial⟩
    clear hall hsame q11 q12 q13 q14 q15 q16 q17 q18 q19 q20 q21 q22 q23 q24 q25
    simp only [List.foldl, List.setIfInBounds_toArray, List.set_cons_succ, List.set_cons_zero]
    have kbr := hsn.keepBK
    have SNE := Bx.mk (fun j (hj : s1.ownBlock = some j) => (show j ≠ b by
      rintro rfl
      rcases gf j hj with h1 | h1 <;> rw [ob] at h1 <;> cases h1))
    have HBB := Bx.mk hbb; have GW := Bx.mk gw; have GZ := Bx.mk gz; have KBR := Bx.mk kbr
    clear hbb gw gz kbr gf ob hsn
    go_wp2_with fail
    go_end0
    refine ⟨rfl, s1, ⟨HBB.out⟩, GW.out, ?_, fun k hk => ⟨SNE.out k hk, ?_⟩⟩
    · rw [HS.out]
      exact (KX0.out.mono (S' := fun k => k = b ∨ (Value.slice la m lc).ownBlock = some k) (fun j _ h => .inl h)).trans KBR.out (fun _ _ h => h)
    · rw [HS.out]
      rcases GZ.out k hk with h1 | h1
      · exact .inl h1
      · exact .inr (Nat.le_trans KX0.out.size h1)
end Go.Proofs.YtgbafjmklefoiaaGreatDoor
end
section
namespace Go.Proofs.YtgbafjmklefoiaaGreatDoor
set_option maxRecDepth 100000
open Go.RowKit
theorem hdRow_succC (V G : Nat → Value) (K : Nat → Nat) (m : Nat) (v g : Value) (n : Nat) : hdRow (updC V m v) (updC G m g) (updC K m n) (m + 1) = hdRow V G K m ++ [v, g, .int .i64 (n : Int)] := by
  unfold hdRow
  rw [List.range_succ, List.flatMap_append]
  congr 1
  · rw [List.flatMap_def, List.flatMap_def]
    congr 1
    refine List.map_congr_left fun i hi => ?_
    have : i ≠ m := by have := List.mem_range.1 hi; omega
    rw [updC_ne this, updC_ne this, updC_ne this]
  · simp [updC_at]
/-- what lies in a book of lists of Hash -/
structure CK where
  l : Nat → Value
  m : Nat
  V : Nat → Value
  N : Nat → Nat
  X : Nat → List Value
  G : Nat → Value
  K : Nat → Nat
def CK.F (b : CK) (kb k : Nat) : Prop := k = kb ∨ (b.l 5).ownBlock = some k ∨ ∃ i, i < b.m ∧ (b.V i).ownBlock = some k
structure CB (base : Nat) (w : World) (kb n : Nat) (b : CK) : Prop where
  bl : BkL 5 129 81 32 base w kb n b.l b.m b.V b.N b.X b.G b.K
  hz : ∀ i, i ≠ 5 → b.l i = .slice none 0 0
  bk : base ≤ kb
  mn : b.m ≤ n
  cn : ∀ i, i < b.m → b.N i ≤ 1000 ∧ b.K i ≤ n
theorem CB.lt {base : Nat} {w : World} {kb n : Nat} {b : CK} (h : CB base w kb n b) (k : Nat) (hk : b.F kb k) : k < w.heap.size := by
  rcases hk with rfl | hk | ⟨i, hi, hk⟩
  · exact (Array.getElem?_eq_some_iff.1 h.bl.bk.hb).1
  · exact ownsRow_lt h.bl.row k hk
  · exact ownsRow_lt (h.bl.li i hi) k hk
theorem CB.ge {base : Nat} {w : World} {kb n : Nat} {b : CK} (h : CB base w kb n b) (k : Nat) (hk : b.F kb k) : base ≤ k := by
  rcases hk with rfl | hk | ⟨i, hi, hk⟩
  · exact h.bk
  · exact ownsRow_fresh h.bl.row k hk
  · exact ownsRow_fresh (h.bl.li i hi) k hk
theorem CB.kept {base : Nat} {w w' : World} {kb n : Nat} {b : CK} (h : CB base w kb n b) {T : Nat → Prop} (k : Keep T w w') (hd : ∀ j, b.F kb j → ¬ T j) : CB base w' kb n b :=
  ⟨h.bl.keep k ⟨(k.block kb (Array.getElem?_eq_some_iff.1 h.bl.bk.hb).1 (hd kb (.inl rfl))).trans h.bl.bk.hb⟩ rfl (fun j hj => hd j (.inr (.inl hj))) (fun i hi j hj => hd j (.inr (.inr ⟨i, hi, hj⟩))), h.hz, h.bk, h.mn, h.cn⟩
def CK.add (b : CK) (x v : Value) (nv n : Nat) (xs : List Value) : CK :=
  ⟨updK b.l 5 x, b.m + 1, updC b.V b.m v, updC b.N b.m nv, updC b.X b.m xs, updC b.G b.m (.slice none 0 0), updC b.K b.m (n + 1)⟩
theorem CB.add {base : Nat} {w w' : World} {kb n : Nat} {b : CK} (h : CB base w kb n b) {x v : Value} {nv : Nat} {xs : List Value} (kp : Keep (fun j => j = kb ∨ (b.l 5).ownBlock = some j) w w') (hb : BkP w' kb ((n + 1 : Nat) : Int) (updK b.l 5 x))
    (hrow : w'.ownsRow base 129 3 x (b.m + 1) (hdRow b.V b.G b.K b.m ++ [v, .slice none 0 0, .int .i64 ((n + 1 : Nat) : Int)])) (hx : ∀ k, x.ownBlock = some k → k ≠ kb ∧ ((b.l 5).ownBlock = some k ∨ w.heap.size ≤ k))
    (hv : w.ownsRow base 81 32 v nv xs) (hvs : ∀ j, v.ownBlock = some j → ¬ b.F kb j) (hN : nv ≤ 1000) :
    CB base w' kb (n + 1) (b.add x v nv n xs) ∧ ∀ j, (b.add x v nv n xs).F kb j → b.F kb j ∨ v.ownBlock = some j ∨ w.heap.size ≤ j := by
  have vw : ∀ j, v.ownBlock = some j → ¬ (j = kb ∨ (b.l 5).ownBlock = some j) := fun j hj e => hvs j hj (e.imp id .inl)
  have old : ∀ i, i < b.m → ∀ j, (b.V i).ownBlock = some j → j ≠ kb ∧ (b.l 5).ownBlock ≠ some j ∧ j < w.heap.size := fun i hi j hj => ⟨(h.bl.nb i hi j hj).1, (h.bl.nb i hi j hj).2, ownsRow_lt (h.bl.li i hi) j hj⟩
  have fx : ∀ j, x.ownBlock = some j → ∀ i, i < b.m → (b.V i).ownBlock ≠ some j := fun j hj i hi e => by
    rcases (hx j hj).2 with h1 | h1
    · exact (old i hi j e).2.1 h1
    · have := (old i hi j e).2.2; omega
  have vx : ∀ j, v.ownBlock = some j → x.ownBlock ≠ some j := fun j hj e => by
    rcases (hx j e).2 with h1 | h1
    · exact vw j hj (.inr h1)
    · have := ownsRow_lt hv j hj; omega
  have lJ : updK b.l 5 x 5 = x := if_pos rfl
  refine ⟨⟨⟨hb, ?_, fun i hi => ?_, fun i hi j hj hij k e1 e2 => ?_, fun i hi k e => ?_, fun i hi => ?_, h.bl.ht⟩, fun i hi => ?_, h.bk, ?_, fun i hi => ?_⟩, fun j hj => ?_⟩
  · show w'.ownsRow base _ 3 (updK b.l 5 x 5) (b.m + 1) (hdRow (updC b.V b.m v) (updC b.G b.m (.slice none 0 0)) (updC b.K b.m (n + 1)) (b.m + 1))
    rw [lJ, hdRow_succC]; exact hrow
  · show w'.ownsRow base _ 32 (updC b.V b.m v i) (updC b.N b.m nv i) (updC b.X b.m xs i)
    have hi : i < b.m + 1 := hi
    by_cases e : i = b.m
    · subst e
      rw [updC_at, updC_at, updC_at]
      exact own_keep hv kp vw
    · rw [updC_ne e, updC_ne e, updC_ne e]
      have hi' : i < b.m := by omega
      exact own_keep (h.bl.li i hi') kp (fun j hj e => by
        rcases e with e | e
        · exact (old i hi' j hj).1 e
        · exact (old i hi' j hj).2.1 e)
  · have hi : i < b.m + 1 := hi
    have hj : j < b.m + 1 := hj
    have e1 : (updC b.V b.m v i).ownBlock = some k := e1
    have e2 : (updC b.V b.m v j).ownBlock = some k := e2
    by_cases ei : i = b.m
    · subst ei
      have hj' : j < b.m := by omega
      rw [updC_at] at e1
      rw [updC_ne (by omega)] at e2
      exact hvs k e1 (.inr (.inr ⟨j, hj', e2⟩))
    · have hi' : i < b.m := by omega
      rw [updC_ne ei] at e1
      by_cases ej : j = b.m
      · subst ej
        rw [updC_at] at e2
        exact hvs k e2 (.inr (.inr ⟨i, hi', e1⟩))
      · rw [updC_ne ej] at e2
        exact h.bl.sep i hi' j (by omega) hij k e1 e2
  · show k ≠ kb ∧ (updK b.l 5 x 5).ownBlock ≠ some k
    have hi : i < b.m + 1 := hi
    have e : (updC b.V b.m v i).ownBlock = some k := e
    rw [lJ]
    by_cases ei : i = b.m
    · subst ei
      rw [updC_at] at e
      exact ⟨fun e2 => vw k e (.inl e2), vx k e⟩
    · rw [updC_ne ei] at e
      have hi' : i < b.m := by omega
      exact ⟨(old i hi' k e).1, fun e2 => fx k e2 i hi' e⟩
  · show ∃ a n c, updC b.G b.m (.slice none 0 0) i = .slice a n c
    have hi : i < b.m + 1 := hi
    by_cases ei : i = b.m
    · subst ei; rw [updC_at]; exact ⟨none, 0, 0, rfl⟩
    · rw [updC_ne ei]; exact h.bl.gs i (by omega)
  · show updK b.l 5 x i = _
    unfold updK; rw [if_neg hi]; exact h.hz i hi
  · show b.m + 1 ≤ n + 1
    have := h.mn; omega
  · show updC b.N b.m nv i ≤ 1000 ∧ updC b.K b.m (n + 1) i ≤ n + 1
    have hi : i < b.m + 1 := hi
    by_cases ei : i = b.m
    · subst ei; rw [updC_at, updC_at]; exact ⟨hN, Nat.le_refl _⟩
    · rw [updC_ne ei, updC_ne ei]
      have := h.cn i (by omega)
      omega
  · rcases hj with rfl | hj | ⟨i, hi, hj⟩
    · exact .inl (.inl rfl)
    · have hj : (updK b.l 5 x 5).ownBlock = some j := hj
      rw [lJ] at hj
      rcases (hx j hj).2 with h1 | h1
      · exact .inl (.inr (.inl h1))
      · exact .inr (.inr h1)
    · have hi : i < b.m + 1 := hi
      have hj : (updC b.V b.m v i).ownBlock = some j := hj
      by_cases ei : i = b.m
      · subst ei; rw [updC_at] at hj; exact .inr (.inl hj)
      · rw [updC_ne ei] at hj; exact .inl (.inr (.inr ⟨i, by omega, hj⟩))
/-- what Hashes leaves -/
def HoldR (base : Nat) (w : World) (kb n : Nat) (b : CK) (v : Value) (w' : World) : Prop :=
  ∃ b', CB base w' kb (n + 1) b' ∧ Keep (fun j => j = kb ∨ (b.l 5).ownBlock = some j) w w' ∧ ∀ j, b'.F kb j → b.F kb j ∨ v.ownBlock = some j ∨ w.heap.size ≤ j
theorem bhash9_any (base : Nat) (w : World) (kb n : Nat) (b : CK) (h : CB base w kb n b) (hbase : base ≤ w.heap.size) (hbn : n ≤ 100000000) (va : Option Addr) (vc nv : Nat) (xs : List Value) (hv : w.ownsRow base 81 32 (.slice va nv vc) nv xs) (hvs : ∀ j, (Value.slice va nv vc).ownBlock = some j → ¬ b.F kb j) (hN : nv ≤ 1000) :
    Calls Tryz.prog 27 #[.pointer (some ⟨kb, 0, none⟩), .slice va nv vc] w fun e w' => e = .returned (.tuple #[]) ∧ HoldR base w kb n b (.slice va nv vc) w' := by
  have C := Bx.mk (keepHash_any base w kb n b.l b.m _ h.bl.bk h.bl.row (by have := h.mn; omega) hbn (fun j hj e => h.bl.nr (by rw [← e]; exact hj)) hbase va nv vc)
  have H := Bx.mk (fun (w' : World) (x : Value) (hP : BkP w' kb ((n + 1 : Nat) : Int) (updK b.l 5 x)) hO hk hx => And.intro (h.add (w' := w') (x := x) hk hP hO hx hv hvs hN) hk)
  clear h hbase hbn hv hvs hN
  go_enter Tryz.func27, Tryz.ntmps27
  go_wp2_with fail
  refine C.out.mono ?_
  rintro e w1 ⟨rfl, x, hP, hO, hk, hx⟩
  have R := Bx.mk (H.out w1 x hP hO hk hx)
  clear hP hO hk hx C H
  go_wp2_with fail
  go_end0
  exact ⟨rfl, _, R.out.1.1, R.out.2, R.out.1.2⟩
theorem apart9_any (base : Nat) (w : World) (kb n : Nat) (b : CK) (h : CB base w kb n b) (hbase : base ≤ w.heap.size) (hbn : n ≤ 100000000) :
    Calls Tryz.prog 9 #[.pointer (some ⟨kb, 0, none⟩)] w fun e w' => e = .returned (.bool true) ∧ Keep (fun k => b.F kb k) w w' := by
  refine (apartHash_any base w kb n b.l b.m b.V b.N b.X b.G b.K h.bl h.hz hbase (by have := h.mn; omega) (fun i hi => by have := h.cn i hi; omega)).mono ?_
  rintro e w' ⟨he, hk⟩
  exact ⟨he, hk.mono (fun k _ hk => by
    rcases hk with ⟨i, hi, e⟩ | e
    · exact .inr (.inr ⟨i, hi, e⟩)
    · exact .inr (.inl e))⟩
/-- a new book -/
theorem CB.first {base : Nat} {w : World} {kb : Nat} (hb : BkP w kb 0 (fun _ => .slice none 0 0)) (h : base ≤ kb) : CB base w kb 0 ⟨fun _ => .slice none 0 0, 0, fun _ => .slice none 0 0, fun _ => 0, fun _ => [], fun _ => .slice none 0 0, fun _ => 0⟩ :=
  ⟨⟨hb, World.ownsRow_nil _ _ _ _, fun i hi => absurd hi (Nat.not_lt_zero _), fun i hi => absurd hi (Nat.not_lt_zero _), fun i hi => absurd hi (Nat.not_lt_zero _), fun i hi => absurd hi (Nat.not_lt_zero _), by decide⟩, fun _ _ => rfl, h, Nat.le_refl _, fun i hi => absurd hi (Nat.not_lt_zero _)⟩
end Go.Proofs.YtgbafjmklefoiaaGreatDoor
end
section
namespace Go.Proofs.YtgbafjmklefoiaaGreatDoor
open Go.RowKit
theorem wpList_load_row_w {P : Program} {ops : Array Oper} {rest : List Oper} {o : Oper} {a : Act} {w : World} {Q : Exit → Act → World → Prop} (hw : Region.wanted o (yielded ops a.tmps) = true) (ty : TypeId) (x : Operand) (ho : o.op = .load ty x)
    (g : Nat) (hx : a.eval x = .pointer (some ⟨g, 0, none⟩)) (t : TypeId) (cs : Array Value) (fr : Nat × Nat) (d : TypeDesc) (hg : w.heap[g]? = some (.cells cs t fr))
    (hu : P.underlying ty = some d) (hd : (match d with | .struct _ | .array _ _ => true | _ => false) = true) (hi : (P.info? ty).map (·.size) = some cs.size)
    (h : wpList P ops Q rest (a.put o.dst (.agg cs)) w) : wpList P ops Q (o :: rest) a w :=
  wpList_step fun K hK => by rw [if_pos hw]; exact wp_load_row ty x ho g hx t cs fr d hg hu hd hi (hK _ _ h)
end Go.Proofs.YtgbafjmklefoiaaGreatDoor
end
