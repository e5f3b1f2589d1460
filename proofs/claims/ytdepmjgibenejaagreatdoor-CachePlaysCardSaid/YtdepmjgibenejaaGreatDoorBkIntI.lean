/- cartularylaw01.Book, kind Int: look. -/
import Derived.Test.YtdepmjgibenejaaGreatDoorBkIntH
namespace Go.Proofs.YtdepmjgibenejaaGreatDoor
set_option maxRecDepth 100000
open Go.RowKit
set_option maxHeartbeats 3200000 in
theorem lookInt_any (base : Nat) (w : World) (b n : Nat) (l : Nat → Value) (m : Nat) (V : Nat → Value) (N : Nat → Nat) (G : Nat → Value) (Kn : Nat → Nat) (h : BkL 1 93 3 1 base w b n l m V N (fun i => marks (mkInt (Kn i)).toList (N i)) G Kn)
    (hg : ∀ i, i < m → w.ownsRow base 3 1 (G i) (N i + 70) (marks (mkInt (Kn i)).toList (N i + 70))) (hm : m ≤ 100000000) (hN : ∀ i, i < m → N i ≤ 100000000 ∧ Kn i ≤ 100000000) :
    Calls Tryz.prog 62 #[.pointer (some ⟨b, 0, none⟩)] w fun e w' => e = .returned (.bool true) ∧ Below w.heap.size w w' := by
  have BB := Bx.mk h; have MB := Bx.mk hm; have NB := Bx.mk hN; have GG := Bx.mk hg
  obtain ⟨la, lc, hs, -, -, -⟩ := own_shapeK h.row
  have HS := Bx.mk hs
  have CJ := Bx.mk (show w.cell? ⟨b, 1, none⟩ = some (.slice la m lc) by rw [← hs]; exact er_cellAt h.bk.hb 1 _ rfl)
  clear h hm hN hg hs
  go_enter Tryz.func62, Tryz.ntmps62
  go_wp2_with fail
  go_loopw [3] (fun iv wr => ∃ t : Nat, t ≤ m ∧ iv = .int .i64 (t : Int) ∧ Below w.heap.size w wr) (fun iv _ => m - (intOf iv).toNat)
  case atStart => exact ⟨0, Nat.zero_le _, rfl, Below.refl _ _⟩
  case round =>
    obtain ⟨t, ht, rfl, hb⟩ := hrel
    obtain ⟨wo, rfl⟩ : ∃ wo, wo = wr := ⟨_, rfl⟩
    have BW := Bx.mk hb
    have cJ := (hb.cell (block_lt_of_cell CJ.out)).trans CJ.out
    clear hb
    by_cases hlt : t < m
    · have hro := BB.out.row
      rw [HS.out] at hro
      obtain ⟨gl, rfl, hgl, hrg⟩ := hd_range hro hlt
      obtain ⟨va, vc, hv, -, -, -⟩ := own_shapeK (BB.out.li t hlt)
      obtain ⟨ga, gc, hgs, -, -, -⟩ := own_shapeK (GG.out t hlt)
      have hli := BB.out.li t hlt
      have hlo := GG.out t hlt
      rw [hv] at hli
      rw [hgs] at hlo
      obtain ⟨nt, hnt⟩ : ∃ nt, nt = N t := ⟨_, rfl⟩
      obtain ⟨kt, hkt⟩ : ∃ kt, kt = Kn t := ⟨_, rfl⟩
      rw [hv, hgs, ← hnt, ← hkt] at hrg
      rw [← hnt, ← hkt] at hli hlo
      have NT := Bx.mk (show nt ≤ 100000000 ∧ kt ≤ 100000000 by rw [hnt, hkt]; exact NB.out t hlt)
      obtain ⟨qt, hqt⟩ : ∃ qt, qt = nt + 70 := ⟨_, rfl⟩
      rw [← hqt] at hrg hlo
      have RG := Bx.mk (rangeB hrg hgl BW.out); have TL := Bx.mk hlt; have LI := Bx.mk hli; have LO := Bx.mk hlo; have QT := Bx.mk hqt
      have f1 : (t : Int) < (m : Int) := by omega
      have f2b : wrap64 ((nt : Int) + 70) = (qt : Int) := by have := NT.out.1; unfold wrap64; omega
      clear hro hgl hrg hv hnt hkt hlt ht hli hlo hgs hqt
      go_upto_region 5 with (first
        | (guard_target =~ wpList _ _ _ (⟨some 21, _, _, _, _, _⟩ :: _) _ _; refine wpList_load_mid rfl 93 (.tmp 20) rfl gl (t * 3) rfl _ _ RG.out Tryz.underlying93 rfl (by kernel_rfl) ?_)
        | (guard_target =~ wpList _ _ _ (⟨none, _, _, _, _, _⟩ :: _) _ _; refine wpList_store_row rfl 93 (.tmp 4) (.tmp 21) rfl wo.heap.size #[.slice va nt vc, .slice ga qt gc, .int .i64 (kt : Int)] rfl rfl _ #[.slice none 0 0, .slice none 0 0, .int .i64 0] (heap_alloc_new _ _) (by kernel_rfl) rfl (by simp [Value.oneCell']) ?_; rw [setRow_alloc_new _ _ _ _ rfl]))
      have h1 := er_al (Below.refl wo.heap.size wo) (.cells #[.slice va nt vc, .slice ga qt gc, .int .i64 (kt : Int)] 93)
      have h2 := heap_alloc_new wo (.cells #[.slice va nt vc, .slice ga qt gc, .int .i64 (kt : Int)] 93)
      generalize wo.alloc (.cells #[.slice va nt vc, .slice ga qt gc, .int .i64 (kt : Int)] 93) = W1 at h1 h2 ⊢
      obtain ⟨H, hH⟩ : ∃ H, H = wo.heap.size := ⟨_, rfl⟩
      rw [← hH] at h2 ⊢
      have K1 := Bx.mk (BW.out.trans (h1.mono BW.out.size)); have H1 := Bx.mk h2
      have e0 := er_cellAt h2 0 _ rfl; have e1 := er_cellAt h2 1 _ rfl
      clear h1 h2 hH cJ f1
      go_wp2_with fail
      clear e0 e1 f2b
      go_loopw [5] (fun kv wq => ∃ k : Nat, k ≤ qt ∧ kv = .int .i64 (k : Int) ∧ Below W1.heap.size W1 wq) (fun kv _ => qt - (intOf kv).toNat)
      case atStart => exact ⟨0, Nat.zero_le _, rfl, Below.refl _ _⟩
      case round =>
        obtain ⟨k, hk, rfl, hb⟩ := hrel
        have BQ := Bx.mk hb
        have hh := (hb.block H (Array.getElem?_eq_some_iff.1 H1.out).1).trans H1.out
        have c0 := er_cellAt hh 0 _ rfl; have c1 := er_cellAt hh 1 _ rfl; have c2 := er_cellAt hh 2 _ rfl
        have HL := (Array.getElem?_eq_some_iff.1 hh).1
        clear hb hh
        by_cases hlt : k < qt
        · have KL := Bx.mk hlt
          obtain ⟨g2, rfl, hg2, hr2⟩ := own_mark LO.out (mkIntL kt) hlt
          have hrr := rangeB (rangeB hr2 hg2 K1.out) (Nat.lt_of_lt_of_le hg2 K1.out.size) BQ.out
          have hgl := Nat.lt_of_lt_of_le (Nat.lt_of_lt_of_le hg2 K1.out.size) BQ.out.size
          have HR1 : Bx (∀ u, BlwC wr.heap.size wr u → u.rangeAt g2 (k * 1) (mkInt kt).toList) := ⟨fun u ⟨u', hu⟩ => by subst hu; exact rangeB hrr hgl u'.h⟩
          have dd1 : ∀ u : Blw wr.heap.size wr, u.w.cell? ⟨g2, k, none⟩ = some (.int .i64 (-1000 - (kt : Int))) := fun u => by have h := HR1.out u.w ⟨u, rfl⟩ 0 _ rfl; rw [Nat.mul_one, Nat.add_zero] at h; exact h
          have d0 : ∀ u : Blw wr.heap.size wr, u.w.cell? ⟨H, 0, none⟩ = some (.slice va nt vc) := fun u => (u.h.cell (p := ⟨H, 0, none⟩) HL).trans c0
          have d1 : ∀ u : Blw wr.heap.size wr, u.w.cell? ⟨H, 1, none⟩ = some (.slice (some ⟨g2, 0, none⟩) qt gc) := fun u => (u.h.cell (p := ⟨H, 1, none⟩) HL).trans c1
          have d2 : ∀ u : Blw wr.heap.size wr, u.w.cell? ⟨H, 2, none⟩ = some (.int .i64 (kt : Int)) := fun u => (u.h.cell (p := ⟨H, 2, none⟩) HL).trans c2
          have ne := Blw.ne wr.heap.size wr
          have CI : Bx (∀ u, Below wr.heap.size wr u → Calls Tryz.prog 96 #[.int .i64 (-1000 - (kt : Int)), .int .i64 (kt : Int)] u fun e w' => e = .returned (.bool true) ∧ Below u.heap.size u w') := ⟨fun u _ => by exact isInt_any u kt NT.out.2⟩
          have f1 : (k : Int) < (qt : Int) := by omega
          clear hr2 hg2 hrr hgl HL hk hlt
          by_cases hkn : k < nt
          · obtain ⟨g3, rfl, hg3, hr3⟩ := own_mark LI.out (mkIntL kt) hkn
            have hrr := rangeB (rangeB hr3 hg3 K1.out) (Nat.lt_of_lt_of_le hg3 K1.out.size) BQ.out
            have hgl := Nat.lt_of_lt_of_le (Nat.lt_of_lt_of_le hg3 K1.out.size) BQ.out.size
            have HR2 : Bx (∀ u, BlwC wr.heap.size wr u → u.rangeAt g3 (k * 1) (mkInt kt).toList) := ⟨fun u ⟨u', hu⟩ => by subst hu; exact rangeB hrr hgl u'.h⟩
            have dd2 : ∀ u : Blw wr.heap.size wr, u.w.cell? ⟨g3, k, none⟩ = some (.int .i64 (-1000 - (kt : Int))) := fun u => by have h := HR2.out u.w ⟨u, rfl⟩ 0 _ rfl; rw [Nat.mul_one, Nat.add_zero] at h; exact h
            have f3 : (k : Int) < (nt : Int) := by omega
            clear hr3 hg3 hrr hgl hkn
            go_upto_region 10 with (fail)
            refine wp_region_quiet_c (C := fun w' => ∃ u : Blw wr.heap.size wr, w' = u.w) (by kernel_rfl) (by kernel_rfl) ⟨⟨_, (Below.refl _ _).drew⟩, rfl⟩ ?_
            iterate 4 go_big_quiet_step (fail)
            go_big_quiet_step (fail)
            iterate 2 go_big_quiet_step (fail)
            go_big_quiet_step (exact Calls.blw (Nat.le_refl _) CI.out)
            iterate 11 go_big_quiet_step (fail)
            go_big_quiet_step (fail)
            go_big_quiet_step (fail)
            iterate 2 go_big_quiet_step (fail)
            go_big_quiet_step (exact Calls.blw (Nat.le_refl _) CI.out)
            iterate 3 go_big_quiet_step (fail)
            refine wpQuiet_nil ?_
            rintro _ ⟨u, rfl⟩
            have BU := Bx.mk (BQ.out.trans (u.h.mono BQ.out.size))
            generalize u.w = W5 at BU ⊢
            clear d0 d1 d2 dd1 ne f1 f3
            go_wp2_with fail
            go_roundw
            case rel => exact ⟨k + 1, KL.out, (by rw [wrap_succB k (by have := KL.out; have := NT.out.1; have := QT.out; omega)]), BU.out⟩
            case measure => rw [wrap_succB k (by have := KL.out; have := NT.out.1; have := QT.out; omega)]; have := KL.out; simp [intOf]; omega
          · have f3 : ¬ (k : Int) < (nt : Int) := by omega
            clear hkn
            go_upto_region 10 with (fail)
            refine wp_region_quiet_c (C := fun w' => ∃ u : Blw wr.heap.size wr, w' = u.w) (by kernel_rfl) (by kernel_rfl) ⟨⟨_, (Below.refl _ _).drew⟩, rfl⟩ ?_
            iterate 4 go_big_quiet_step (fail)
            go_big_quiet_step (fail)
            iterate 2 go_big_quiet_step (fail)
            go_big_quiet_step (exact Calls.blw (Nat.le_refl _) CI.out)
            iterate 19 go_big_quiet_step (fail)
            refine wpQuiet_nil ?_
            rintro _ ⟨u, rfl⟩
            have BU := Bx.mk (BQ.out.trans (u.h.mono BQ.out.size))
            generalize u.w = W5 at BU ⊢
            clear d0 d1 d2 dd1 ne f1 f3
            go_wp2_with fail
            go_roundw
            case rel => exact ⟨k + 1, KL.out, (by rw [wrap_succB k (by have := KL.out; have := NT.out.1; have := QT.out; omega)]), BU.out⟩
            case measure => rw [wrap_succB k (by have := KL.out; have := NT.out.1; have := QT.out; omega)]; have := KL.out; simp [intOf]; omega
        · have f1 : ¬ (k : Int) < (qt : Int) := by omega
          clear hlt hk c0 c2 HL
          go_wp2_with fail
          go_roundw
          case rel => exact ⟨t + 1, TL.out, (by rw [wrap_succB t (by have := TL.out; have := MB.out; omega)]), K1.out.trans (BQ.out.mono K1.out.size)⟩
          case measure => rw [wrap_succB t (by have := TL.out; have := MB.out; omega)]; have := TL.out; simp [intOf]; omega
    · obtain rfl : t = m := by omega
      have f1 : ¬ (t : Int) < (t : Int) := by omega
      clear ht hlt
      go_wp2_with fail
      go_ret
      exact ⟨rfl, BW.out⟩
end Go.Proofs.YtdepmjgibenejaaGreatDoor
