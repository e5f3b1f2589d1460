/- cartularylaw01.Book, kind Int: fill. -/
import Derived.Test.YtdepmjgibenejaaGreatDoorBkC
import Derived.Test.YtdepmjgibenejaaGreatDoorBkIntM
namespace Go.Proofs.YtdepmjgibenejaaGreatDoor
set_option maxRecDepth 100000
open Go.RowKit
theorem mkIntL (n : Nat) : (mkInt n).toList.length = 1 := mkInt_len n
theorem mkIntS (n : Nat) : (Tryz.prog.info? 3).map (·.size) = some (mkInt n).size := by rw [show (mkInt n).size = 1 from (Array.length_toList ..).symm.trans (mkInt_len n)]; kernel_rfl
theorem mkIntA (n : Nat) : (mkInt n).all (·.oneCell') = true := mkInt_one n
theorem mkIntE (n : Nat) : ∀ u ∈ (mkInt n).toList, u.oneCell' = true := fun u hu => by
  have h := mkIntA n
  rw [Array.all_eq_true_iff_forall_mem] at h
  exact h u (by simpa using hu)
set_option maxHeartbeats 3200000 in
theorem fillInt_any (base : Nat) (w : World) (b n : Nat) (l : Nat → Value) (m : Nat) (V : Nat → Value) (N : Nat → Nat) (X : Nat → List Value) (G : Nat → Value) (Kn : Nat → Nat) (h : BkL 1 93 3 1 base w b n l m V N X G Kn) (hbase : base ≤ w.heap.size) (hm : m ≤ 100000000) (hN : ∀ i, i < m → N i ≤ 100000000 ∧ Kn i ≤ 100000000) :
    Calls Tryz.prog 30 #[.pointer (some ⟨b, 0, none⟩)] w fun e w' => e = .returned (.tuple #[]) ∧ BkL 1 93 3 1 base w' b n l m V N (fun i => fillX (mkInt (Kn i)).toList (X i) (N i)) G Kn ∧ Keep (fun k => ∃ i, i < m ∧ (V i).ownBlock = some k) w w' := by
  have HH := Bx.mk h; have MB := Bx.mk hm; have NB := Bx.mk hN; have HBS := Bx.mk hbase
  clear h hm hN hbase
  go_enter Tryz.func30, Tryz.ntmps30
  go_wp2_with fail
  go_loopw [2] (fun iv wr => ∃ t : Nat, t ≤ m ∧ iv = .int .i64 (t : Int) ∧ BkL 1 93 3 1 base wr b n l m V N (fun i => if i < t then fillX (mkInt (Kn i)).toList (X i) (N i) else X i) G Kn ∧ Keep (fun k => ∃ i, i < m ∧ (V i).ownBlock = some k) w wr) (fun iv _ => m - (intOf iv).toNat)
  case atStart => exact ⟨0, Nat.zero_le _, rfl, (by simpa using HH.out), Keep.refl _ _⟩
  case round =>
    obtain ⟨t, ht, rfl, hB, hk⟩ := hrel
    obtain ⟨wo, rfl⟩ : ∃ wo, wo = wr := ⟨_, rfl⟩
    have BB := Bx.mk hB; have KK := Bx.mk hk
    obtain ⟨la, lc, hs, -, -, -⟩ := own_shapeK hB.row
    have HS := Bx.mk hs
    have cJ : wo.cell? ⟨b, 1, none⟩ = some (.slice la m lc) := by rw [← hs]; exact er_cellAt hB.bk.hb 1 _ rfl
    clear hB hk hs
    by_cases hlt : t < m
    · have hro := BB.out.row
      rw [HS.out] at hro
      obtain ⟨gl, rfl, hgl, hrg⟩ := hd_range hro hlt
      obtain ⟨va, vc, hv, -, -, -⟩ := own_shapeK (BB.out.li t hlt)
      obtain ⟨nt, hnt⟩ : ∃ nt, nt = N t := ⟨_, rfl⟩
      obtain ⟨kt, hkt⟩ : ∃ kt, kt = Kn t := ⟨_, rfl⟩
      obtain ⟨ga, gn, gc, hg⟩ : ∃ ga gn gc, G t = .slice ga gn gc := BB.out.gs t hlt
      rw [hv, hg, ← hnt, ← hkt] at hrg
      have RG := Bx.mk hrg; have TL := Bx.mk hlt; have HV := Bx.mk hv; have HNT := Bx.mk hnt; have HKT := Bx.mk hkt
      have f1 : (t : Int) < (m : Int) := by omega
      clear hro hgl hrg hv hnt hkt hg hlt ht
      go_wp2_with (first
        | (guard_target =~ wpList _ _ _ (⟨some 20, _, _, _, _, _⟩ :: _) _ _; refine wpList_load_mid rfl 93 (.tmp 19) rfl gl (t * 3) rfl _ _ RG.out Tryz.underlying93 rfl (by kernel_rfl) ?_)
        | (guard_target =~ wpList _ _ _ (⟨none, _, _, _, _, _⟩ :: _) _ _; refine wpList_store_row rfl 93 (.tmp 3) (.tmp 20) rfl wo.heap.size #[.slice va nt vc, .slice ga gn gc, .int .i64 (kt : Int)] rfl rfl _ #[.slice none 0 0, .slice none 0 0, .int .i64 0] (heap_alloc_new _ _) (by kernel_rfl) rfl (by simp [Value.oneCell']) ?_; rw [setRow_alloc_new _ _ _ _ rfl]))
      have h1 := er_al (Below.refl wo.heap.size wo) (.cells #[.slice va nt vc, .slice ga gn gc, .int .i64 (kt : Int)] 93)
      have h2 := heap_alloc_new wo (.cells #[.slice va nt vc, .slice ga gn gc, .int .i64 (kt : Int)] 93)
      generalize wo.alloc (.cells #[.slice va nt vc, .slice ga gn gc, .int .i64 (kt : Int)] 93) = W1 at h1 h2 ⊢
      obtain ⟨H, hH⟩ : ∃ H, H = wo.heap.size := ⟨_, rfl⟩
      rw [← hH] at h2 ⊢
      obtain ⟨x0, hx0⟩ : ∃ x0, x0 = X t := ⟨_, rfl⟩
      obtain ⟨MK, hMK⟩ : ∃ MK, MK = (mkInt kt).toList := ⟨_, rfl⟩
      have MKL : Bx (MK.length = 1) := ⟨by rw [hMK]; exact mkIntL kt⟩
      have ho : W1.ownsRow base 3 1 (.slice va nt vc) nt (fillX MK x0 0) := by
        have h := BB.out.li t TL.out
        simp only [Nat.lt_irrefl, if_false] at h
        rw [HV.out, ← HNT.out, ← hx0] at h
        rw [fillX_zero]
        exact ownsRow_keep' h fun j hj => h1.block j (ownsRow_lt h j hj)
      have OLT := Bx.mk (show ∀ j, (Value.slice va nt vc).ownBlock = some j → j < H from fun j hj => by
        have h := BB.out.li t TL.out
        rw [HV.out, ← HNT.out] at h
        rw [hH]; exact ownsRow_lt h j hj)
      have K1 := Bx.mk h1; have H1 := Bx.mk h2; have HH2 := Bx.mk hH; have HX0 := Bx.mk hx0; have HMK := Bx.mk hMK; have O1 := Bx.mk ho
      have NT := Bx.mk (show nt ≤ 100000000 ∧ kt ≤ 100000000 by rw [HNT.out, HKT.out]; exact NB.out t TL.out)
      clear h1 h2 hH hx0 hMK ho cJ f1
      go_loopw [4] (fun kv wq => ∃ k : Nat, k ≤ nt ∧ kv = .int .i64 (k : Int) ∧ wq.ownsRow base 3 1 (.slice va nt vc) nt (fillX MK x0 k) ∧ wq.heap[H]? = some (.cells #[.slice va nt vc, .slice ga gn gc, .int .i64 (kt : Int)] 93 (0, 0)) ∧ Keep (fun j => (Value.slice va nt vc).ownBlock = some j) W1 wq) (fun kv _ => nt - (intOf kv).toNat)
      case atStart => exact ⟨0, Nat.zero_le _, rfl, O1.out, H1.out, Keep.refl _ _⟩
      case round =>
        obtain ⟨k, hk, rfl, ho, hh, hkp⟩ := hrel
        have OQ := Bx.mk ho; have HQ := Bx.mk hh; have KQ := Bx.mk hkp
        have c0 := er_cellAt hh 0 _ rfl
        clear ho hkp
        by_cases hlt : k < nt
        · obtain ⟨g, rfl⟩ : ∃ g, va = some ⟨g, 0, none⟩ := by
            rcases id OQ.out.2 with ⟨_, h0⟩ | ⟨g, c', cur, e1, _⟩
            · omega
            · cases e1; exact ⟨g, rfl⟩
          obtain ⟨cur, hG⟩ := rowG_of OQ.out
          have c2 := er_cellAt hh 2 _ rfl
          have d0 : ∀ u : Blw wr.heap.size wr, u.w.cell? ⟨H, 0, none⟩ = some (.slice (some ⟨g, 0, none⟩) nt vc) := fun u => (u.h.cell (p := ⟨H, 0, none⟩) (Array.getElem?_eq_some_iff.1 hh).1).trans c0
          have d2 : ∀ u : Blw wr.heap.size wr, u.w.cell? ⟨H, 2, none⟩ = some (.int .i64 (kt : Int)) := fun u => (u.h.cell (p := ⟨H, 2, none⟩) (Array.getElem?_eq_some_iff.1 hh).1).trans c2
          have ne := Blw.ne wr.heap.size wr
          have CM : Bx (∀ u, Below wr.heap.size wr u → Calls Tryz.prog 80 #[.int .i64 (kt : Int)] u fun e w' => e = .returned (.int .i64 (-1000 - (kt : Int))) ∧ Below u.heap.size u w') := ⟨fun u _ => markInt_any u kt NT.out.2⟩
          have RG2 := Bx.mk hG; have KL := Bx.mk hlt
          have f1 : (k : Int) < (nt : Int) := by omega
          have HL := Bx.mk (Array.getElem?_eq_some_iff.1 hh).1
          clear hG hlt hk hh
          go_upto_region 7 with (fail)
          refine wp_region_quiet_tail (C := fun w' => ∃ u : Blw wr.heap.size wr, w' = u.w) 7 (by kernel_rfl) (by kernel_rfl) ⟨⟨_, (Below.refl _ _).drew⟩, rfl⟩ ?_
          simp only [List.take_succ_cons, List.take_zero, List.drop_succ_cons, List.drop_zero]
          iterate 5 go_big_quiet_step (fail)
          go_big_quiet_step (exact Calls.blw (Nat.le_refl _) CM.out)
          go_big_quiet_step (fail)
          refine wpQuiet_nil ?_
          rintro _ ⟨u, rfl⟩
          have hG5 := RG2.out.kept (u.h.block g (Array.getElem?_eq_some_iff.1 RG2.out.hb).1)
          have hrm := hG5.there (o := k * 1) (m := 1) (by have := KL.out; omega)
          obtain ⟨cur2, hG6⟩ := hG5.setCells (mkInt kt).toList (k * 1)
          have hxl : x0.length = nt * 1 := by have h := O1.out.1; rw [fillX_zero] at h; exact h
          have hst := fillX_step MK x0 k (by rw [MKL.out, hxl]; have := KL.out; omega)
          rw [MKL.out] at hst
          obtain ⟨vv, hvv⟩ : ∃ vv, (fillX MK x0 k)[k * 1]? = some vv := ⟨_, List.getElem?_eq_getElem (by rw [hG5.ln]; have := KL.out; omega)⟩
          have c5 : u.w.cell? ⟨g, k, none⟩ = some vv := by have h := hG5.cell hvv; rw [Nat.mul_one] at h; exact h
          have f5 : u.w.frozen? ⟨g, k, none⟩ = false := frozenC hG5.hb k
          have hset : u.w.setCells g (k * 1) (mkInt kt).toList = u.w.setCell ⟨g, k, none⟩ (.int .i64 (-1000 - (kt : Int))) := by rw [Nat.mul_one]; exact setCells_one _ _ _ _
          have OWN := Bx.mk (show (u.w.setCells g (k * 1) (mkInt kt).toList).ownsRow base 3 1 (.slice (some ⟨g, 0, none⟩) nt vc) nt (fillX MK x0 (k + 1)) by rw [← hst, HMK.out]; have h := hG6.own; rw [HMK.out] at h; exact h)
          have KS := keep_setCells g (mkInt kt).toList (k * 1) u.w
          have gH : g < H := OLT.out g rfl
          have HX := Bx.mk (show (u.w.setCells g (k * 1) (mkInt kt).toList).heap[H]? = _ from (KS.block H (Nat.lt_of_lt_of_le HL.out u.h.size) (by omega)).trans ((u.h.block H HL.out).trans HQ.out))
          have KP := Bx.mk (KQ.out.trans ((Keep.of_below u.h (fun j => (Value.slice (some ⟨g, 0, none⟩) nt vc).ownBlock = some j)).trans (KS.mono (S' := fun j => (Value.slice (some ⟨g, 0, none⟩) nt vc).ownBlock = some j) (fun j _ hj => by subst hj; rfl)) (fun _ _ h => h)) (fun _ _ h => h))
          have RM := Bx.mk hrm
          have OWN1 := OWN.out; have KS1 := KS; have HX1 := HX.out; have KP1 := KP.out
          rw [hset] at OWN1 KS1 HX1 KP1
          have OWN := Bx.mk OWN1; have HX := Bx.mk HX1; have KP := Bx.mk KP1
          clear OWN1 KS1 HX1 KP1 hset hvv
          clear hG5 hrm hG6 hxl hst KS gH d0 d2 c0 c2 ne f1
          go_wp2_with fail
          go_roundw
          case rel => exact ⟨k + 1, KL.out, (by rw [wrap_succB k (by have := KL.out; have := NT.out.1; omega)]), OWN.out, HX.out, KP.out⟩
          case measure => rw [wrap_succB k (by have := KL.out; have := NT.out.1; omega)]; have := KL.out; simp [intOf]; omega
        · have KE := Bx.mk (show k = nt by omega)
          have f1 : ¬ (k : Int) < (nt : Int) := by omega
          clear hlt hk hh
          go_wp2_with fail
          go_roundw
          case rel => exact ⟨t + 1, TL.out, (by rw [wrap_succB t (by have := TL.out; have := MB.out; omega)]), BB.out.turn TL.out (by rw [HV.out, ← HNT.out]; exact (Keep.of_below K1.out (fun j => (Value.slice va nt vc).ownBlock = some j)).trans KQ.out (fun _ _ h => h)) (fun i e => by
              have : (i < t + 1) = (i < t) := by rw [eq_iff_iff]; omega
              simp only [this]) (by
              simp only [Nat.lt_succ_self, if_true]
              have h := OQ.out
              rw [KE.out, HX0.out, HMK.out, HKT.out] at h
              rw [HV.out, ← HNT.out]; exact h), KK.out.trans (((Keep.of_below K1.out (fun j => (Value.slice va nt vc).ownBlock = some j)).trans KQ.out (fun _ _ h => h)).mono (S' := fun k => ∃ i, i < m ∧ (V i).ownBlock = some k) (fun j _ hj => ⟨t, TL.out, by rw [HV.out, ← HNT.out]; exact hj⟩)) (fun _ _ h => h)⟩
          case measure => rw [wrap_succB t (by have := TL.out; have := MB.out; omega)]; have := TL.out; simp [intOf]; omega
    · obtain rfl : t = m := by omega
      clear ht hlt
      go_wp2_with fail
      go_end0
      exact ⟨rfl, ⟨BB.out.bk, BB.out.row, fun i hi => by have h := BB.out.li i hi; simpa [hi] using h, BB.out.sep, BB.out.nb, BB.out.gs, BB.out.ht⟩, KK.out⟩
end Go.Proofs.YtdepmjgibenejaaGreatDoor
