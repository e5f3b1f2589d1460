/- cartularylaw01.Book, kind Int: grow. -/
import Derived.Test.YtdepmjgibenejaaGreatDoorBkIntF
namespace Go.Proofs.YtdepmjgibenejaaGreatDoor
set_option maxRecDepth 100000
open Go.RowKit
theorem bs_mkInt (w : World) (n : Nat) : (Instr.buildSlice 45 1 #[(0, .int .i64 (-1000 - (n : Int)))]).run Tryz.prog w = .ok (.slice (some ⟨w.heap.size, 0, none⟩) 1 1) (w.alloc (.cells (mkInt n) 3)) := by kernel_rfl
theorem run_bs_mkInt {o : Oper} {a : Act} (w : World) (x : Operand) (ho : o.op = .buildSlice 45 1 #[(0, x)]) (n : Nat) (hx : a.eval x = .int .i64 (-1000 - (n : Int))) :
    (execOp a.eval o).run Tryz.prog w = .ok (.value (.slice (some ⟨w.heap.size, 0, none⟩) 1 1)) (w.alloc (.cells (mkInt n) 3)) := by
  have hr := bs_mkInt w n
  unfold execOp
  simp only [ho, List.map_toArray, List.map_cons, List.map_nil, hx, Sem.run_bind, hr, Result.andThen_ok, Sem.run_pure]
theorem info_mkIntB : (Tryz.prog.info? 3).map (fun i => (i.zero, i.size, i.bytes)) = some (some (.int .i64 0), 1, 8) := by kernel_rfl
set_option maxHeartbeats 3200000 in
theorem growInt_any (base : Nat) (w : World) (b n : Nat) (l : Nat → Value) (m : Nat) (V : Nat → Value) (N : Nat → Nat) (G : Nat → Value) (Kn : Nat → Nat) (h : BkL 1 93 3 1 base w b n l m V N (fun i => marks (mkInt (Kn i)).toList (N i)) G Kn) (hbase : base ≤ w.heap.size) (hm : m ≤ 100000000) (hN : ∀ i, i < m → N i ≤ 100000000 ∧ Kn i ≤ 100000000) :
    Calls Tryz.prog 46 #[.pointer (some ⟨b, 0, none⟩)] w fun e w' => e = .returned (.tuple #[]) ∧ ∃ G', BkL 1 93 3 1 base w' b n l m V N (fun i => marks (mkInt (Kn i)).toList (N i)) G' Kn ∧ (∀ i, i < m → w'.ownsRow base 3 1 (G' i) (N i + 70) (marks (mkInt (Kn i)).toList (N i + 70)) ∧ ∀ k, (G' i).ownBlock = some k → (V i).ownBlock = some k ∨ w.heap.size ≤ k) ∧ Keep (fun k => (∃ i, i < m ∧ (V i).ownBlock = some k) ∨ (l 1).ownBlock = some k) w w' := by
  have HH := Bx.mk h; have MB := Bx.mk hm; have NB := Bx.mk hN; have HBS := Bx.mk hbase
  have VL := Bx.mk (fun i (hi : i < m) j (hj : (V i).ownBlock = some j) => ownsRow_lt (h.li i hi) j hj)
  have LL := Bx.mk (fun j (hj : (l 1).ownBlock = some j) => ownsRow_lt h.row j hj)
  clear h hm hN hbase
  go_enter Tryz.func46, Tryz.ntmps46
  go_wp2_with fail
  go_loopw [2] (fun iv wr => ∃ (t : Nat) (G' : Nat → Value), t ≤ m ∧ iv = .int .i64 (t : Int) ∧ BkL 1 93 3 1 base wr b n l m V N (fun i => marks (mkInt (Kn i)).toList (N i)) G' Kn ∧ (∀ i, i < t → wr.ownsRow base 3 1 (G' i) (N i + 70) (marks (mkInt (Kn i)).toList (N i + 70)) ∧ ∀ k, (G' i).ownBlock = some k → (V i).ownBlock = some k ∨ w.heap.size ≤ k) ∧ Keep (fun k => (∃ i, i < m ∧ (V i).ownBlock = some k) ∨ (l 1).ownBlock = some k) w wr) (fun iv _ => m - (intOf iv).toNat)
  case atStart => exact ⟨0, G, Nat.zero_le _, rfl, HH.out, (fun i hi => absurd hi (Nat.not_lt_zero _)), Keep.refl _ _⟩
  case round =>
    obtain ⟨t, G', ht, rfl, hB, hg, hk⟩ := hrel
    obtain ⟨wo, rfl⟩ : ∃ wo, wo = wr := ⟨_, rfl⟩
    have BB := Bx.mk hB; have KK := Bx.mk hk; have GG := Bx.mk hg
    obtain ⟨la, lc, hs, -, -, -⟩ := own_shapeK hB.row
    have HS := Bx.mk hs
    have cJ : wo.cell? ⟨b, 1, none⟩ = some (.slice la m lc) := by rw [← hs]; exact er_cellAt hB.bk.hb 1 _ rfl
    clear hB hk hs hg
    by_cases hlt : t < m
    · have hro := BB.out.row
      rw [HS.out] at hro
      obtain ⟨gl, rfl, hgl, hrg⟩ := hd_range hro hlt
      obtain ⟨va, vc, hv, -, -, -⟩ := own_shapeK (BB.out.li t hlt)
      obtain ⟨nt, hnt⟩ : ∃ nt, nt = N t := ⟨_, rfl⟩
      obtain ⟨kt, hkt⟩ : ∃ kt, kt = Kn t := ⟨_, rfl⟩
      obtain ⟨ga, gn, gc, hg⟩ : ∃ ga gn gc, G' t = .slice ga gn gc := BB.out.gs t hlt
      rw [hv, hg, ← hnt, ← hkt] at hrg
      have RG := Bx.mk hrg; have TL := Bx.mk hlt; have HV := Bx.mk hv; have HNT := Bx.mk hnt; have HKT := Bx.mk hkt
      have f1 : (t : Int) < (m : Int) := by omega
      clear hro hgl hrg hv hnt hkt hg hlt ht
      go_upto_region 4 with (first
        | (guard_target =~ wpList _ _ _ (⟨some 21, _, _, _, _, _⟩ :: _) _ _; refine wpList_load_mid rfl 93 (.tmp 20) rfl gl (t * 3) rfl _ _ RG.out Tryz.underlying93 rfl (by kernel_rfl) ?_)
        | (guard_target =~ wpList _ _ _ (⟨none, _, _, _, _, _⟩ :: _) _ _; refine wpList_store_row rfl 93 (.tmp 3) (.tmp 21) rfl wo.heap.size #[.slice va nt vc, .slice ga gn gc, .int .i64 (kt : Int)] rfl rfl _ #[.slice none 0 0, .slice none 0 0, .int .i64 0] (heap_alloc_new _ _) (by kernel_rfl) rfl (by simp [Value.oneCell']) ?_; rw [setRow_alloc_new _ _ _ _ rfl]))
      have h1 := er_al (Below.refl wo.heap.size wo) (.cells #[.slice va nt vc, .slice ga gn gc, .int .i64 (kt : Int)] 93)
      have h2 := heap_alloc_new wo (.cells #[.slice va nt vc, .slice ga gn gc, .int .i64 (kt : Int)] 93)
      generalize wo.alloc (.cells #[.slice va nt vc, .slice ga gn gc, .int .i64 (kt : Int)] 93) = W1 at h1 h2 ⊢
      obtain ⟨H, hH⟩ : ∃ H, H = wo.heap.size := ⟨_, rfl⟩
      rw [← hH] at h2 ⊢
      have K1 := Bx.mk h1
      have H1 := Bx.mk h2
      have HH2 := Bx.mk hH
      have e0 := er_cellAt h2 0 _ rfl
      clear h1 h2 hH cJ f1
      go_wp2_with fail
      obtain ⟨MK, hMK⟩ : ∃ MK, MK = (mkInt kt).toList := ⟨_, rfl⟩
      have MKL : Bx (MK.length = 1) := ⟨by rw [hMK]; exact mkIntL kt⟩
      have HMK := Bx.mk hMK
      have ho : LongP W1 W1 base 3 1 (.slice va nt vc) nt MK (.slice va nt vc) 0 := by
        have h := BB.out.li t TL.out
        rw [HV.out, ← HNT.out, ← HKT.out, ← hMK] at h
        have h3 := ownsRow_keep' h fun j hj => K1.out.block j (ownsRow_lt h j hj)
        exact ⟨h3, h3, .inr (.inl ⟨rfl, rfl⟩), Keep.refl _ _⟩
      have O1 := Bx.mk ho
      have NT := Bx.mk (show nt ≤ 100000000 ∧ kt ≤ 100000000 by rw [HNT.out, HKT.out]; exact NB.out t TL.out)
      have OLT := Bx.mk (show ∀ j, (Value.slice va nt vc).ownBlock = some j → j < H from fun j hj => by
        have h := BB.out.li t TL.out
        rw [HV.out, ← HNT.out] at h
        rw [HH2.out]; exact ownsRow_lt h j hj)
      clear hMK ho e0
      go_loopw [4, 5] (fun lv kv wq => ∃ k : Nat, k ≤ 70 ∧ kv = .int .i64 (k : Int) ∧ LongP W1 wq base 3 1 (.slice va nt vc) nt MK lv k) (fun _ kv _ => 70 - (intOf kv).toNat)
      case atStart => exact ⟨0, by decide, rfl, O1.out⟩
      case round =>
        obtain ⟨k, hk, rfl, hL⟩ := hrel
        obtain ⟨a4, c4, rfl, -, -, -⟩ := own_shapeK hL.long
        have LP := Bx.mk hL
        have hh := (hL.keep.block H (Array.getElem?_eq_some_iff.1 H1.out).1 (fun e => by have := OLT.out H e; omega)).trans H1.out
        have c2 := er_cellAt hh 2 _ rfl
        clear hL hh
        by_cases hlt : k < 70
        · have KL := Bx.mk hlt
          have f1 : (k : Int) < 70 := by omega
          clear hlt hk
          go_wp2_with fail
          refine (markInt_any wr kt NT.out.2).mono ?_
          rintro e wq ⟨rfl, hb⟩
          have LA := Bx.mk ((LP.out.below hb).below (er_al (Below.refl wq.heap.size wq) (.cells (mkInt kt) 3)))
          have NEWS : Bx (∀ j u, MK[j]? = some u → (wq.alloc (.cells (mkInt kt) 3)).cell? ((⟨wq.heap.size, 0, none⟩ : Addr).add j) = some u) := ⟨fun j u hu => by
            rw [HMK.out, Array.getElem?_toList] at hu
            have := er_cellAt (heap_alloc_new wq (.cells (mkInt kt) 3)) j u hu
            rw [Addr.add_mid, Nat.zero_add]
            exact this⟩
          have ONE : Bx (∀ u ∈ MK, u.oneCell' = true) := ⟨by rw [HMK.out]; exact mkIntE kt⟩
          obtain ⟨i0, ri1, ri2, ri3, ri4⟩ := info_partsB info_mkIntB
          have RI := Bx.mk (And.intro ri1 (And.intro ri2 (And.intro ri3 ri4)))
          have BQ := Bx.mk (show base ≤ (wq.alloc (.cells (mkInt kt) 3)).heap.size by have h1 := HBS.out; have h2 := KK.out.size; have h3 := K1.out.size; have h4 := LP.out.keep.size; have h5 := hb.size; simp; omega)
          clear hb ri1 ri2 ri3 ri4 c2 f1
          go_wp2_with (first | (guard_target =~ wpList _ _ _ (⟨some 32, _, _, _, _, _⟩ :: _) _ _; refine wpList_run_c (by simp [Region.wanted]) _ (run_bs_mkInt wq (.tmp 31) rfl kt rfl) ?_) | (at_builtin; refine wpList_append_apw _ rfl _ _ 45 rfl base 3 i0 (.int .i64 0) 1 8 Tryz.underlying45 RI.out.1 RI.out.2.1 RI.out.2.2.1 RI.out.2.2.2 rfl (by decide) (.slice a4 (nt + k) c4) (nt + k) (marks MK (nt + k)) rfl LA.out.long ⟨wq.heap.size, 0, none⟩ 1 1 MK rfl MKL.out NEWS.out ONE.out (by have := NT.out.1; have := KL.out; unfold maxLen; omega) (by have := NT.out.1; have := KL.out; omega) BQ.out ?_; intro lv2 w2 happ; have APP := Bx.mk happ; clear happ))
          go_roundw
          case rel => exact ⟨k + 1, KL.out, (by rw [wrap_succB k (by have := KL.out; omega)]), LA.out.step MKL.out (fun j hj => Nat.lt_of_lt_of_le (OLT.out j hj) (by have := K1.out.size; have := HH2.out; omega)) APP.out⟩
          case measure => rw [wrap_succB k (by have := KL.out; omega)]; have := KL.out; simp [intOf]; omega
        · have KE : k = 70 := by omega
          have f1 : ¬ (k : Int) < 70 := by omega
          have f2 : (t : Int) < (m : Int) := by have := TL.out; omega
          have kp : Keep (fun j => (V t).ownBlock = some j) wo wr := by rw [HV.out, ← HNT.out]; exact (Keep.of_below K1.out (fun j => (Value.slice va nt vc).ownBlock = some j)).trans LP.out.keep (fun _ _ h => h)
          have hB5 : BkL 1 93 3 1 base wr b n l m V N (fun i => marks (mkInt (Kn i)).toList (N i)) G' Kn := BB.out.turn TL.out kp (fun _ _ => rfl) (by
            have h := LP.out.short
            rw [HMK.out, HKT.out] at h
            rw [HV.out, ← HNT.out]; exact h)
          have c6 : wr.cell? ⟨b, 1, none⟩ = some (.slice (some ⟨gl, 0, none⟩) m lc) := by rw [← HS.out]; exact er_cellAt hB5.bk.hb 1 _ rfl
          have hro := hB5.row
          rw [HS.out] at hro
          obtain ⟨g2, e2, -, hrg⟩ := hd_range hro TL.out
          cases e2
          have c1 : wr.cell? ⟨gl, t * 3 + 1, none⟩ = some (G' t) := hrg 1 _ rfl
          obtain ⟨cur, hG⟩ := rowG_of hro
          have f3 := frozenC hG.hb (t * 3 + 1)
          have B5 := Bx.mk hB5; have KP := Bx.mk kp; have KE2 := Bx.mk KE
          clear hB5 hro hrg hG kp KE hlt hk c2
          go_wp2_with fail
          go_roundw
          case rel =>
            have glw := LL.out gl (by rw [HS.out]; rfl)
            have low : ∀ j, (Value.slice a4 (nt + k) c4).ownBlock = some j → (V t).ownBlock = some j ∨ W1.heap.size ≤ j := fun j hj => by
              rcases LP.out.lies with ⟨g, cap, h1, h2⟩ | ⟨_, h2⟩ | h2
              · rw [HV.out, ← HNT.out, h1]; rw [h2] at hj; exact .inl hj
              · rw [HV.out, ← HNT.out, ← h2]; exact .inl hj
              · exact .inr (h2 j hj)
            have hsz : w.heap.size ≤ W1.heap.size := Nat.le_trans KK.out.size K1.out.size
            have ngl : ∀ i, i < m → ∀ j, ((V i).ownBlock = some j ∨ w.heap.size ≤ j) → j ≠ gl := fun i hi j hj e => by
              subst e
              rcases hj with hj | hj
              · exact (BB.out.nb i hi j hj).2 (by rw [HS.out]; rfl)
              · omega
            refine ⟨t + 1, updG G' t (.slice a4 (nt + k) c4), TL.out, (by rw [wrap_succB t (by have := TL.out; have := MB.out; omega)]), B5.out.lay HS.out TL.out, fun i hi => ?_, ?_⟩
            · unfold updG
              by_cases e : i = t
              · subst e
                rw [if_pos rfl]
                refine ⟨?_, fun j hj => (low j hj).imp id (fun h => Nat.le_trans hsz h)⟩
                have h := LP.out.long
                rw [HMK.out, HKT.out, KE2.out, HNT.out] at h
                rw [KE2.out, HNT.out]
                refine ownsRow_setCell_ne h _ _ (fun j hj => ngl i TL.out j ?_)
                exact (low j (by rw [KE2.out, HNT.out]; exact hj)).imp id (fun h => Nat.le_trans hsz h)
              · rw [if_neg e]
                have hit : i < t := by omega
                obtain ⟨h1, h2⟩ := GG.out i hit
                refine ⟨ownsRow_setCell_ne (ownsRow_keep' h1 fun j hj => KP.out.block j (ownsRow_lt h1 j hj) (fun e3 => ?_)) _ _ (fun j hj => ngl i (Nat.lt_trans hit TL.out) j (h2 j hj)), h2⟩
                rcases h2 j hj with h3 | h3
                · exact BB.out.sep i (Nat.lt_trans hit TL.out) t TL.out e j h3 e3
                · have := VL.out t TL.out j e3; omega
            · refine (KK.out.trans (KP.out.mono (S' := fun k => (∃ i, i < m ∧ (V i).ownBlock = some k) ∨ (l 1).ownBlock = some k) (fun j _ hj => .inl ⟨t, TL.out, hj⟩)) (fun _ _ h => h)).trans ((Keep.setCell wr ⟨gl, t * 3 + 1, none⟩ _).mono (S' := fun k => (∃ i, i < m ∧ (V i).ownBlock = some k) ∨ (l 1).ownBlock = some k) (fun j _ hj => .inr (by rw [HS.out, hj]; rfl))) (fun _ _ h => h)
          case measure => rw [wrap_succB t (by have := TL.out; have := MB.out; omega)]; have := TL.out; simp [intOf]; omega
    · obtain rfl : t = m := by omega
      clear ht hlt
      go_wp2_with fail
      go_end0
      exact ⟨rfl, G', BB.out, fun i hi => GG.out i hi, KK.out⟩
end Go.Proofs.YtdepmjgibenejaaGreatDoor
