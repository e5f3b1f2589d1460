/- cartularyref18.Consistency. -/
import Derived.Test.YtmlpldkgennmkaaDoorVx
import Derived.Test.YtmlpldkgennmkaaDoorVu
namespace Go.Proofs.YtmlpldkgennmkaaDoor
set_option maxRecDepth 100000
open Go.RowKit
noncomputable def rconsV (o s : Nat) (before after : List UInt8) (ps : List (List UInt8)) : Value :=
  if 9223372036854775808 < s ∨ o = 0 ∨ s < o then faultV 5 (-1)
  else if ps.length = stepsN o s then (if subX true before (hsdirs o s) ps = before ∧ subY true before (hsdirs o s) ps = after then faultV 0 0 else faultV 10 (-1)) else faultV 10 (-1)
theorem conS_sub {before : List UInt8} {ds : List Bool} {ps : List (List UInt8)} (h : SubOk true ds ps) : conS before ds ps = some (subS true before ds ps) := by
  unfold conS subS
  unfold SubOk at h
  rw [Bool.true_and] at h ⊢
  split
  · rename_i h1; rfl
  · rename_i h1
    rw [if_neg h1] at h
    cases ps with
    | nil => simp at h
    | cons p r => rfl
theorem con_not {before after : List UInt8} {ds : List Bool} {ps : List (List UInt8)} (h : ¬ SubOk true ds ps) : conOk before after ds ps = false := by
  unfold SubOk at h
  rw [Bool.true_and] at h
  unfold conOk conS
  split
  · rfl
  · rename_i f r h1
    split at h1
    · rename_i h2
      rw [if_pos h2] at h
      cases h1
      rw [show (ps.length == ds.length) = false from beq_eq_false_iff_ne.2 (by omega), Bool.false_and]
    · rename_i h2
      rw [if_neg h2] at h
      cases ps with
      | nil => cases h1
      | cons p q =>
        have hq : r.length = q.length := by cases h1; rfl
        simp only [List.length_cons] at h
        rw [show (r.length == ds.length) = false from beq_eq_false_iff_ne.2 (by omega), Bool.false_and]
/-- what both say of a proof -/
theorem cons_ways (A : Nat → Addr) (o s : Nat) (before after : List UInt8) (ps : List (List UInt8)) :
    (∃ k, k < 16 ∧ consV A o s before after ps = errVal A k ∧ rconsV o s before after ps = .agg #[.int .i64 ((k : Int) + 1), .int .i64 (-1)]) ∨ (consV A o s before after ps = .nilIface ∧ rconsV o s before after ps = .agg #[.int .i64 0, .int .i64 0]) := by
  unfold consV rconsV
  by_cases hb : 9223372036854775808 < s ∨ o = 0 ∨ s < o
  · rw [if_pos hb, if_pos hb]; exact .inl ⟨4, by decide, rfl, rfl⟩
  · rw [if_neg hb, if_neg hb]
    have hst : (ps.length = stepsN o s) ↔ SubOk true (hsdirs o s) ps := by unfold stepsN SubOk; rw [Bool.true_and]
    by_cases hos : o = s
    · subst hos
      have hds := hsdirs_same (o := o) (s := o) (Nat.le_refl _)
      rw [if_pos rfl]
      by_cases hp : ps = []
      · subst hp
        rw [if_pos (hst.2 (by unfold SubOk; rw [hds]; rfl))]
        have e1 : subX true before (hsdirs o o) [] = before := by rw [hds]; rfl
        have e2 : subY true before (hsdirs o o) [] = before := by rw [hds]; rfl
        rw [e1, e2]
        by_cases hba : before = after
        · rw [if_pos ⟨rfl, hba⟩, if_pos ⟨rfl, hba⟩]; exact .inr ⟨rfl, rfl⟩
        · rw [if_neg (fun h => hba h.2), if_neg (fun h => hba h.2)]; exact .inl ⟨9, by decide, rfl, rfl⟩
      · rw [if_neg (fun h => hp h.1), if_neg]
        · exact .inl ⟨9, by decide, rfl, rfl⟩
        · intro h
          have := hst.1 h
          unfold SubOk at this
          rw [hds] at this
          exact hp (List.length_eq_zero_iff.1 (by simpa using this))
    · rw [if_neg hos]
      by_cases hok : SubOk true (hsdirs o s) ps
      · rw [if_pos (hst.2 hok)]
        have hc : conOk before after (hsdirs o s) ps = (subX true before (hsdirs o s) ps == before && subY true before (hsdirs o s) ps == after) := by
          unfold conOk
          rw [conS_sub hok]
          have := subS_len (before := before) hok
          simp only [this, beq_self_eq_true, Bool.true_and]
          rfl
        rw [hc]
        by_cases hxy : subX true before (hsdirs o s) ps = before ∧ subY true before (hsdirs o s) ps = after
        · rw [if_pos hxy, if_pos (by rw [hxy.1, hxy.2]; simp)]; exact .inr ⟨rfl, rfl⟩
        · rw [if_neg hxy, if_neg (by rw [Bool.and_eq_true, beq_iff_eq, beq_iff_eq]; exact hxy)]; exact .inl ⟨9, by decide, rfl, rfl⟩
      · rw [if_neg (fun h => hok (hst.1 h)), con_not hok]; exact .inl ⟨9, by decide, rfl, rfl⟩
set_option maxHeartbeats 3200000 in
theorem rcons_any (w : World) (o s : Nat) (ho : o < 18446744073709551616) (hs64 : s < 18446744073709551616) (before after : List UInt8) (hb : before.length = 32) (ha : after.length = 32) (ad : Option Addr) (n cap : Nat) (ps : List (List UInt8)) (hH : Hss w (.slice ad n cap) ps) :
    Calls Tryd.prog 18 #[.int .u64 (o : Int), .int .u64 (s : Int), hv before, hv after, .slice ad n cap] w fun e w' => e = .returned (rconsV o s before after ps) ∧ Below w.heap.size w w' := by
  have x0 := ((HashAt.new w before hb).below (er_al (Below.refl _ _) (.cells (ocells after) 24))).below (er_al (Below.refl _ _) (.cells fz 35))
  have x1 := (HashAt.new (w.alloc (.cells (ocells before) 24)) after ha).below (er_al (Below.refl _ _) (.cells fz 35))
  rw [show (w.alloc (.cells (ocells before) 24)).heap.size = w.heap.size + 1 by simp] at x1
  have x2 : (((w.alloc (.cells (ocells before) 24)).alloc (.cells (ocells after) 24)).alloc (.cells fz 35)).heap[w.heap.size + 2]? = some (.cells fz 35 (0, 0)) := by
    simpa using heap_alloc_new ((w.alloc (.cells (ocells before) 24)).alloc (.cells (ocells after) 24)) (.cells fz 35)
  have kb : Below w.heap.size w (((w.alloc (.cells (ocells before) 24)).alloc (.cells (ocells after) 24)).alloc (.cells fz 35)) := er_al (er_al (er_al (Below.refl _ _) _) _) _
  obtain ⟨_, c', e1, hc1, hc2⟩ := hH.len
  have hcc : cap = c' := by cases e1; rfl
  subst hcc
  have hn : n = ps.length := by cases e1; rfl
  subst hn
  have BL := Bx.mk hb; have AL := Bx.mk ha; have HHS := Bx.mk hH
  clear hb ha hH e1
  unfold hv
  go_enter Tryd.func18, Tryd.ntmps18
  go_upto_region 1 with (fail)
  change Code.wp _ _ _ _ (((w.alloc (.cells (ocells before) 24)).alloc (.cells (ocells after) 24)).alloc (.cells fz 35))
  generalize ((w.alloc (.cells (ocells before) 24)).alloc (.cells (ocells after) 24)).alloc (.cells fz 35) = W at x0 x1 x2 kb ⊢
  obtain ⟨N, hN⟩ : ∃ N, N = w.heap.size := ⟨_, rfl⟩
  rw [← hN] at x0 x1 x2 kb ⊢
  have X0 := Bx.mk x0; have X1 := Bx.mk x1; have X2 := Bx.mk x2; have KB := Bx.mk kb; have HN := Bx.mk hN
  clear x0 x1 x2 kb hN
  by_cases hbad : 9223372036854775808 < s ∨ o = 0 ∨ s < o
  · have hv : rconsV o s before after ps = faultV 5 (-1) := by unfold rconsV; rw [if_pos hbad]
    have HV := Bx.mk hv
    clear hv
    by_cases c1 : (9223372036854775808 : Int) < (s : Int)
    · clear hbad
      have cp := plain_any W 5 (by decide)
      have CP := Bx.mk cp; clear cp
      go_wp2_with fail
      refine CP.out.mono ?_
      rintro e wz ⟨rfl, hb⟩
      have z2 := (hb.block _ (Array.getElem?_eq_some_iff.1 X2.out).1).trans X2.out
      have KZ := Bx.mk (btr HN.out (HN.out ▸ KB.out) hb); have Z2 := Bx.mk z2
      clear hb z2
      have d0 := er_cellAt Z2.out 0 _ rfl
      have d1 := er_cellAt Z2.out 1 _ rfl
      have f0 := er_frozen Z2.out 0
      have f1 := er_frozen Z2.out 1
      go_wp2_with fail
      have tw := two_set Z2.out (.int .i64 5) (.int .i64 (-1))
      exact bodyPost_ret (results_cell_row rfl _ _ (N + 2) _ #[.int .i64 5, .int .i64 (-1)] _ _ rfl tw.1 Tryd.underlying35 rfl (by kernel_rfl)) rfl ⟨by rw [HV.out]; rfl, HN.out ▸ ((KZ.out).setCell (show N ≤ N + 2 by omega) _).setCell (show N ≤ N + 2 by omega) _⟩
    · by_cases c2 : o = 0
      · subst c2
        clear hbad
        have cp := plain_any W 5 (by decide)
        have CP := Bx.mk cp; clear cp
        go_wp2_with fail
        refine CP.out.mono ?_
        rintro e wz ⟨rfl, hb⟩
        have z2 := (hb.block _ (Array.getElem?_eq_some_iff.1 X2.out).1).trans X2.out
        have KZ := Bx.mk (btr HN.out (HN.out ▸ KB.out) hb); have Z2 := Bx.mk z2
        clear hb z2
        have d0 := er_cellAt Z2.out 0 _ rfl
        have d1 := er_cellAt Z2.out 1 _ rfl
        have f0 := er_frozen Z2.out 0
        have f1 := er_frozen Z2.out 1
        go_wp2_with fail
        have tw := two_set Z2.out (.int .i64 5) (.int .i64 (-1))
        exact bodyPost_ret (results_cell_row rfl _ _ (N + 2) _ #[.int .i64 5, .int .i64 (-1)] _ _ rfl tw.1 Tryd.underlying35 rfl (by kernel_rfl)) rfl ⟨by rw [HV.out]; rfl, HN.out ▸ ((KZ.out).setCell (show N ≤ N + 2 by omega) _).setCell (show N ≤ N + 2 by omega) _⟩
      · have c3 : (s : Int) < (o : Int) := by omega
        have c2' : ((o : Int) == 0) = false := by simpa using c2
        have c2'' : ¬ (o : Int) = 0 := by omega
        clear hbad c2
        have cp := plain_any W 5 (by decide)
        have CP := Bx.mk cp; clear cp
        go_wp2_with fail
        refine CP.out.mono ?_
        rintro e wz ⟨rfl, hb⟩
        have z2 := (hb.block _ (Array.getElem?_eq_some_iff.1 X2.out).1).trans X2.out
        have KZ := Bx.mk (btr HN.out (HN.out ▸ KB.out) hb); have Z2 := Bx.mk z2
        clear hb z2
        have d0 := er_cellAt Z2.out 0 _ rfl
        have d1 := er_cellAt Z2.out 1 _ rfl
        have f0 := er_frozen Z2.out 0
        have f1 := er_frozen Z2.out 1
        go_wp2_with fail
        have tw := two_set Z2.out (.int .i64 5) (.int .i64 (-1))
        exact bodyPost_ret (results_cell_row rfl _ _ (N + 2) _ #[.int .i64 5, .int .i64 (-1)] _ _ rfl tw.1 Tryd.underlying35 rfl (by kernel_rfl)) rfl ⟨by rw [HV.out]; rfl, HN.out ▸ ((KZ.out).setCell (show N ≤ N + 2 by omega) _).setCell (show N ≤ N + 2 by omega) _⟩
  · have c1 : ¬ (9223372036854775808 : Int) < (s : Int) := by omega
    have c2' : ((o : Int) == 0) = false := by simp; omega
    have c2'' : ¬ (o : Int) = 0 := by omega
    have c3 : ¬ (s : Int) < (o : Int) := by omega
    have hst := fun u => steps_any u o s (by omega) (by omega) (by omega)
    have h0 : 0 < o := by omega
    have h1 : o ≤ s := by omega
    have h2 : s ≤ 9223372036854775808 := by omega
    by_cases hlen : ps.length = stepsN o s
    · have hok : SubOk true (hsdirs o s) ps := by unfold SubOk; rw [Bool.true_and]; exact hlen
      have hr : rconsV o s before after ps = if subX true before (hsdirs o s) ps = before ∧ subY true before (hsdirs o s) ps = after then faultV 0 0 else faultV 10 (-1) := by unfold rconsV; rw [if_neg hbad, if_pos hlen]
      have cs := sub_any s o true W before ad ps.length cap ps h0 h1 h2 BL.out (HHS.out.below (HN.out ▸ KB.out)) hok
      have hx32 := subS_32 hok BL.out HHS.out.1
      have hxl : (subX true before (hsdirs o s) ps).length = 32 := climbO_length hx32 _ _
      have hyl : (subY true before (hsdirs o s) ps).length = 32 := climb_length hx32 _ _
      simp only [hv_agg] at cs
      generalize subX true before (hsdirs o s) ps = X at hr cs hxl
      generalize subY true before (hsdirs o s) ps = Y at hr cs hyl
      rw [← hlen] at hst
      have CS := Bx.mk cs; have HR := Bx.mk hr; have XL := Bx.mk hxl; have YL := Bx.mk hyl; have ST := Bx.mk hst
      clear cs hr hxl hyl hst hx32 hok hlen hbad h0 h1 h2
      go_wp2_with (first
        | (go_at_call 36; refine (ST.out _).mono ?_; rintro e w' ⟨rfl, hw⟩; obtain rfl : W = w' := hw.symm)
        | (guard_target =~ wpList _ _ _ (⟨some 35, _, _, _, _, _⟩ :: _) _ _; refine wpList_load_row rfl 24 (.tmp 7) rfl N rfl _ _ _ _ X0.out.1 underH rfl (hszL BL.out) ?_))
      refine CS.out.mono ?_
      rintro e w1 ⟨rfl, hb⟩
      have B1 := Bx.mk (btr HN.out (HN.out ▸ KB.out) hb); have Y0 := Bx.mk (X0.out.below hb); have Y1 := Bx.mk (X1.out.below hb); have Y2 := Bx.mk ((hb.block _ (Array.getElem?_eq_some_iff.1 X2.out).1).trans X2.out); clear hb
      have r7 : ((w1.alloc (.cells zeros32 24)).alloc (.cells zeros32 24)).heap[w1.heap.size]? = some (.cells zeros32 24 (0, 0)) := by
        rw [Below.heap_alloc _ _ _ (by simp)]; exact heap_alloc_new _ _
      have r8 : ((w1.alloc (.cells (ocells X) 24)).alloc (.cells zeros32 24)).heap[w1.heap.size + 1]? = some (.cells zeros32 24 (0, 0)) := by
        simpa using heap_alloc_new (w1.alloc (.cells (ocells X) 24)) (.cells zeros32 24)
      clear c1 c2' c2'' c3
      go_upto_region 6 with (first
        | (guard_target =~ wpList _ _ _ (⟨none, .store 24 (.tmp 11) _, _, _, _, _⟩ :: _) _ _; refine wpList_store_row rfl 24 (.tmp 11) (.tmp 38) rfl w1.heap.size (ocells X) rfl rfl _ zeros32 r7 (hszL XL.out) (hsoL XL.out) (ocells_one _) ?_; rw [setRow_alloc2 _ _ _ _ _ _ rfl])
        | (guard_target =~ wpList _ _ _ (⟨none, .store 24 (.tmp 12) _, _, _, _, _⟩ :: _) _ _; refine wpList_store_row rfl 24 (.tmp 12) (.tmp 39) rfl (w1.heap.size + 1) (ocells Y) rfl rfl _ zeros32 r8 (hszL YL.out) (hsoL YL.out) (ocells_one _) ?_; rw [setRow_alloc_new _ _ _ _ _ (by simp)]))
      have x11 := (HashAt.new w1 X XL.out).below (er_al (Below.refl _ _) (.cells (ocells Y) 24))
      have x12 := HashAt.new (w1.alloc (.cells (ocells X) 24)) Y YL.out
      rw [show (w1.alloc (.cells (ocells X) 24)).heap.size = w1.heap.size + 1 by simp] at x12
      have b2 : Below w1.heap.size w1 ((w1.alloc (.cells (ocells X) 24)).alloc (.cells (ocells Y) 24)) := er_al (er_al (Below.refl _ _) _) _
      generalize (w1.alloc (.cells (ocells X) 24)).alloc (.cells (ocells Y) 24) = w2 at x11 x12 b2 ⊢
      have B2 := Bx.mk (btr HN.out (HN.out ▸ B1.out) b2); have Z0 := Bx.mk (Y0.out.below b2); have Z1 := Bx.mk (Y1.out.below b2); have Z2 := Bx.mk ((b2.block _ (Array.getElem?_eq_some_iff.1 Y2.out).1).trans Y2.out)
      obtain ⟨n12, hn12⟩ : ∃ n, n = w1.heap.size + 1 := ⟨_, rfl⟩
      rw [← hn12] at x12 ⊢
      clear b2 r8 hn12
      generalize w1.heap.size = n11 at x11 r7 ⊢
      have X11 := Bx.mk x11; have X12 := Bx.mk x12
      clear x11 x12 r7
      have q1 := fun u => hv_neq u X before XL.out BL.out
      have q2 := fun u => hv_neq u Y after YL.out AL.out
      simp only [hv_agg] at q1 q2
      by_cases hX : X = before
      · by_cases hY : Y = after
        · have hv := HR.out
          rw [if_pos ⟨hX, hY⟩] at hv
          have HV := Bx.mk hv
          rw [show (X == before) = true by rw [hX]; simp] at q1
          rw [show (Y == after) = true by rw [hY]; simp] at q2
          clear hv hX hY
          have d0 := er_cellAt Z2.out 0 _ rfl
          have d1 := er_cellAt Z2.out 1 _ rfl
          have f0 := er_frozen Z2.out 0
          have f1 := er_frozen Z2.out 1
          go_wp2_with (first
            | (guard_target =~ wpList _ _ _ (⟨some 40, _, _, _, _, _⟩ :: _) _ _; refine wpList_load_row rfl 24 (.tmp 11) rfl n11 rfl _ _ _ _ X11.out.1 underH rfl (hszL XL.out) ?_)
            | (guard_target =~ wpList _ _ _ (⟨some 41, _, _, _, _, _⟩ :: _) _ _; refine wpList_load_row rfl 24 (.tmp 7) rfl N rfl _ _ _ _ Z0.out.1 underH rfl (hszL BL.out) ?_)
            | (guard_target =~ wpList _ _ _ (⟨some 44, _, _, _, _, _⟩ :: _) _ _; refine wpList_load_row_w rfl 24 (.tmp 12) rfl n12 rfl _ _ _ _ X12.out.1 underH rfl (hszL YL.out) ?_)
            | (guard_target =~ wpList _ _ _ (⟨some 45, _, _, _, _, _⟩ :: _) _ _; refine wpList_load_row_w rfl 24 (.tmp 8) rfl (N + 1) rfl _ _ _ _ Z1.out.1 underH rfl (hszL AL.out) ?_))
          have tw := two_set Z2.out (.int .i64 0) (.int .i64 0)
          exact bodyPost_ret (results_cell_row rfl _ _ (N + 2) _ #[.int .i64 0, .int .i64 0] _ _ rfl tw.1 Tryd.underlying35 rfl (by kernel_rfl)) rfl ⟨by rw [HV.out]; rfl, HN.out ▸ ((B2.out).setCell (show N ≤ N + 2 by omega) _).setCell (show N ≤ N + 2 by omega) _⟩
        · have hv := HR.out
          rw [if_neg (fun h => hY h.2)] at hv
          have HV := Bx.mk hv
          rw [show (X == before) = true by rw [hX]; simp] at q1
          rw [show (Y == after) = false from beq_eq_false_iff_ne.2 hY] at q2
          clear hv hX hY
          have cp := plain_any w2 10 (by decide)
          have CP := Bx.mk cp; clear cp
          go_wp2_with (first
            | (guard_target =~ wpList _ _ _ (⟨some 40, _, _, _, _, _⟩ :: _) _ _; refine wpList_load_row rfl 24 (.tmp 11) rfl n11 rfl _ _ _ _ X11.out.1 underH rfl (hszL XL.out) ?_)
            | (guard_target =~ wpList _ _ _ (⟨some 41, _, _, _, _, _⟩ :: _) _ _; refine wpList_load_row rfl 24 (.tmp 7) rfl N rfl _ _ _ _ Z0.out.1 underH rfl (hszL BL.out) ?_)
            | (guard_target =~ wpList _ _ _ (⟨some 44, _, _, _, _, _⟩ :: _) _ _; refine wpList_load_row_w rfl 24 (.tmp 12) rfl n12 rfl _ _ _ _ X12.out.1 underH rfl (hszL YL.out) ?_)
            | (guard_target =~ wpList _ _ _ (⟨some 45, _, _, _, _, _⟩ :: _) _ _; refine wpList_load_row_w rfl 24 (.tmp 8) rfl (N + 1) rfl _ _ _ _ Z1.out.1 underH rfl (hszL AL.out) ?_))
          refine CP.out.mono ?_
          rintro e wz ⟨rfl, hb⟩
          have z2 := (hb.block _ (Array.getElem?_eq_some_iff.1 Z2.out).1).trans Z2.out
          have KZ := Bx.mk (btr HN.out (HN.out ▸ B2.out) hb); have Z2 := Bx.mk z2
          clear hb z2
          have d0 := er_cellAt Z2.out 0 _ rfl
          have d1 := er_cellAt Z2.out 1 _ rfl
          have f0 := er_frozen Z2.out 0
          have f1 := er_frozen Z2.out 1
          go_wp2_with fail
          have tw := two_set Z2.out (.int .i64 10) (.int .i64 (-1))
          exact bodyPost_ret (results_cell_row rfl _ _ (N + 2) _ #[.int .i64 10, .int .i64 (-1)] _ _ rfl tw.1 Tryd.underlying35 rfl (by kernel_rfl)) rfl ⟨by rw [HV.out]; rfl, HN.out ▸ ((KZ.out).setCell (show N ≤ N + 2 by omega) _).setCell (show N ≤ N + 2 by omega) _⟩
      · have hv := HR.out
        rw [if_neg (fun h => hX h.1)] at hv
        have HV := Bx.mk hv
        rw [show (X == before) = false from beq_eq_false_iff_ne.2 hX] at q1
        clear hv hX
        have cp := plain_any w2 10 (by decide)
        have CP := Bx.mk cp; clear cp
        go_wp2_with (first
            | (guard_target =~ wpList _ _ _ (⟨some 40, _, _, _, _, _⟩ :: _) _ _; refine wpList_load_row rfl 24 (.tmp 11) rfl n11 rfl _ _ _ _ X11.out.1 underH rfl (hszL XL.out) ?_)
            | (guard_target =~ wpList _ _ _ (⟨some 41, _, _, _, _, _⟩ :: _) _ _; refine wpList_load_row rfl 24 (.tmp 7) rfl N rfl _ _ _ _ Z0.out.1 underH rfl (hszL BL.out) ?_)
            | (guard_target =~ wpList _ _ _ (⟨some 44, _, _, _, _, _⟩ :: _) _ _; refine wpList_load_row_w rfl 24 (.tmp 12) rfl n12 rfl _ _ _ _ X12.out.1 underH rfl (hszL YL.out) ?_)
            | (guard_target =~ wpList _ _ _ (⟨some 45, _, _, _, _, _⟩ :: _) _ _; refine wpList_load_row_w rfl 24 (.tmp 8) rfl (N + 1) rfl _ _ _ _ Z1.out.1 underH rfl (hszL AL.out) ?_))
        refine CP.out.mono ?_
        rintro e wz ⟨rfl, hb⟩
        have z2 := (hb.block _ (Array.getElem?_eq_some_iff.1 Z2.out).1).trans Z2.out
        have KZ := Bx.mk (btr HN.out (HN.out ▸ B2.out) hb); have Z2 := Bx.mk z2
        clear hb z2
        have d0 := er_cellAt Z2.out 0 _ rfl
        have d1 := er_cellAt Z2.out 1 _ rfl
        have f0 := er_frozen Z2.out 0
        have f1 := er_frozen Z2.out 1
        go_wp2_with fail
        have tw := two_set Z2.out (.int .i64 10) (.int .i64 (-1))
        exact bodyPost_ret (results_cell_row rfl _ _ (N + 2) _ #[.int .i64 10, .int .i64 (-1)] _ _ rfl tw.1 Tryd.underlying35 rfl (by kernel_rfl)) rfl ⟨by rw [HV.out]; rfl, HN.out ▸ ((KZ.out).setCell (show N ≤ N + 2 by omega) _).setCell (show N ≤ N + 2 by omega) _⟩
    · have hv : rconsV o s before after ps = faultV 10 (-1) := by unfold rconsV; rw [if_neg hbad, if_neg hlen]
      have HV := Bx.mk hv
      have l1 : ¬ (ps.length : Int) = (stepsN o s : Int) := by omega
      have l2 : (ps.length == stepsN o s) = false := beq_eq_false_iff_ne.2 hlen
      have l3 : ((ps.length : Int) == (stepsN o s : Int)) = false := beq_eq_false_iff_ne.2 l1
      have ST := Bx.mk hst
      clear hv hbad hst h0 h1 h2
      go_upto_region 4 with (go_at_call 36; refine (ST.out _).mono ?_; rintro e w' ⟨rfl, hw⟩; obtain rfl : W = w' := hw.symm)
      clear c1 c2' c2'' c3 l1 l2 l3
      have cp := plain_any W 10 (by decide)
      have CP := Bx.mk cp; clear cp
      go_wp2_with fail
      refine CP.out.mono ?_
      rintro e wz ⟨rfl, hb⟩
      have z2 := (hb.block _ (Array.getElem?_eq_some_iff.1 X2.out).1).trans X2.out
      have KZ := Bx.mk (btr HN.out (HN.out ▸ KB.out) hb); have Z2 := Bx.mk z2
      clear hb z2
      have d0 := er_cellAt Z2.out 0 _ rfl
      have d1 := er_cellAt Z2.out 1 _ rfl
      have f0 := er_frozen Z2.out 0
      have f1 := er_frozen Z2.out 1
      go_wp2_with fail
      have tw := two_set Z2.out (.int .i64 10) (.int .i64 (-1))
      exact bodyPost_ret (results_cell_row rfl _ _ (N + 2) _ #[.int .i64 10, .int .i64 (-1)] _ _ rfl tw.1 Tryd.underlying35 rfl (by kernel_rfl)) rfl ⟨by rw [HV.out]; rfl, HN.out ▸ ((KZ.out).setCell (show N ≤ N + 2 by omega) _).setCell (show N ≤ N + 2 by omega) _⟩
end Go.Proofs.YtmlpldkgennmkaaDoor
