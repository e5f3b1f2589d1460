/- cartularyref18.Root. -/
import Derived.Test.YtmlpldkgennmkaaDoorVl
import Derived.Test.YtmlpldkgennmkaaDoorG5
namespace Go.Proofs.YtmlpldkgennmkaaDoor
set_option maxRecDepth 100000
open Go.RowKit
def faultV (c p : Int) : Value := .agg #[.int .i64 c, .int .i64 p]
noncomputable def rrootV (i s : Nat) (leaf : List UInt8) (ps : List (List UInt8)) : Value :=
  if 9223372036854775808 < s ∨ s ≤ i then .tuple #[hv zero32', faultV 5 (-1)]
  else if ps.length = (hdirs i s).length then .tuple #[hv (climb nd leaf (hdirs i s) ps), faultV 0 0] else .tuple #[hv zero32', faultV 10 (-1)]
set_option maxHeartbeats 3200000 in
theorem rroot_any (w : World) (i s : Nat) (_hi : i < 18446744073709551616) (hs64 : s < 18446744073709551616) (leaf : List UInt8) (hl : leaf.length = 32) (ad : Option Addr) (n cap : Nat) (ps : List (List UInt8)) (hH : Hss w (.slice ad n cap) ps) :
    Calls Tryd.prog 11 #[.int .u64 (i : Int), .int .u64 (s : Int), hv leaf, .slice ad n cap] w fun e w' => e = .returned (rrootV i s leaf ps) ∧ Below w.heap.size w w' := by
  have x0 := ((HashAt.new w leaf hl).below (er_al (Below.refl _ _) (.cells zeros32 24))).below (er_al (Below.refl _ _) (.cells fz 35))
  have x1 : (((w.alloc (.cells (ocells leaf) 24)).alloc (.cells zeros32 24)).alloc (.cells fz 35)).heap[w.heap.size + 1]? = some (.cells zeros32 24 (0, 0)) := by
    rw [Below.heap_alloc _ _ _ (by simp)]; simpa using heap_alloc_new (w.alloc (.cells (ocells leaf) 24)) (.cells zeros32 24)
  have x2 : (((w.alloc (.cells (ocells leaf) 24)).alloc (.cells zeros32 24)).alloc (.cells fz 35)).heap[w.heap.size + 2]? = some (.cells fz 35 (0, 0)) := by
    simpa using heap_alloc_new ((w.alloc (.cells (ocells leaf) 24)).alloc (.cells zeros32 24)) (.cells fz 35)
  have kb : Below w.heap.size w (((w.alloc (.cells (ocells leaf) 24)).alloc (.cells zeros32 24)).alloc (.cells fz 35)) := er_al (er_al (er_al (Below.refl _ _) _) _) _
  obtain ⟨_, _, e1, b1, b1'⟩ := hH.len
  have hn1 : n = ps.length := by cases e1; rfl
  subst hn1
  have LL := Bx.mk hl; have HHS := Bx.mk hH
  clear hl hH e1
  unfold hv
  go_enter Tryd.func11, Tryd.ntmps11
  go_upto_region 1 with (fail)
  change Code.wp _ _ _ _ (((w.alloc (.cells (ocells leaf) 24)).alloc (.cells zeros32 24)).alloc (.cells fz 35))
  generalize ((w.alloc (.cells (ocells leaf) 24)).alloc (.cells zeros32 24)).alloc (.cells fz 35) = W at x0 x1 x2 kb ⊢
  obtain ⟨N, hN⟩ : ∃ N, N = w.heap.size := ⟨_, rfl⟩
  rw [← hN] at x0 x1 x2 kb ⊢
  have X0 := Bx.mk x0; have X1 := Bx.mk x1; have X2 := Bx.mk x2; have KB := Bx.mk kb; have HN := Bx.mk hN
  clear x0 x1 x2 kb hN
  by_cases hbad : 9223372036854775808 < s ∨ s ≤ i
  · have hv : rrootV i s leaf ps = .tuple #[hv zero32', faultV 5 (-1)] := by unfold rrootV; rw [if_pos hbad]
    have HV := Bx.mk hv
    by_cases c1 : (9223372036854775808 : Int) < (s : Int)
    · clear hbad hv
      have cp := plain_any W 5 (by decide)
      have CP := Bx.mk cp; clear cp
      go_wp2_with fail
      refine CP.out.mono ?_
      rintro e w1 ⟨rfl, hb⟩
      have y1 := (hb.block _ (Array.getElem?_eq_some_iff.1 X1.out).1).trans X1.out
      have y2 := (hb.block _ (Array.getElem?_eq_some_iff.1 X2.out).1).trans X2.out
      have K1 := Bx.mk (btr HN.out KB.out hb); have Y1 := Bx.mk y1; have Y2 := Bx.mk y2
      clear hb y1 y2
      have u2 : (w1.setRow (N + 1) (ocells zero32')).heap[N + 2]? = some (.cells #[.int .i64 0, .int .i64 0] 35 (0, 0)) := by
        rw [heap_setRow_other _ _ _ _ (by omega)]
        exact Y2.out
      have c0 := er_cellAt u2 0 _ rfl
      have c1 := er_cellAt u2 1 _ rfl
      have f0 := er_frozen u2 0
      have f1 := er_frozen u2 1
      have r1 : (w1.setRow (N + 1) (ocells zero32')).heap[N + 1]? = some (.cells (ocells zero32') 24 (0, 0)) := setRow_heap _ _ _ _ _ _ Y1.out
      have b3 : Below N w (w1.setRow (N + 1) (ocells zero32')) := below_setRow K1.out (Nat.le_succ _) _
      have U2 := Bx.mk u2; have B3 := Bx.mk b3; have R1' := Bx.mk r1; clear u2 b3 r1
      go_wp2_with (guard_target =~ wpList _ _ _ (⟨none, .store 24 _ _, _, _, _, _⟩ :: _) _ _; refine wpList_store_row rfl 24 (.tmp 8) (.tmp 17) rfl (N + 1) (ocells zero32') rfl rfl _ _ Y1.out (hszL zero32'_length) (hsoL zero32'_length) (ocells_one _) ?_)
      have tw := two_set U2.out (.int .i64 5) (.int .i64 (-1))
      exact bodyPost_ret (results_two_rows rfl _ _ (N + 1) (N + 2) _ _ (ocells zero32') #[.int .i64 5, .int .i64 (-1)] _ _ rfl ((tw.2 _ (by omega)).trans R1'.out) (hszL zero32'_length) rfl tw.1 (by kernel_rfl)) rfl ⟨by rw [HV.out]; rfl, HN.out ▸ (B3.out.setCell (show N ≤ N + 2 by omega) _).setCell (show N ≤ N + 2 by omega) _⟩
    · have c2 : (s : Int) ≤ (i : Int) := by omega
      have c2' : s ≤ i := by omega
      clear hbad hv
      have cp := plain_any W 5 (by decide)
      have CP := Bx.mk cp; clear cp
      go_wp2_with fail
      refine CP.out.mono ?_
      rintro e w1 ⟨rfl, hb⟩
      have y1 := (hb.block _ (Array.getElem?_eq_some_iff.1 X1.out).1).trans X1.out
      have y2 := (hb.block _ (Array.getElem?_eq_some_iff.1 X2.out).1).trans X2.out
      have K1 := Bx.mk (btr HN.out KB.out hb); have Y1 := Bx.mk y1; have Y2 := Bx.mk y2
      clear hb y1 y2
      have u2 : (w1.setRow (N + 1) (ocells zero32')).heap[N + 2]? = some (.cells #[.int .i64 0, .int .i64 0] 35 (0, 0)) := by
        rw [heap_setRow_other _ _ _ _ (by omega)]
        exact Y2.out
      have c0 := er_cellAt u2 0 _ rfl
      have c1 := er_cellAt u2 1 _ rfl
      have f0 := er_frozen u2 0
      have f1 := er_frozen u2 1
      have r1 : (w1.setRow (N + 1) (ocells zero32')).heap[N + 1]? = some (.cells (ocells zero32') 24 (0, 0)) := setRow_heap _ _ _ _ _ _ Y1.out
      have b3 : Below N w (w1.setRow (N + 1) (ocells zero32')) := below_setRow K1.out (Nat.le_succ _) _
      have U2 := Bx.mk u2; have B3 := Bx.mk b3; have R1' := Bx.mk r1; clear u2 b3 r1
      go_wp2_with (guard_target =~ wpList _ _ _ (⟨none, .store 24 _ _, _, _, _, _⟩ :: _) _ _; refine wpList_store_row rfl 24 (.tmp 8) (.tmp 17) rfl (N + 1) (ocells zero32') rfl rfl _ _ Y1.out (hszL zero32'_length) (hsoL zero32'_length) (ocells_one _) ?_)
      have tw := two_set U2.out (.int .i64 5) (.int .i64 (-1))
      exact bodyPost_ret (results_two_rows rfl _ _ (N + 1) (N + 2) _ _ (ocells zero32') #[.int .i64 5, .int .i64 (-1)] _ _ rfl ((tw.2 _ (by omega)).trans R1'.out) (hszL zero32'_length) rfl tw.1 (by kernel_rfl)) rfl ⟨by rw [HV.out]; rfl, HN.out ▸ (B3.out.setCell (show N ≤ N + 2 by omega) _).setCell (show N ≤ N + 2 by omega) _⟩
  · have c1 : ¬ (9223372036854775808 : Int) < (s : Int) := by omega
    have c2 : ¬ (s : Int) ≤ (i : Int) := by omega
    have c2' : ¬ s ≤ i := by omega
    have hlong := fun u => long_any u i s (by omega) (by omega)
    have HLO := Bx.mk hlong; clear hlong
    by_cases hlen : ps.length = (hdirs i s).length
    · have hv : rrootV i s leaf ps = .tuple #[hv (climb nd leaf (hdirs i s) ps), faultV 0 0] := by unfold rrootV; rw [if_neg hbad, if_pos hlen]
      have cs := says_any s i W leaf ad ps.length cap ps (by omega) (by omega) LL.out (HHS.out.below (HN.out ▸ KB.out)) hlen
      have hcl := climb_length LL.out (hdirs i s) ps
      rw [hv_agg, hv_agg] at cs
      rw [← hlen] at HLO
      generalize climb nd leaf (hdirs i s) ps = cl at cs hcl hv
      have CS := Bx.mk cs; have HCL := Bx.mk hcl; have HV := Bx.mk hv
      clear cs hcl hv hbad hlen
      go_wp2_with (first
        | (go_at_call 32; refine (HLO.out _).mono ?_; rintro e w' ⟨rfl, rfl⟩)
        | (guard_target =~ wpList _ _ _ (⟨some 29, _, _, _, _, _⟩ :: _) _ _; refine wpList_load_row rfl 24 (.tmp 6) rfl N rfl _ _ _ _ X0.out.1 underH rfl (hszL LL.out) ?_))
      refine CS.out.mono ?_
      rintro e w1 ⟨rfl, hb⟩
      have y1 := (hb.block _ (Array.getElem?_eq_some_iff.1 X1.out).1).trans X1.out
      have y2 := (hb.block _ (Array.getElem?_eq_some_iff.1 X2.out).1).trans X2.out
      have K1 := Bx.mk (btr HN.out KB.out hb); have Y1 := Bx.mk y1; have Y2 := Bx.mk y2
      clear hb y1 y2
      have u2 : (w1.setRow (N + 1) (ocells cl)).heap[N + 2]? = some (.cells #[.int .i64 0, .int .i64 0] 35 (0, 0)) := by
        rw [heap_setRow_other _ _ _ _ (by omega)]
        exact Y2.out
      have c0 := er_cellAt u2 0 _ rfl
      have c1 := er_cellAt u2 1 _ rfl
      have f0 := er_frozen u2 0
      have f1 := er_frozen u2 1
      have r1 : (w1.setRow (N + 1) (ocells cl)).heap[N + 1]? = some (.cells (ocells cl) 24 (0, 0)) := setRow_heap _ _ _ _ _ _ Y1.out
      have b3 : Below N w (w1.setRow (N + 1) (ocells cl)) := below_setRow K1.out (Nat.le_succ _) _
      have U2 := Bx.mk u2; have B3 := Bx.mk b3; have R1' := Bx.mk r1; clear u2 b3 r1
      go_wp2_with (guard_target =~ wpList _ _ _ (⟨none, .store 24 _ _, _, _, _, _⟩ :: _) _ _; refine wpList_store_row rfl 24 (.tmp 8) (.tmp 31) rfl (N + 1) (ocells cl) rfl rfl _ _ Y1.out (hszL HCL.out) (hsoL HCL.out) (ocells_one _) ?_)
      have tw := two_set U2.out (.int .i64 0) (.int .i64 0)
      exact bodyPost_ret (results_two_rows rfl _ _ (N + 1) (N + 2) _ _ (ocells cl) #[.int .i64 0, .int .i64 0] _ _ rfl ((tw.2 _ (by omega)).trans R1'.out) (hszL HCL.out) rfl tw.1 (by kernel_rfl)) rfl ⟨by rw [HV.out]; rfl, HN.out ▸ (B3.out.setCell (show N ≤ N + 2 by omega) _).setCell (show N ≤ N + 2 by omega) _⟩
    · have hv : rrootV i s leaf ps = .tuple #[hv zero32', faultV 10 (-1)] := by unfold rrootV; rw [if_neg hbad, if_neg hlen]
      have HV := Bx.mk hv
      have l1 : ¬ (ps.length : Int) = ((hdirs i s).length : Int) := by omega
      have l2 : (ps.length == (hdirs i s).length) = false := beq_eq_false_iff_ne.2 hlen
      have l3 : ((ps.length : Int) == ((hdirs i s).length : Int)) = false := beq_eq_false_iff_ne.2 l1
      clear hv hbad
      go_upto_region 4 with (go_at_call 32; refine (HLO.out _).mono ?_; rintro e w' ⟨rfl, hw⟩; obtain rfl : W = w' := hw.symm)
      have cp := plain_any W 10 (by decide)
      have CP := Bx.mk cp; clear cp
      go_wp2_with fail
      refine CP.out.mono ?_
      rintro e w1 ⟨rfl, hb⟩
      have y1 := (hb.block _ (Array.getElem?_eq_some_iff.1 X1.out).1).trans X1.out
      have y2 := (hb.block _ (Array.getElem?_eq_some_iff.1 X2.out).1).trans X2.out
      have K1 := Bx.mk (btr HN.out KB.out hb); have Y1 := Bx.mk y1; have Y2 := Bx.mk y2
      clear hb y1 y2
      have u2 : (w1.setRow (N + 1) (ocells zero32')).heap[N + 2]? = some (.cells #[.int .i64 0, .int .i64 0] 35 (0, 0)) := by
        rw [heap_setRow_other _ _ _ _ (by omega)]
        exact Y2.out
      have c0 := er_cellAt u2 0 _ rfl
      have c1 := er_cellAt u2 1 _ rfl
      have f0 := er_frozen u2 0
      have f1 := er_frozen u2 1
      have r1 : (w1.setRow (N + 1) (ocells zero32')).heap[N + 1]? = some (.cells (ocells zero32') 24 (0, 0)) := setRow_heap _ _ _ _ _ _ Y1.out
      have b3 : Below N w (w1.setRow (N + 1) (ocells zero32')) := below_setRow K1.out (Nat.le_succ _) _
      have U2 := Bx.mk u2; have B3 := Bx.mk b3; have R1' := Bx.mk r1; clear u2 b3 r1
      go_wp2_with (guard_target =~ wpList _ _ _ (⟨none, .store 24 _ _, _, _, _, _⟩ :: _) _ _; refine wpList_store_row rfl 24 (.tmp 8) (.tmp 25) rfl (N + 1) (ocells zero32') rfl rfl _ _ Y1.out (hszL zero32'_length) (hsoL zero32'_length) (ocells_one _) ?_)
      have tw := two_set U2.out (.int .i64 10) (.int .i64 (-1))
      exact bodyPost_ret (results_two_rows rfl _ _ (N + 1) (N + 2) _ _ (ocells zero32') #[.int .i64 10, .int .i64 (-1)] _ _ rfl ((tw.2 _ (by omega)).trans R1'.out) (hszL zero32'_length) rfl tw.1 (by kernel_rfl)) rfl ⟨by rw [HV.out]; rfl, HN.out ▸ (B3.out.setCell (show N ≤ N + 2 by omega) _).setCell (show N ≤ N + 2 by omega) _⟩
end Go.Proofs.YtmlpldkgennmkaaDoor
