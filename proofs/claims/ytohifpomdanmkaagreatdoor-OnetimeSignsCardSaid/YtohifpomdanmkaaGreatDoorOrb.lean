/- onetime.on. -/
import Derived.Test.YtohifpomdanmkaaGreatDoorOra
namespace Go.Proofs.YtohifpomdanmkaaGreatDoor
set_option maxRecDepth 100000
open Go.RowKit
set_option maxHeartbeats 1600000 in
theorem on_any (w : World) (h : List UInt8) (hh : h.length = 32) (n : Nat) (hn : n ≤ 255) (hT : TabS w) :
    Calls Tryz.prog 15 #[hv h, .int .i64 (n : Int)] w fun e w' => e = .returned (hv (chainN h n)) ∧ Below w.heap.size w w' := by
  have x0 := (HashAt.new w h hh).below (er_al (Below.refl _ _) (.cells zeros32 23))
  have x1 : ((w.alloc (.cells (ocells h) 23)).alloc (.cells zeros32 23)).heap[w.heap.size + 1]? = some (.cells zeros32 23 (0, 0)) := by
    simpa using heap_alloc_new (w.alloc (.cells (ocells h) 23)) (.cells zeros32 23)
  have kb : Below w.heap.size w ((w.alloc (.cells (ocells h) 23)).alloc (.cells zeros32 23)) := er_al (er_al (Below.refl _ _) _) _
  have HL := Bx.mk hh; have HT := Bx.mk hT
  have hcl := chainN_length hh n
  have HCL := Bx.mk hcl
  have cc := fun u hu => chain_any u h hh n hn hu
  simp only [hv_agg] at cc
  have CC := Bx.mk cc
  clear hh hT hcl cc
  unfold hv
  go_enter Tryz.func15, Tryz.ntmps15
  go_upto_region 1 with (fail)
  change Code.wp _ _ _ _ ((w.alloc (.cells (ocells h) 23)).alloc (.cells zeros32 23))
  generalize (w.alloc (.cells (ocells h) 23)).alloc (.cells zeros32 23) = W at x0 x1 kb ⊢
  obtain ⟨N, hN⟩ : ∃ N, N = w.heap.size := ⟨_, rfl⟩
  rw [← hN] at x0 kb x1 ⊢
  have X0 := Bx.mk x0; have X1 := Bx.mk x1; have KB := Bx.mk kb; have HN := Bx.mk hN
  clear x0 x1 kb hN
  go_wp2_with (guard_target =~ wpList _ _ _ (⟨some 6, _, _, _, _, _⟩ :: _) _ _; refine wpList_load_row rfl 23 (.tmp 2) rfl N rfl _ _ _ _ X0.out.1 underH rfl (hszL HL.out) ?_)
  refine (CC.out W (HT.out.below (HN.out ▸ KB.out))).mono ?_
  rintro e w1 ⟨rfl, hb⟩
  have y0 := X0.out.below hb
  have y1 := (hb.block _ (Array.getElem?_eq_some_iff.1 X1.out).1).trans X1.out
  have k1 : Below N w w1 := HN.out ▸ (show Below w.heap.size w w1 from (show Below w.heap.size w W from HN.out ▸ KB.out).trans (hb.mono (show Below w.heap.size w W from HN.out ▸ KB.out).size))
  have Y0 := Bx.mk y0; have Y1 := Bx.mk y1; have K1 := Bx.mk k1
  clear hb y0 y1 k1 CC
  generalize hc : chainN h n = c at HCL ⊢
  have HC := Bx.mk hc; clear hc
  go_upto_region 2 with (guard_target =~ wpList _ _ _ (⟨none, _, _, _, _, _⟩ :: _) _ _; refine wpList_store_row rfl 23 (.tmp 2) (.tmp 9) rfl N (ocells c) rfl rfl _ _ Y0.out.1 (hszL HCL.out) (by rw [ocells_size, ocells_size, HL.out, HCL.out]) (ocells_one _) ?_)
  have z0 : (w1.setRow N (ocells c)).heap[N]? = some (.cells (ocells c) 23 (0, 0)) := setRow_heap _ _ _ _ _ _ Y0.out.1
  have z1 : (w1.setRow N (ocells c)).heap[N + 1]? = some (.cells zeros32 23 (0, 0)) := by rw [heap_setRow_other _ _ _ _ (by omega)]; exact Y1.out
  have k2 : Below N w (w1.setRow N (ocells c)) := below_setRow K1.out (Nat.le_refl _) _
  generalize w1.setRow N (ocells c) = w2 at z0 z1 k2 ⊢
  have Z0 := Bx.mk z0; have Z1 := Bx.mk z1; have K2 := Bx.mk k2
  clear z0 z1 k2
  go_wp2_with (first
    | (guard_target =~ wpList _ _ _ (⟨some 11, _, _, _, _, _⟩ :: _) _ _; refine wpList_load_row rfl 23 (.tmp 2) rfl N rfl _ _ _ _ Z0.out underH rfl (hszL HCL.out) ?_)
    | (guard_target =~ wpList _ _ _ (⟨none, _, _, _, _, _⟩ :: _) _ _; refine wpList_store_row rfl 23 (.tmp 4) (.tmp 11) rfl (N + 1) (ocells c) rfl rfl _ _ Z1.out (hszL HCL.out) (hsoL HCL.out) (ocells_one _) ?_))
  exact bodyPost_ret (results_cell_row rfl _ _ (N + 1) _ (ocells c) _ _ rfl (setRow_heap _ _ _ _ _ _ Z1.out) underH rfl (hszL HCL.out)) rfl ⟨by rw [HC.out]; rfl, HN.out ▸ below_setRow K2.out (Nat.le_succ _) _⟩
end Go.Proofs.YtohifpomdanmkaaGreatDoor
