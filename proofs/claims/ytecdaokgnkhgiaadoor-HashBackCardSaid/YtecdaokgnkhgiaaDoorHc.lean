/- hash.Chain of steps that may not be. -/
import Derived.Test.YtecdaokgnkhgiaaDoorHb
import Derived.Test.YtecdaokgnkhgiaaDoorRetZ
namespace Go.Proofs.YtecdaokgnkhgiaaDoor
set_option maxRecDepth 100000
open Go.RowKit
def zero32' : List UInt8 := List.replicate 32 0
theorem zero32'_length : zero32'.length = 32 := rfl
set_option maxHeartbeats 1600000 in
/-- hash.Chain of steps that may not be -/
theorem chain_bad (w : World) (h : List UInt8) (n : Int) (hn : n < 0 ∨ 255 < n) (A : Nat → Addr) (hE : Errs w A) :
    Calls Tryd.prog 18 #[hv h, .int .i64 n] w fun e w' => e = .returned (.tuple #[hv zero32', .iface 126 (.pointer (some (A 1)))]) ∧ Below w.heap.size w w' := by
  have u1 : ((w.alloc (.cells (ocells h) 24)).alloc (.cells zeros32 24)).heap[w.heap.size + 1]? = some (.cells zeros32 24 (0, 0)) := by
    simpa using heap_alloc_new (w.alloc (.cells (ocells h) 24)) (.cells zeros32 24)
  have kb : Below w.heap.size w ((w.alloc (.cells (ocells h) 24)).alloc (.cells zeros32 24)) := er_al (er_al (Below.refl _ _) _) _
  have g0 := (hE.below kb).glob 1 (by decide)
  unfold hv
  go_enter Tryd.func18, Tryd.ntmps18
  go_upto_region 1 with (fail)
  change Code.wp _ _ _ _ ((w.alloc (.cells (ocells h) 24)).alloc (.cells zeros32 24))
  generalize (w.alloc (.cells (ocells h) 24)).alloc (.cells zeros32 24) = W at u1 kb g0 ⊢
  have g1 : W.cell? ⟨0, 0, none⟩ = some (.iface 126 (.pointer (some (A 1)))) := g0
  have hlt : 0 < w.heap.size := block_lt_of_cell (hE.glob 1 (by decide))
  have g1d : W.drew.cell? ⟨0, 0, none⟩ = some (.iface 126 (.pointer (some (A 1)))) := g0
  have g2 : (W.drew.setRow (w.heap.size + 1) (ocells zero32')).cell? ⟨0, 0, none⟩ = some (.iface 126 (.pointer (some (A 1)))) := by
    rw [World.cell?_of_block (w := W.drew) (a := ⟨0, 0, none⟩) (heap_setRow_other W.drew (w.heap.size + 1) 0 _ (by omega))]; exact g1d
  have kd : Below w.heap.size w W.drew := ⟨kb.os, kb.tape, kb.output, kb.size, kb.block⟩
  have kb2 : Below w.heap.size w (W.drew.setRow (w.heap.size + 1) (ocells zero32')) := below_setRow kd (by omega) _
  have u2 : (W.drew.setRow (w.heap.size + 1) (ocells zero32')).heap[w.heap.size + 1]? = some (.cells (ocells zero32') 24 (0, 0)) := setRow_heap _ _ _ _ _ _ u1
  have U1 := Bx.mk u1; have KB := Bx.mk kb2; have HN := Bx.mk hn; have G1 := Bx.mk g1; have G2 := Bx.mk g2; have U2 := Bx.mk u2
  clear u1 kb kb2 kd hE g0 g1 g1d g2 u2 hlt
  by_cases h0 : n < 0
  · clear hn
    go_upto_region 2 with (fail)
    refine wp_region_zero (w' := W.drew.setRow (w.heap.size + 1) (ocells zero32')) (by kernel_rfl) (by kernel_rfl) rfl rfl rfl rfl (hv zero32') (.iface 126 (.pointer (some (A 1)))) (by decide) ?_ ?_ ?_ ?_
    · intro b K hK
      refine wp_build 24 #[] rfl (by kernel_rfl) ?_
      simp only [Array.toList_map, List.map_nil]
      rw [show (Tryd.prog.built 24 []).getD #[] = ocells zero32' by kernel_rfl]
      exact hK
    · rintro b u K (rfl | rfl) hK
      · exact wp_load_iface 30 _ rfl ⟨0, 0, none⟩ rfl _ G1.out Tryd.underlying30 hK
      · exact wp_load_iface 30 _ rfl ⟨0, 0, none⟩ rfl _ G2.out Tryd.underlying30 hK
    · rintro b K (rfl | rfl) hK
      · exact wp_store_row 24 (.tmp 4) (.tmp 12) rfl (w.heap.size + 1) (ocells zero32') rfl rfl _ _ U1.out (hszL rfl) (hsoL rfl) (ocells_one _) hK
      · exact wp_store_row 24 (.tmp 4) (.tmp 12) rfl (w.heap.size + 1) (ocells zero32') rfl rfl _ _ U1.out (hszL rfl) (hsoL rfl) (ocells_one _) hK
    · go_simp
      go_wp2_with fail
      exact bodyPost_ret (results_row_tmp rfl _ _ (w.heap.size + 1) _ (ocells zero32') _ rfl U2.out (hszL rfl)) rfl ⟨rfl, KB.out⟩
  · have h1 : 255 < n := by have := HN.out; omega
    clear hn
    go_upto_region 2 with (fail)
    refine wp_region_zero (w' := W.drew.setRow (w.heap.size + 1) (ocells zero32')) (by kernel_rfl) (by kernel_rfl) rfl rfl rfl rfl (hv zero32') (.iface 126 (.pointer (some (A 1)))) (by decide) ?_ ?_ ?_ ?_
    · intro b K hK
      refine wp_build 24 #[] rfl (by kernel_rfl) ?_
      simp only [Array.toList_map, List.map_nil]
      rw [show (Tryd.prog.built 24 []).getD #[] = ocells zero32' by kernel_rfl]
      exact hK
    · rintro b u K (rfl | rfl) hK
      · exact wp_load_iface 30 _ rfl ⟨0, 0, none⟩ rfl _ G1.out Tryd.underlying30 hK
      · exact wp_load_iface 30 _ rfl ⟨0, 0, none⟩ rfl _ G2.out Tryd.underlying30 hK
    · rintro b K (rfl | rfl) hK
      · exact wp_store_row 24 (.tmp 4) (.tmp 12) rfl (w.heap.size + 1) (ocells zero32') rfl rfl _ _ U1.out (hszL rfl) (hsoL rfl) (ocells_one _) hK
      · exact wp_store_row 24 (.tmp 4) (.tmp 12) rfl (w.heap.size + 1) (ocells zero32') rfl rfl _ _ U1.out (hszL rfl) (hsoL rfl) (ocells_one _) hK
    · go_simp
      go_wp2_with fail
      exact bodyPost_ret (results_row_tmp rfl _ _ (w.heap.size + 1) _ (ocells zero32') _ rfl U2.out (hszL rfl)) rfl ⟨rfl, KB.out⟩
end Go.Proofs.YtecdaokgnkhgiaaDoor
