/- cartularyref05.Chain of steps that may not be; HashChains walked. -/
import Derived.Test.YtecdaokgnkhgiaaDoorHh
import Derived.Test.YtecdaokgnkhgiaaDoorRowW
namespace Go.Proofs.YtecdaokgnkhgiaaDoor
set_option maxRecDepth 100000
open Go.RowKit
set_option maxHeartbeats 3200000 in
theorem rchain_bad (w : World) (h : List UInt8) (n : Int) (hn : n < 0 ∨ 255 < n) :
    Calls Tryd.prog 19 #[hv h, .int .i64 n] w fun e w' => e = .returned (.tuple #[hv zero32', .agg #[.int .i64 2, .int .i64 (-1)]]) ∧ Below w.heap.size w w' := by
  have x1 : (((w.alloc (.cells (ocells h) 24)).alloc (.cells zeros32 24)).alloc (.cells fz 34)).heap[w.heap.size + 1]? = some (.cells zeros32 24 (0, 0)) := by
    rw [Below.heap_alloc _ _ _ (by simp)]; simpa using heap_alloc_new (w.alloc (.cells (ocells h) 24)) (.cells zeros32 24)
  have x2 : (((w.alloc (.cells (ocells h) 24)).alloc (.cells zeros32 24)).alloc (.cells fz 34)).heap[w.heap.size + 1 + 1]? = some (.cells fz 34 (0, 0)) := by
    simpa using heap_alloc_new ((w.alloc (.cells (ocells h) 24)).alloc (.cells zeros32 24)) (.cells fz 34)
  have kb : Below w.heap.size w (((w.alloc (.cells (ocells h) 24)).alloc (.cells zeros32 24)).alloc (.cells fz 34)) := er_al (er_al (er_al (Below.refl _ _) _) _) _
  unfold hv
  go_enter Tryd.func19, Tryd.ntmps19
  go_upto_region 1 with (fail)
  change Code.wp _ _ _ _ (((w.alloc (.cells (ocells h) 24)).alloc (.cells zeros32 24)).alloc (.cells fz 34))
  generalize ((w.alloc (.cells (ocells h) 24)).alloc (.cells zeros32 24)).alloc (.cells fz 34) = W at x1 x2 kb ⊢
  have c1 := plain_any W 2 (by decide)
  have C1 := Bx.mk c1; have X1 := Bx.mk x1; have X2 := Bx.mk x2; have KB := Bx.mk kb; have HN := Bx.mk hn
  clear c1 x1 x2 kb
  have tail : ∀ w1, Below W.heap.size W w1 → Bx (w1.heap[w.heap.size + 1]? = some (.cells zeros32 24 (0, 0)) ∧ w1.heap[w.heap.size + 1 + 1]? = some (.cells fz 34 (0, 0)) ∧ Below w.heap.size w w1) := fun w1 k =>
    ⟨(k.block _ (Array.getElem?_eq_some_iff.1 X1.out).1).trans X1.out, (k.block _ (Array.getElem?_eq_some_iff.1 X2.out).1).trans X2.out, KB.out.trans (k.mono KB.out.size)⟩
  by_cases h0 : n < 0
  · clear hn
    go_wp2_with fail
    refine C1.out.mono ?_
    rintro e w1 ⟨rfl, hb⟩
    have T := tail w1 hb
    have u2 : (w1.setRow (w.heap.size + 1) (ocells zero32')).heap[w.heap.size + 1 + 1]? = some (.cells #[.int .i64 0, .int .i64 0] 34 (0, 0)) := by
      rw [heap_setRow_other _ _ _ _ (by omega)]
      exact T.out.2.1
    have c0 := er_cellAt u2 0 _ rfl
    have c1 := er_cellAt u2 1 _ rfl
    have f0 := er_frozen u2 0
    have f1 := er_frozen u2 1
    have r1 : (w1.setRow (w.heap.size + 1) (ocells zero32')).heap[w.heap.size + 1]? = some (.cells (ocells zero32') 24 (0, 0)) := setRow_heap _ _ _ _ _ _ T.out.1
    have b3 : Below w.heap.size w (w1.setRow (w.heap.size + 1) (ocells zero32')) := below_setRow T.out.2.2 (by omega) _
    have U2 := Bx.mk u2; have B3 := Bx.mk b3; have R1' := Bx.mk r1; clear u2 b3 r1 hb tail
    go_wp2_with (refine wpList_store_row rfl 24 (.tmp 4) (.tmp 13) rfl (w.heap.size + 1) (ocells zero32') rfl rfl _ _ T.out.1 (hszL zero32'_length) (hsoL zero32'_length) (ocells_one _) ?_)
    have tw := two_set U2.out (.int .i64 2) (.int .i64 (-1))
    exact bodyPost_ret (results_two_rows rfl _ _ (w.heap.size + 1) (w.heap.size + 1 + 1) _ _ (ocells zero32') #[.int .i64 2, .int .i64 (-1)] _ _ rfl ((tw.2 _ (by omega)).trans R1'.out) (hszL zero32'_length) rfl tw.1 (by kernel_rfl)) rfl ⟨rfl, (B3.out.setCell (by simp; omega) _).setCell (by simp; omega) _⟩
  · have h1 : 255 < n := by have := HN.out; omega
    clear hn
    go_wp2_with fail
    refine C1.out.mono ?_
    rintro e w1 ⟨rfl, hb⟩
    have T := tail w1 hb
    have u2 : (w1.setRow (w.heap.size + 1) (ocells zero32')).heap[w.heap.size + 1 + 1]? = some (.cells #[.int .i64 0, .int .i64 0] 34 (0, 0)) := by
      rw [heap_setRow_other _ _ _ _ (by omega)]
      exact T.out.2.1
    have c0 := er_cellAt u2 0 _ rfl
    have c1 := er_cellAt u2 1 _ rfl
    have f0 := er_frozen u2 0
    have f1 := er_frozen u2 1
    have r1 : (w1.setRow (w.heap.size + 1) (ocells zero32')).heap[w.heap.size + 1]? = some (.cells (ocells zero32') 24 (0, 0)) := setRow_heap _ _ _ _ _ _ T.out.1
    have b3 : Below w.heap.size w (w1.setRow (w.heap.size + 1) (ocells zero32')) := below_setRow T.out.2.2 (by omega) _
    have U2 := Bx.mk u2; have B3 := Bx.mk b3; have R1' := Bx.mk r1; clear u2 b3 r1 hb tail
    go_wp2_with (refine wpList_store_row rfl 24 (.tmp 4) (.tmp 13) rfl (w.heap.size + 1) (ocells zero32') rfl rfl _ _ T.out.1 (hszL zero32'_length) (hsoL zero32'_length) (ocells_one _) ?_)
    have tw := two_set U2.out (.int .i64 2) (.int .i64 (-1))
    exact bodyPost_ret (results_two_rows rfl _ _ (w.heap.size + 1) (w.heap.size + 1 + 1) _ _ (ocells zero32') #[.int .i64 2, .int .i64 (-1)] _ _ rfl ((tw.2 _ (by omega)).trans R1'.out) (hszL zero32'_length) rfl tw.1 (by kernel_rfl)) rfl ⟨rfl, (B3.out.setCell (by simp; omega) _).setCell (by simp; omega) _⟩
end Go.Proofs.YtecdaokgnkhgiaaDoor
