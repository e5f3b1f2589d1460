/- The document's answer, part one: turn, schedule, table, start. What each call does to the world. -/
import Derived.Test.YtfoknhogclfhhaaDoorBlk
import Derived.Great.BuildSlice
import Derived.Laws.CopyOwn
namespace Go.Proofs.YtfoknhogclfhhaaDoor
set_option maxRecDepth 100000
open Go.RowKit
set_option maxHeartbeats 400000 in
theorem rturn_any (x n : Int) (w : World) (hn : 0 ≤ n) (hn1 : n ≤ 32) :
    Calls Tryd.prog 39 #[.int .u32 x, .int .i64 n] w fun e w' => e = .returned (.int .u32 (rotr x n)) ∧ ∃ k, w' = w.drewN k := by
  go_enter Tryd.func39, Tryd.ntmps39
  go_wp2
  go_quiet (fail)
  go_wp2
  go_ret
  exact ⟨rfl, _, rfl⟩
def zeros64 : Array Value := vals (List.replicate 64 0)
theorem under64 : Tryd.prog.underlying 65 = some (.array 64 60) := by kernel_rfl
theorem under8 : Tryd.prog.underlying 61 = some (.array 8 60) := by kernel_rfl
theorem size64 : (Tryd.prog.info? 65).map (·.size) = some 64 := by kernel_rfl
theorem size8 : (Tryd.prog.info? 61).map (·.size) = some 8 := by kernel_rfl
theorem vals_size (l : List Int) : (vals l).size = l.length := by simp [vals]
theorem vals_one (l : List Int) : (vals l).all (·.oneCell') = true := by
  rw [Array.all_eq_true_iff_forall_mem]; intro x hx; simp [vals] at hx; obtain ⟨y, _, rfl⟩ := hx; rfl
set_option maxHeartbeats 1600000 in
set_option maxRecDepth 100000 in
theorem rsched_any (w : World) (B off cap : Nat) (b : List Int)
    (hb : ∀ i, i < 64 → w.cell? ⟨B, off + i, none⟩ = some (.int .u8 (b.getD i 0))) (hBs : B < w.heap.size) (_hcap : 64 ≤ cap) :
    Calls Tryd.prog 38 #[.slice (some ⟨B, off, none⟩) 64 cap] w fun e w' => e = .returned (.agg (vals (sched b))) ∧ Below w.heap.size w w' := by
  go_enter Tryd.func38, Tryd.ntmps38
  have Hb : Bx (∀ i, i < 64 → (w.alloc (.cells zeros64 65)).cell? ⟨B, off + i, none⟩ = some (.int .u8 (b.getD i 0))) := ⟨fun i hi => (cell_old w _ 0 B _ _ hBs (hb i hi))⟩
  have hBs1 : B < (w.alloc (.cells zeros64 65)).heap.size := by simp; omega
  have hsz1 : w.heap.size + 1 = (w.alloc (.cells zeros64 65)).heap.size := by simp
  have Hs := Bx.mk hsz1; have HB := Bx.mk hBs1
  clear hb hsz1 hBs1
  go_upto_block 0 with (fail)
  go_cut [] (fun wc => ∃ k : Nat, wc = ((((w.alloc (.cells zeros64 65)).alloc (.cells (vals (sch1 b 16)) 65))).drewN k))
  case first =>
    go_wp2_with fail
    go_loopw [4] (fun i wr => ∃ t k : Nat, t ≤ 16 ∧ i = .int .i64 t ∧ wr = ((((w.alloc (.cells zeros64 65)).alloc (.cells (vals (sch1 b t)) 65))).drewN k)) (fun i _ => 16 - (intOf i).toNat)
    case atStart => exact ⟨0, 0, by omega, rfl, rfl⟩
    case round =>
      obtain ⟨t, k, ht, rfl, rfl⟩ := hrel
      by_cases hlt : t < 16
      · have c0 := cell_old (w.alloc (.cells zeros64 65)) (.cells (vals (sch1 b t)) 65) k B _ _ HB.out (Hb.out (4 * t) (by omega))
        have c1 := cell_old (w.alloc (.cells zeros64 65)) (.cells (vals (sch1 b t)) 65) k B _ _ HB.out (Hb.out (4 * t + 1) (by omega))
        have c2 := cell_old (w.alloc (.cells zeros64 65)) (.cells (vals (sch1 b t)) 65) k B _ _ HB.out (Hb.out (4 * t + 2) (by omega))
        have c3 := cell_old (w.alloc (.cells zeros64 65)) (.cells (vals (sch1 b t)) 65) k B _ _ HB.out (Hb.out (4 * t + 3) (by omega))
        have c4 := cell_loc (w.alloc (.cells zeros64 65)) (sch1 b t) 65 k (w.heap.size + 1) t Hs.out (by rw [sch1_length]; omega)
        have cf := froz_loc (w.alloc (.cells zeros64 65)) (sch1 b t) 65 k (w.heap.size + 1) t Hs.out
        generalize hW : ((((w.alloc (.cells zeros64 65)).alloc (.cells (vals (sch1 b t)) 65))).drewN k) = W at c0 c1 c2 c3 c4 cf ⊢
        have HW := Bx.mk hW; clear hW
        generalize hx0 : b.getD (4*t) 0 = x0 at c0
        generalize hx1 : b.getD (4*t+1) 0 = x1 at c1
        generalize hx2 : b.getD (4*t+2) 0 = x2 at c2
        generalize hx3 : b.getD (4*t+3) 0 = x3 at c3
        have H0 := Bx.mk hx0; have H1 := Bx.mk hx1; have H2 := Bx.mk hx2; have H3 := Bx.mk hx3; clear hx0 hx1 hx2 hx3
        generalize (sch1 b t).getD t 0 = x4 at c4
        have i0 : 0 ≤ 4 * (t : Int) := by omega
        have i1 : 4 * (t : Int) < 64 := by omega
        go_wp2_with fail
        refine wp_region_quiet_tail (C := fun w' => ∃ n, w' = W.drewN n) 35 (by kernel_rfl) (by kernel_rfl) ⟨1, rfl⟩ ?_
        simp only [List.take_succ_cons, List.take_zero, List.drop_succ_cons, List.drop_zero]
        repeat go_big_quiet_step (fail)
        refine wpQuiet_nil ?_
        intro _ hw'
        obtain ⟨nr, hw''⟩ := hw'
        subst hw''
        go_wp2_with fail
        go_roundw
        case rel =>
          refine ⟨t + 1, k + nr, by omega, by go_num, ?_⟩
          rw [← HW.out, World.drewN_drewN, store_loc _ _ _ _ _ _ _ Hs.out]
          rw [← H0.out, ← H1.out, ← H2.out, ← H3.out]
          rfl
        case measure => simp [intOf]; omega
      · obtain rfl : t = 16 := by omega
        go_wp2_with fail
        go_meet
        case rel => exact ⟨k, rfl⟩
  case rest =>
   obtain ⟨k0, rfl⟩ := hcut
   go_upto_block 2 with (fail)
   go_cut [] (fun wc => ∃ k : Nat, wc = ((((w.alloc (.cells zeros64 65)).alloc (.cells (vals (sch2 b 48)) 65))).drewN k))
   case first =>
    go_wp2_with fail
    go_loopw [5] (fun i wr => ∃ t k : Nat, t ≤ 48 ∧ i = .int .i64 (16 + t : Nat) ∧ wr = ((((w.alloc (.cells zeros64 65)).alloc (.cells (vals (sch2 b t)) 65))).drewN k)) (fun i _ => 64 - (intOf i).toNat)
    case atStart => exact ⟨0, k0, by omega, rfl, rfl⟩
    case round =>
      obtain ⟨t2, k2, ht2, rfl, rfl⟩ := hrel
      by_cases hlt2 : t2 < 48
      · have hl := sch2_length b t2
        have c0 := cell_loc (w.alloc (.cells zeros64 65)) (sch2 b t2) 65 k2 (w.heap.size + 1) (16 + t2 - 16) Hs.out (by omega)
        have c1 := cell_loc (w.alloc (.cells zeros64 65)) (sch2 b t2) 65 k2 (w.heap.size + 1) (16 + t2 - 15) Hs.out (by omega)
        have c2 := cell_loc (w.alloc (.cells zeros64 65)) (sch2 b t2) 65 k2 (w.heap.size + 1) (16 + t2 - 7) Hs.out (by omega)
        have c3 := cell_loc (w.alloc (.cells zeros64 65)) (sch2 b t2) 65 k2 (w.heap.size + 1) (16 + t2 - 2) Hs.out (by omega)
        have c4 := cell_loc (w.alloc (.cells zeros64 65)) (sch2 b t2) 65 k2 (w.heap.size + 1) (16 + t2) Hs.out (by omega)
        have cf := froz_loc (w.alloc (.cells zeros64 65)) (sch2 b t2) 65 k2 (w.heap.size + 1) (16 + t2) Hs.out
        clear hl
        generalize hW : ((((w.alloc (.cells zeros64 65)).alloc (.cells (vals (sch2 b t2)) 65))).drewN k2) = W at c0 c1 c2 c3 c4 cf ⊢
        have HW := Bx.mk hW; clear hW
        generalize hx0 : (sch2 b t2).getD (16 + t2 - 16) 0 = x0 at c0
        generalize hx1 : (sch2 b t2).getD (16 + t2 - 15) 0 = x1 at c1
        generalize hx2 : (sch2 b t2).getD (16 + t2 - 7) 0 = x2 at c2
        generalize hx3 : (sch2 b t2).getD (16 + t2 - 2) 0 = x3 at c3
        generalize (sch2 b t2).getD (16 + t2) 0 = x4 at c4
        have H0 := Bx.mk hx0; have H1 := Bx.mk hx1; have H2 := Bx.mk hx2; have H3 := Bx.mk hx3; clear hx0 hx1 hx2 hx3
        generalize hm : 16 + t2 = m at c0 c1 c2 c3 c4 cf ⊢
        have Hm := Bx.mk hm
        have hm1 : 16 ≤ m := by omega
        have hm2 : m < 64 := by omega
        clear hm
        go_wp2_with fail
        refine wp_region_quiet_tail (C := fun w' => ∃ n, w' = W.drewN n) 29 (by kernel_rfl) (by kernel_rfl) ⟨1, rfl⟩ ?_
        simp only [List.take_succ_cons, List.take_zero, List.drop_succ_cons, List.drop_zero]
        repeat go_big_quiet_step ((go_at_call 39; exact Calls.quiet_of (rturn_any _ _ _ (by omega) (by omega))))
        refine wpQuiet_nil ?_
        intro _ hw'
        obtain ⟨nr, hw''⟩ := hw'
        subst hw''
        go_wp2_with fail
        go_roundw
        case rel =>
          refine ⟨t2 + 1, k2 + nr, by omega, by rw [← Hm.out]; go_num, ?_⟩
          rw [← HW.out, World.drewN_drewN, store_loc _ _ _ _ _ _ _ Hs.out]
          rw [← H0.out, ← H1.out, ← H2.out, ← H3.out, ← Hm.out]
          rfl
        case measure => simp [intOf]; omega
      · obtain rfl : t2 = 48 := by omega
        go_wp2_with fail
        go_meet
        case rel => exact ⟨k2, rfl⟩
   case rest =>
    obtain ⟨k, rfl⟩ := hcut
    have g0 : ((((w.alloc (.cells zeros64 65)).alloc (.cells (vals (sch2 b 48)) 65))).drewN k).heap[w.heap.size + 1]? = some (.cells (vals (sch2 b 48)) 65 (0, 0)) := heap_alloc2_new _ _ _
    have g1 : ((((w.alloc (.cells zeros64 65)).alloc (.cells (vals (sch2 b 48)) 65))).drewN k).heap[w.heap.size]? = some (.cells zeros64 65 (0, 0)) := heap_alloc2_old _ _ _
    have hbel : Below w.heap.size w ((((w.alloc (.cells zeros64 65)).alloc (.cells (vals (sch2 b 48)) 65))).drewN k) := by
      have := ((Below.refl w.heap.size w).alloc (Nat.le_refl _) (.cells zeros64 65)).alloc (by simp) (.cells (vals (sch2 b 48)) 65)
      exact ⟨this.os, this.tape, this.output, this.size, this.block⟩
    generalize ((((w.alloc (.cells zeros64 65)).alloc (.cells (vals (sch2 b 48)) 65))).drewN k) = W at g0 g1 hbel ⊢
    have hl := sch2_length b 48
    have G0 := Bx.mk g0; have G1 := Bx.mk g1; have HL := Bx.mk hl; have HBE := Bx.mk hbel
    clear g0 g1 hl hbel
    go_upto_region 12 with (fail)
    apply wp_region_lit
    refine wpList_load_row rfl 65 (.tmp 3) rfl (w.heap.size + 1) rfl _ _ _ _ G0.out under64 rfl (by rw [size64, vals_size, HL.out]) ?_
    refine wpList_store_row rfl 65 (.tmp 2) (.tmp 88) rfl w.heap.size (vals (sch2 b 48)) rfl rfl _ _ G1.out (by rw [size64, vals_size, HL.out]) (by rw [vals_size, HL.out]; rfl) (vals_one _) ?_
    refine wpList_nil ?_
    go_wp2_with fail
    refine bodyPost_ret (results_cell_row rfl _ _ w.heap.size _ (vals (sch2 b 48)) _ _ rfl (setRow_heap _ _ _ _ _ _ G1.out) under64 rfl (by rw [size64, vals_size, HL.out])) rfl ⟨rfl, below_setRow HBE.out (Nat.le_refl _) _⟩

set_option maxHeartbeats 400000 in
set_option maxRecDepth 100000 in
theorem rtable_any (w : World) : Calls Tryd.prog 27 #[] w fun e w' => e = .returned (.agg (vals ktab)) ∧ Below w.heap.size w w' := by
  have g1 : (w.alloc (.cells zeros64 65)).heap[w.heap.size]? = some (.cells zeros64 65 (0, 0)) := heap_alloc_new _ _
  have hbel : Below w.heap.size w (w.alloc (.cells zeros64 65)) := (Below.refl _ _).alloc (Nat.le_refl _) _
  have G1 := Bx.mk g1; have HB := Bx.mk hbel; clear g1 hbel
  go_enter Tryd.func27, Tryd.ntmps27
  go_upto_region 1 with (fail)
  change Code.wp _ _ _ _ (w.alloc (.cells zeros64 65))
  generalize w.alloc (.cells zeros64 65) = W at G1 HB ⊢
  apply wp_region_lit
  refine wpList_buildFlatArrTo rfl 65 60 64 _ rfl .u32 ktab _ rfl under64 (by kernel_rfl) (by kernel_rfl) (by kernel_rfl) ?_
  refine wpList_store_row rfl 65 (.tmp 0) (.tmp 1) rfl w.heap.size (vals ktab) rfl rfl _ _ G1.out (by kernel_rfl) (by kernel_rfl) (vals_one _) ?_
  refine wpList_nil ?_
  go_wp2_with fail
  refine bodyPost_ret (results_cell_row rfl _ _ w.heap.size _ (vals ktab) _ _ rfl (setRow_heap _ _ _ _ _ _ G1.out) under64 rfl (by kernel_rfl)) rfl ⟨rfl, below_setRow HB.out (Nat.le_refl _) _⟩
def R0 : R8 := ⟨1779033703, 3144134277, 1013904242, 2773480762, 1359893119, 2600822924, 528734635, 1541459225⟩
set_option maxHeartbeats 400000 in
set_option maxRecDepth 100000 in
theorem rstart_any (w : World) : Calls Tryd.prog 28 #[] w fun e w' => e = .returned (.agg (vals R0.list)) ∧ Below w.heap.size w w' := by
  go_enter Tryd.func28, Tryd.ntmps28
  go_wp2
  refine bodyPost_ret (v := .agg (vals R0.list)) (by simp [results, Tryd.results28, go_sem]; rfl) rfl ⟨rfl, ?_⟩
  exact (Below.refl _ _).alloc (Nat.le_refl _) _
end Go.Proofs.YtfoknhogclfhhaaDoor
