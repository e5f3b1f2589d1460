/- The document's answer, part four: SHA of a text. -/
import Derived.Test.YtfoknhogclfhhaaDoorRefC
import Derived.Deep.DeepFit
namespace Go.Proofs.YtfoknhogclfhhaaDoor
set_option maxRecDepth 100000
open Go.RowKit
theorem pad_whole (l : List UInt8) : (pad l).length % 64 = 0 := by
  unfold pad; rw [List.length_append, tailOf_length]; unfold zerosOf; omega
theorem pad_pos (l : List UInt8) : 0 < (pad l).length := by
  unfold pad; rw [List.length_append, tailOf_length]; omega
theorem pad_le (l : List UInt8) : (pad l).length ≤ l.length + 72 := by
  unfold pad; rw [List.length_append, tailOf_length]; have := zerosOf_lt l.length; omega
def outF (l : List Int) (i : Nat) : UInt8 := byteOf (l.getD (i / 4) 0 / 2 ^ (24 - i % 4 * 8))
def outI (l : List Int) (t : Nat) : List UInt8 := (List.range t).map (outF l) ++ List.replicate (32 - t) 0
theorem outI_length (l : List Int) (t : Nat) (h : t ≤ 32) : (outI l t).length = 32 := by simp [outI]; omega
theorem outI_step (l : List Int) (t : Nat) (x : Int) (h : t < 32) (hx : l.getD (t / 4) 0 = x) : (outI l t).set t (byteOf (x / 2 ^ (24 - t % 4 * 8))) = outI l (t + 1) := by
  subst hx
  unfold outI
  rw [show 32 - t = (32 - (t + 1)) + 1 by omega, List.replicate_succ, set_at _ _ _ _ _ (by simp), List.range_succ, List.map_append]
  simp [outF]
theorem outI_whole (l : List Int) (h : l.length = 8) : outI l 32 = outOf l :=
  match l, h with
  | [a, b, c, d, e, f, g, k], _ => by simp [outI, outF, outOf, out4, List.range, List.range.loop]
set_option maxHeartbeats 3200000 in
set_option maxRecDepth 100000 in
theorem rsum_any (w : World) (s : ByteArray) (hs : s.size < 70368744177664) :
    Calls Tryd.prog 14 #[.string s] w fun e w' => e = .returned (hv (sha (sb s))) ∧ Below w.heap.size w w' := by
  have r0 : (w.alloc (.cells zeros32 38)).heap[w.heap.size]? = some (.cells zeros32 38 (0, 0)) := heap_alloc_new _ _
  have s0 : (w.alloc (.cells zeros32 38)).heap.size = w.heap.size + 1 := by simp
  have k0 : Below w.heap.size w (w.alloc (.cells zeros32 38)) := (Below.refl _ _).alloc (Nat.le_refl _) _
  have R0' := Bx.mk r0; have S0 := Bx.mk s0; have K0 := Bx.mk k0
  clear r0 s0 k0
  go_enter Tryd.func14, Tryd.ntmps14
  go_upto_region 1 with (fail)
  change Code.wp _ _ _ _ (w.alloc (.cells zeros32 38))
  generalize w.alloc (.cells zeros32 38) = W at R0' S0 K0 ⊢
  go_wp2_with fail
  refine (padded_any W s hs).mono ?_
  rintro e w1 ⟨v3, rfl, ho1, hb1⟩
  have O1 := Bx.mk ho1; have B1 := Bx.mk hb1; clear ho1 hb1
  go_wp2_with fail
  refine (rtable_any w1).mono ?_
  rintro e w2 ⟨rfl, hb2⟩
  have hkl : ktab.length = 64 := rfl
  have hsi : (Tryd.prog.info? 65).map (·.size) = some (vals ktab).size := by rw [size64, vals_size]; rfl
  have hso : zeros64.size = (vals ktab).size := by rw [vals_size]; rfl
  have HSI := Bx.mk hsi; have HSO := Bx.mk hso; have B2 := Bx.mk hb2; clear hsi hso hb2 hkl
  go_upto_region 3 with (refine wpList_store_row rfl 65 (.tmp 4) (.tmp 11) rfl w2.heap.size (vals ktab) rfl rfl _ zeros64 (heap_alloc_new _ _) HSI.out HSO.out (vals_one _) ?_; rw [setRow_alloc_new _ _ _ _ _ rfl])
  have x0 := heap_alloc_new w2 (.cells (vals ktab) 65)
  have x1 : Below W.heap.size W (w2.alloc (.cells (vals ktab) 65)) := (B1.out.trans (B2.out.mono B1.out.size)).alloc (Nat.le_trans B1.out.size B2.out.size) _
  have x2 : OwnF W.heap.size (w2.alloc (.cells (vals ktab) 65)) v3 (pad (sb s)) := (O1.out.kept (Keep.of_below B2.out (fun _ => False)) (fun _ _ h => h)).kept (Keep.alloc (fun _ => False) _ _) (fun _ _ h => h)
  have x3 : (w2.alloc (.cells (vals ktab) 65)).heap.size = w2.heap.size + 1 := by simp
  have x4 : W.heap.size ≤ w2.heap.size := Nat.le_trans B1.out.size B2.out.size
  generalize w2.alloc (.cells (vals ktab) 65) = U at x0 x1 x2 x3 ⊢
  generalize w2.heap.size = kb at x0 x3 x4 ⊢
  have X0 := Bx.mk x0; have X1 := Bx.mk x1; have X2 := Bx.mk x2; have X3 := Bx.mk x3
  clear x0 x1 x2 x3 O1 B1 B2 HSI HSO w2 w1
  go_wp2_with fail
  refine (rstart_any U).mono ?_
  rintro e w2 ⟨rfl, hb2⟩
  have hsi : (Tryd.prog.info? 61).map (·.size) = some (vals R0.list).size := by rw [size8, vals_size]; rfl
  have hso : (vals zeros8).size = (vals R0.list).size := by rw [vals_size]; rfl
  have HSI := Bx.mk hsi; have HSO := Bx.mk hso; have B2 := Bx.mk hb2; clear hsi hso hb2
  go_upto_region 4 with (refine wpList_store_row rfl 61 (.tmp 5) (.tmp 12) rfl w2.heap.size (vals R0.list) rfl rfl _ (vals zeros8) (heap_alloc_new _ _) HSI.out HSO.out (vals_one _) ?_; rw [setRow_alloc_new _ _ _ _ _ rfl])
  have y0 := (Below.heap_alloc w2 (.cells (vals R0.list) 61) kb (by have := B2.out.size; rw [X3.out] at this; omega)).trans ((B2.out.block _ (by rw [X3.out]; omega)).trans X0.out)
  have y1 : Below W.heap.size W (w2.alloc (.cells (vals R0.list) 61)) := (X1.out.trans (B2.out.mono X1.out.size)).alloc (Nat.le_trans X1.out.size B2.out.size) _
  have y2 : OwnF W.heap.size (w2.alloc (.cells (vals R0.list) 61)) v3 (pad (sb s)) := (X2.out.kept (Keep.of_below B2.out (fun _ => False)) (fun _ _ h => h)).kept (Keep.alloc (fun _ => False) _ _) (fun _ _ h => h)
  have y3 := heap_alloc_new w2 (.cells (vals R0.list) 61)
  have y4 : kb < w2.heap.size := by have := B2.out.size; rw [X3.out] at this; omega
  have y5 : ∀ k, v3.ownBlock = some k → k < w2.heap.size := fun k hk => Nat.lt_of_lt_of_le (X2.out.fresh k hk).2 B2.out.size
  have y6 : (w2.alloc (.cells (vals R0.list) 61)).heap.size = w2.heap.size + 1 := by simp
  generalize w2.alloc (.cells (vals R0.list) 61) = V at y0 y1 y2 y3 y6 ⊢
  generalize w2.heap.size = xb at y3 y4 y5 y6 ⊢
  have Y0 := Bx.mk y0; have Y1 := Bx.mk y1; have Y2 := Bx.mk y2; have Y3 := Bx.mk y3; have Y5 := Bx.mk y5; have Y6 := Bx.mk y6
  clear y0 y1 y2 y3 y5 y6 X0 X1 X2 X3 B2 HSI HSO w2 U
  obtain ⟨a3, c3, hv3, q1, q2, q3⟩ := Y2.out.shape
  subst hv3
  have hpw := pad_whole (sb s); have hpp := pad_pos (sb s); have hpl := pad_le (sb s)
  rw [sb_length] at hpl
  have HPW := Bx.mk hpw; clear hpw
  unfold maxLen at q2
  go_upto_block 0 with (fail)
  go_cut [] (fun wc => Keep (fun k => k = xb) V wc ∧ wc.heap[xb]? = some (.cells (vals (fold R0 (pad (sb s)) ((pad (sb s)).length / 64)).list) 61 (0, 0)))
  case first =>
    go_wp2_with fail
    go_loopw [6] (fun i wr => ∃ t : Nat, 64 * t ≤ (pad (sb s)).length ∧ i = .int .i64 (64 * (t : Int)) ∧ Keep (fun k => k = xb) V wr ∧ wr.heap[xb]? = some (.cells (vals (fold R0 (pad (sb s)) t).list) 61 (0, 0))) (fun i _ => (pad (sb s)).length - (intOf i).toNat)
    case atStart => exact ⟨0, by omega, rfl, Keep.refl _ _, Y3.out⟩
    case round =>
      obtain ⟨t, ht, rfl, hk, hx⟩ := hrel
      have HK := Bx.mk hk; have HX := Bx.mk hx; clear hk hx
      by_cases hlt : 64 * t < (pad (sb s)).length
      · have hlt2 : 64 * (t + 1) ≤ (pad (sb s)).length := by have := HPW.out; omega
        have hsrc := (Y2.out.kept HK.out (fun j hj e => by have := Y5.out j hj; omega)).src
        obtain ⟨a', cap', he, h1, h2, h3, h4⟩ := hsrc
        cases he
        obtain ⟨B, off, rfl, hB, hc⟩ := h4 (by intro e; simp [e] at hpp)
        have hcb : ∀ i, i < 64 → wr.cell? ⟨B, off + 64 * t + i, none⟩ = some (.int .u8 ((ints (((pad (sb s)).drop (64 * t)).take 64)).getD i 0)) := fun i hi => by
          rw [Nat.add_assoc, hc (64 * t + i) (by omega), ints_getD _ _ (by simp; omega)]; simp [bcell]
        have hcall := fun n => rblock_any (wr.drewN n) B (off + 64 * t) (c3 - 64 * t) _ (fold R0 (pad (sb s)) t) hcb hB (by omega)
        have hkt : ∀ n, (wr.drewN n).heap[kb]? = some (.cells (vals ktab) 65 (0, 0)) := fun n => (HK.out.block kb (by rw [Y6.out]; omega) (by omega)).trans Y0.out
        have HC := Bx.mk hcall; have HKT := Bx.mk hkt
        have hne : ¬ c3 = 64 * t := by omega
        have HNE := Bx.mk hne
        clear hcall hkt hcb hc h3 h4 hB
        go_wp2_with fail
        refine wp_region_quiet_tail (C := fun w' => ∃ n, w' = wr.drewN n) 7 (by kernel_rfl) (by kernel_rfl) ⟨1, rfl⟩ ?_
        simp only [List.take_succ_cons, List.take_zero, List.drop_succ_cons, List.drop_zero]
        refine wpQuiet_load_row rfl 61 (.tmp 5) rfl xb rfl _ _ _ _ (fun w' hw' => by obtain ⟨n, rfl⟩ := hw'; exact HX.out) under8 rfl (by rw [size8, vals_size]; rfl) ?_
        simp only [Act.put, List.setIfInBounds_toArray, List.set_cons_succ, List.set_cons_zero]
        go_big_quiet_step (fail)
        go_big_quiet_step (fail)
        go_big_quiet_step (fail)
        go_big_quiet_step (fail)
        go_big_quiet_step (fail)
        refine wpQuiet_load_row rfl 65 (.tmp 4) rfl kb rfl _ _ _ _ (fun w' hw' => by obtain ⟨n, rfl⟩ := hw'; exact HKT.out n) under64 rfl (by rw [size64, vals_size]; rfl) ?_
        simp only [Act.put, List.setIfInBounds_toArray, List.set_cons_succ, List.set_cons_zero]
        refine wpQuiet_nil ?_
        intro _ hw'
        obtain ⟨nr, hw''⟩ := hw'
        subst hw''
        go_wp2_with fail
        refine (HC.out nr).mono ?_
        rintro e w4 ⟨rfl, hb4⟩
        have hx4 := (hb4.block xb (Array.getElem?_eq_some_iff.1 HX.out).1).trans HX.out
        have hk4 : Keep (fun k => k = xb) V w4 := HK.out.trans ((Keep.drewN (fun _ => False) wr nr).trans (Keep.of_below hb4 _) (fun _ _ h => h)) (fun _ _ h => h.elim)
        have hsi : (Tryd.prog.info? 61).map (·.size) = some (vals (fold R0 (pad (sb s)) (t + 1)).list).size := by rw [size8, vals_size]; rfl
        have hso : (vals (fold R0 (pad (sb s)) t).list).size = (vals (fold R0 (pad (sb s)) (t + 1)).list).size := by rw [vals_size, vals_size]; rfl
        have HX4 := Bx.mk hx4; have HK4 := Bx.mk hk4; have HSI := Bx.mk hsi; have HSO := Bx.mk hso; clear hx4 hk4 hsi hso hb4
        go_wp2_with (refine wpList_store_row rfl 61 (.tmp 5) (.tmp 26) rfl xb (vals (fold R0 (pad (sb s)) (t + 1)).list) rfl rfl _ _ HX4.out HSI.out HSO.out (vals_one _) ?_)
        go_roundw
        case rel => exact ⟨t + 1, hlt2, by go_num, HK4.out.trans (Keep.setRow _ _ _) (fun _ _ h => h), setRow_heap _ _ _ _ _ _ HX4.out⟩
        case measure => simp [intOf]; omega
      · have e1 : (pad (sb s)).length / 64 = t := by omega
        rw [← e1] at HX
        have E1 := Bx.mk e1; clear e1
        go_wp2_with fail
        go_meet
        case rel => exact ⟨HK.out, HX.out⟩
  case rest =>
    obtain ⟨hk, hx⟩ := hcut
    have HK := Bx.mk hk; have HX := Bx.mk hx; clear hk hx
    generalize hQ : fold R0 (pad (sb s)) ((pad (sb s)).length / 64) = Q at HX
    have HQ := Bx.mk hQ; clear hQ
    have hxs : xb < wc.heap.size := (Array.getElem?_eq_some_iff.1 HX.out).1
    go_upto_block 2 with (fail)
    go_cut [] (fun wd => wd = wc.alloc (.cells (ocells (outOf Q.list)) 38))
    case first =>
      go_wp2_with fail
      go_loopw [8] (fun i wr => ∃ t : Nat, t ≤ 32 ∧ i = .int .i64 t ∧ wr = wc.alloc (.cells (ocells (outI Q.list t)) 38)) (fun i _ => 32 - (intOf i).toNat)
      case atStart => exact ⟨0, by omega, rfl, rfl⟩
      case round =>
        obtain ⟨t, ht, rfl, rfl⟩ := hrel
        by_cases hlt : t < 32
        · have c0 : (wc.alloc (.cells (ocells (outI Q.list t)) 38)).cell? ⟨xb, t / 4, none⟩ = some (.int .u32 (Q.list.getD (t / 4) 0)) := by
            rw [World.cell?_alloc_past _ _ _ hxs]; exact cell_of_vals HX.out (t / 4) (by simp [R8.list]; omega)
          have c1 : (wc.alloc (.cells (ocells (outI Q.list t)) 38)).cell? ⟨wc.heap.size, t, none⟩ = some (bcell ((outI Q.list t)[t]'(by rw [outI_length _ _ ht]; exact hlt))) := by
            rw [World.cell?_alloc_at _ _ _ _ rfl, ocells_get _ _ (by rw [outI_length _ _ ht]; exact hlt)]
          have f1 : (wc.alloc (.cells (ocells (outI Q.list t)) 38)).frozen? ⟨wc.heap.size, t, none⟩ = false := World.frozen?_alloc_at _ _ _ _ rfl
          generalize hW : wc.alloc (.cells (ocells (outI Q.list t)) 38) = Z at c0 c1 f1 ⊢
          generalize hx : Q.list.getD (t / 4) 0 = x at c0
          generalize (outI Q.list t)[t]'(by rw [outI_length _ _ ht]; exact hlt) = y at c1
          have HW := Bx.mk hW; have HXX := Bx.mk hx; clear hW hx
          go_wp2_with fail
          go_roundw
          case rel =>
            refine ⟨t + 1, hlt, by go_num, ?_⟩
            rw [← HW.out, ← bcell_byteOf, World.setCell_alloc_at _ _ _ _ _ rfl, ocells_set, outI_step _ _ _ hlt HXX.out]
          case measure => simp [intOf]; omega
        · obtain rfl : t = 32 := by omega
          go_wp2_with fail
          go_meet
          case rel => rw [outI_whole _ rfl]
    case rest =>
      subst hcut
      have hwc : w.heap.size < wc.heap.size := by have := (Y1.out.size); rw [S0.out] at this; have := HK.out.size; omega
      have hVx : W.heap.size ≤ xb := by omega
      have q0 : (wc.alloc (.cells (ocells (outOf Q.list)) 38)).heap[wc.heap.size]? = some (.cells (ocells (outOf Q.list)) 38 (0, 0)) := heap_alloc_new _ _
      have q1 : (wc.alloc (.cells (ocells (outOf Q.list)) 38)).heap[w.heap.size]? = some (.cells zeros32 38 (0, 0)) := by
        rw [Below.heap_alloc _ _ _ hwc]
        refine (HK.out.block _ (by have := Y1.out.size; rw [S0.out] at this; omega) (by rw [S0.out] at hVx; omega)).trans ?_
        exact (Y1.out.block _ (by rw [S0.out]; omega)).trans R0'.out
      have q2 : Below w.heap.size w (wc.alloc (.cells (ocells (outOf Q.list)) 38)) := (K0.out.trans ((Y1.out.mono (by rw [S0.out]; omega)).trans (HK.out.below (by have := Y1.out.size; rw [S0.out] at this; omega) (fun k hk => by rw [S0.out] at hVx; omega)))).alloc (by omega) _
      generalize wc.alloc (.cells (ocells (outOf Q.list)) 38) = Y at q0 q1 q2 ⊢
      have Q0 := Bx.mk q0; have Q1 := Bx.mk q1; have Q2 := Bx.mk q2
      clear q0 q1 q2 q3
      have hsz : (Tryd.prog.info? 38).map (·.size) = some (ocells (outOf Q.list)).size := by rw [sizeH, ocells_size, outOf_length]; rfl
      have hso : zeros32.size = (ocells (outOf Q.list)).size := by unfold zeros32; rw [ocells_size, ocells_size, outOf_length]; rfl
      have HSZ := Bx.mk hsz; have HSO := Bx.mk hso; clear hsz hso
      go_upto_region 13 with (fail)
      apply wp_region_lit
      refine wpList_load_row rfl 38 (.tmp 7) rfl wc.heap.size rfl _ _ _ _ Q0.out underH rfl HSZ.out ?_
      refine wpList_store_row rfl 38 (.tmp 2) (.tmp 43) rfl w.heap.size (ocells (outOf Q.list)) rfl rfl _ _ Q1.out HSZ.out HSO.out (ocells_one _) ?_
      refine wpList_nil ?_
      go_wp2_with fail
      refine bodyPost_ret (results_cell_row rfl _ _ w.heap.size _ (ocells (outOf Q.list)) _ _ rfl (setRow_heap _ _ _ _ _ _ Q1.out) underH rfl HSZ.out) rfl ⟨?_, below_setRow Q2.out (Nat.le_refl _) _⟩
      have hs : sha (sb s) = outOf Q.list := by rw [← HQ.out]; rfl
      rw [hs]; rfl
end Go.Proofs.YtfoknhogclfhhaaDoor
