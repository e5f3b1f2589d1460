/- The document's answer, part two: the eight words behind a block. -/
import Derived.Test.YtfoknhogclfhhaaDoorRefA
namespace Go.Proofs.YtfoknhogclfhhaaDoor
set_option maxRecDepth 100000
open Go.RowKit
theorem setRow_alloc_new (w : World) (X Y : Array Value) (T : TypeId) (n : Nat) (hn : n = w.heap.size) : (w.alloc (.cells X T)).setRow n Y = w.alloc (.cells Y T) := by
  subst hn
  unfold World.setRow World.alloc
  congr 1
  apply Array.ext_getElem?
  intro k
  by_cases hk : k = w.heap.size
  · subst hk; rw [Array.getElem?_modify]; simp
  · simp [Array.getElem?_modify, Array.getElem?_push, hk, Ne.symm hk]
theorem cell_setRow_at (w : World) (g j : Nat) (old cs : Array Value) (T : TypeId) (k : Nat) (v : Value) (hg : w.heap[g]? = some (.cells old T (0, 0))) (hv : cs[j]? = some v) :
    ((w.setRow g cs).drewN k).cell? ⟨g, j, none⟩ = some v := by
  rw [World.cell?_drewN, cell_of_row _ g j cs T (0, 0) (setRow_heap _ _ _ _ _ _ hg), hv]
theorem cell_row8 (w : World) (g k : Nat) (r : R8) (old : Array Value) (hg : w.heap[g]? = some (.cells old 61 (0, 0))) (j : Nat) (hj : j < 8) :
    ((w.setRow g (vals r.list)).drewN k).cell? ⟨g, j, none⟩ = some (.int .u32 (r.list.getD j 0)) :=
  cell_setRow_at w g j old _ _ k _ hg (vals_get _ _ (by simpa [R8.list] using hj))
theorem cell_row_other (w : World) (g k b j : Nat) (cs : Array Value) (v : Value) (hb : b ≠ g) (h : w.cell? ⟨b, j, none⟩ = some v) : ((w.setRow g cs).drewN k).cell? ⟨b, j, none⟩ = some v := by
  rw [World.cell?_drewN, cell_setRow_other _ _ _ _ (by simpa using hb), h]
theorem heap_row_other (w : World) (g k b : Nat) (cs : Array Value) (o : Option Obj) (hb : b ≠ g) (h : w.heap[b]? = o) : ((w.setRow g cs).drewN k).heap[b]? = o := by
  rw [World.heap_drewN, setRow_other _ _ _ _ hb, h]
theorem setRow_drewN' (w : World) (n g : Nat) (cs : Array Value) : (w.drewN n).setRow g cs = (w.setRow g cs).drewN n := rfl
theorem below_drewN' {B : Nat} {a w : World} (h : Below B a w) (n : Nat) : Below B a (w.drewN n) := ⟨h.os, h.tape, h.output, h.size, h.block⟩
def zeros8 : List Int := [0, 0, 0, 0, 0, 0, 0, 0]
theorem add_at' (s : R8) (b : List Int) (t : Nat) (ht : t < 8) :
    (((blk s b).list.take t ++ (rnds (sched b) s 64).list.drop t).getD t 0 + s.list.getD t 0) % 4294967296 = (blk s b).list.getD t 0 := by
  have h8 : t = 0 ∨ t = 1 ∨ t = 2 ∨ t = 3 ∨ t = 4 ∨ t = 5 ∨ t = 6 ∨ t = 7 := by omega
  unfold blk
  generalize rnds (sched b) s 64 = r
  rcases h8 with rfl | rfl | rfl | rfl | rfl | rfl | rfl | rfl <;> (simp [R8.add, R8.list]; rw [Int.add_comm])
theorem take_set (l r : List Int) (t : Nat) (h : l.length = r.length) (ht : t < l.length) : (l.take t ++ r.drop t).set t (l.getD t 0) = l.take (t + 1) ++ r.drop (t + 1) := by
  apply List.ext_getElem?
  intro j
  by_cases hj : j = t
  · subst hj; simp [List.getElem?_set, List.getElem?_append]; rw [if_pos (by omega), if_pos (by omega)]; simp [List.getElem?_eq_getElem ht]
  · rw [List.getElem?_set_ne (Ne.symm hj)]
    simp [List.getElem?_append, List.getElem?_take]
    by_cases h1 : j < t
    · rw [if_pos (by omega), if_pos (by omega), if_pos (by omega), if_pos (by omega)]
    · rw [if_neg (by omega), if_neg (by omega)]; congr 1; omega
set_option maxHeartbeats 3200000 in
set_option maxRecDepth 100000 in
theorem rblock_any (w : World) (B off cap : Nat) (b : List Int) (s : R8)
    (hb : ∀ i, i < 64 → w.cell? ⟨B, off + i, none⟩ = some (.int .u8 (b.getD i 0))) (hBs : B < w.heap.size) (hcap : 64 ≤ cap) :
    Calls Tryd.prog 29 #[.agg (vals s.list), .slice (some ⟨B, off, none⟩) 64 cap, .agg (vals ktab)] w fun e w' => e = .returned (.agg (vals (blk s b).list)) ∧ Below w.heap.size w w' := by
  go_enter Tryd.func29, Tryd.ntmps29
  have Hb := Bx.mk hb; clear hb
  have u0 : (((w.alloc (.cells (vals s.list) 61)).alloc (.cells (vals ktab) 65)).alloc (.cells (vals zeros8) 61)).heap[w.heap.size]? = some (.cells (vals s.list) 61 (0, 0)) := by rw [Below.heap_alloc _ _ _ (by simp; omega), heap_alloc2_old]
  have u1 : (((w.alloc (.cells (vals s.list) 61)).alloc (.cells (vals ktab) 65)).alloc (.cells (vals zeros8) 61)).heap[w.heap.size + 1]? = some (.cells (vals ktab) 65 (0, 0)) := by rw [Below.heap_alloc _ _ _ (by simp), heap_alloc2_new]
  have u2 : (((w.alloc (.cells (vals s.list) 61)).alloc (.cells (vals ktab) 65)).alloc (.cells (vals zeros8) 61)).heap[w.heap.size + 2]? = some (.cells (vals zeros8) 61 (0, 0)) := heap_alloc2_new (w.alloc _) _ _ |> fun h => by simpa using h
  have us : (((w.alloc (.cells (vals s.list) 61)).alloc (.cells (vals ktab) 65)).alloc (.cells (vals zeros8) 61)).heap.size = w.heap.size + 3 := by simp
  have ub : Below w.heap.size w (((w.alloc (.cells (vals s.list) 61)).alloc (.cells (vals ktab) 65)).alloc (.cells (vals zeros8) 61)) := (((Below.refl _ _).alloc (Nat.le_refl _) _).alloc (by simp) _).alloc (by simp; omega) _
  have U0 := Bx.mk u0; have U1 := Bx.mk u1; have U2 := Bx.mk u2; have US := Bx.mk us; have UB := Bx.mk ub
  clear u0 u1 u2 us ub
  go_upto_region 1 with (fail)
  change Code.wp _ _ _ _ (((w.alloc (.cells (vals s.list) 61)).alloc (.cells (vals ktab) 65)).alloc (.cells (vals zeros8) 61))
  generalize (((w.alloc (.cells (vals s.list) 61)).alloc (.cells (vals ktab) 65)).alloc (.cells (vals zeros8) 61)) = U at U0 U1 U2 US UB ⊢
  have hc := rsched_any U B off cap b (fun i hi => (Below.cell (p := ⟨B, off + i, none⟩) UB.out hBs).trans (Hb.out i hi)) (by rw [US.out]; omega) hcap
  have HC := Bx.mk hc; clear hc
  go_wp2_with fail
  refine HC.out.mono ?_
  rintro e w1 ⟨rfl, hb1⟩
  have HB1 := Bx.mk hb1; clear hb1
  have hsi : (Tryd.prog.info? 65).map (·.size) = some (vals (sched b)).size := by rw [size64, vals_size, sched, sch2_length]
  have hso : zeros64.size = (vals (sched b)).size := by rw [vals_size, sched, sch2_length]; rfl
  have HSI := Bx.mk hsi; have HSO := Bx.mk hso; clear hsi hso
  go_upto_region 2 with (refine wpList_store_row rfl 65 (.tmp 7) (.tmp 14) rfl w1.heap.size (vals (sched b)) rfl rfl _ zeros64 (heap_alloc_new _ _) HSI.out HSO.out (vals_one _) ?_; rw [setRow_alloc_new _ _ _ _ _ rfl]; generalize hX : w1.alloc (.cells (vals (sched b)) 65) = X; have HX := Bx.mk hX; clear hX)
  have hM : w.heap.size + 3 ≤ w1.heap.size := by have := HB1.out.size; rw [US.out] at this; exact this
  have x0 := (Below.heap_alloc w1 (.cells (vals (sched b)) 65) w.heap.size (by omega)).trans ((HB1.out.block _ (by rw [US.out]; omega)).trans U0.out)
  have x1 := (Below.heap_alloc w1 (.cells (vals (sched b)) 65) (w.heap.size + 1) (by omega)).trans ((HB1.out.block _ (by rw [US.out]; omega)).trans U1.out)
  have x2 := (Below.heap_alloc w1 (.cells (vals (sched b)) 65) (w.heap.size + 2) (by omega)).trans ((HB1.out.block _ (by rw [US.out]; omega)).trans U2.out)
  have x3 := heap_alloc_new w1 (.cells (vals (sched b)) 65)
  have xs : (w1.alloc (.cells (vals (sched b)) 65)).heap.size = w1.heap.size + 1 := by simp
  have xb : Below w.heap.size w (w1.alloc (.cells (vals (sched b)) 65)) := (UB.out.trans (HB1.out.mono (by rw [US.out]; omega))).alloc (by omega) _
  rw [HX.out] at x0 x1 x2 x3 xs xb
  generalize w1.heap.size = M at hM x3 xs ⊢
  clear HX
  have X0 := Bx.mk x0; have X1 := Bx.mk x1; have X2 := Bx.mk x2; have X3 := Bx.mk x3; have XS := Bx.mk xs; have XB := Bx.mk xb
  clear x0 x1 x2 x3 xs xb HB1 U0 U1 U2 US UB Hb
  apply wp_region_lit
  refine wpList_load_row rfl 61 (.tmp 3) rfl w.heap.size rfl _ _ _ _ X0.out under8 rfl (by rw [size8, vals_size]; rfl) ?_
  have hsi : (Tryd.prog.info? 61).map (·.size) = some (vals s.list).size := by rw [size8, vals_size]; rfl
  have hso : (vals zeros8).size = (vals s.list).size := by rw [vals_size, vals_size]; rfl
  have HSI := Bx.mk hsi; have HSO := Bx.mk hso; clear hsi hso
  go_upto_region 3 with (refine wpList_store_row rfl 61 (.tmp 8) (.tmp 15) rfl X.heap.size (vals s.list) rfl rfl _ (vals zeros8) (heap_alloc_new _ _) HSI.out HSO.out (vals_one _) ?_; rw [setRow_alloc_new _ _ _ _ _ rfl])
  have y0 := (Below.heap_alloc X (.cells (vals s.list) 61) w.heap.size (by rw [XS.out]; omega)).trans X0.out
  have y1 := (Below.heap_alloc X (.cells (vals s.list) 61) (w.heap.size + 1) (by rw [XS.out]; omega)).trans X1.out
  have y2 := (Below.heap_alloc X (.cells (vals s.list) 61) (w.heap.size + 2) (by rw [XS.out]; omega)).trans X2.out
  have y3 := (Below.heap_alloc X (.cells (vals s.list) 61) M (by rw [XS.out]; omega)).trans X3.out
  have y4 := heap_alloc_new X (.cells (vals s.list) 61)
  rw [XS.out] at y4
  have yb : Below w.heap.size w (X.alloc (.cells (vals s.list) 61)) := XB.out.alloc (by rw [XS.out]; omega) _
  rw [XS.out]
  generalize X.alloc (.cells (vals s.list) 61) = V0 at y0 y1 y2 y3 y4 yb ⊢
  have g0 := Bx.mk y0; have g1 := Bx.mk y1; have g2 := Bx.mk y2; have g3 := Bx.mk y3; have g4 := Bx.mk y4; have gb := Bx.mk yb
  clear y0 y1 y2 y3 y4 yb X0 X1 X2 X3 XS XB
  clear X
  go_upto_block 0 with (fail)
  go_cut [] (fun wc => ∃ k : Nat, wc = ((V0.setRow (M + 1) (vals ((rnds (sched b) s 64).list))).drewN k))
  case first =>
    go_wp2_with fail
    go_loopw [9] (fun i wr => ∃ (t k : Nat), t ≤ 64 ∧ i = .int .i64 t ∧ wr = ((V0.setRow (M + 1) (vals ((rnds (sched b) s t).list))).drewN k)) (fun i _ => 64 - (intOf i).toNat)
    case atStart =>
      exact ⟨0, 0, by omega, rfl, (setRow_self V0 (M + 1) _ _ _ g4.out).symm⟩
    case round =>
      obtain ⟨t3, k3, ht3, rfl, rfl⟩ := hrel
      by_cases hlt3 : t3 < 64
      · generalize hr : rnds (sched b) s t3 = r
        obtain ⟨ra, rb, rc, rd, re, rf, rg, rh⟩ := r
        have HR := Bx.mk hr; clear hr
        have e0 := cell_row_other V0 (M + 1) k3 M t3 (vals (R8.list ⟨ra, rb, rc, rd, re, rf, rg, rh⟩)) _ (by omega) (cell_of_vals g3.out t3 (by rw [sched, sch2_length]; omega))
        have e1 := cell_row_other V0 (M + 1) k3 (w.heap.size + 1) t3 (vals (R8.list ⟨ra, rb, rc, rd, re, rf, rg, rh⟩)) _ (by omega) (cell_of_vals g1.out t3 (by simp [ktab]; omega))
        have d0 := cell_row8 V0 (M + 1) k3 ⟨ra, rb, rc, rd, re, rf, rg, rh⟩ _ g4.out 0 (by decide)
        have d1 := cell_row8 V0 (M + 1) k3 ⟨ra, rb, rc, rd, re, rf, rg, rh⟩ _ g4.out 1 (by decide)
        have d2 := cell_row8 V0 (M + 1) k3 ⟨ra, rb, rc, rd, re, rf, rg, rh⟩ _ g4.out 2 (by decide)
        have d3 := cell_row8 V0 (M + 1) k3 ⟨ra, rb, rc, rd, re, rf, rg, rh⟩ _ g4.out 3 (by decide)
        have d4 := cell_row8 V0 (M + 1) k3 ⟨ra, rb, rc, rd, re, rf, rg, rh⟩ _ g4.out 4 (by decide)
        have d5 := cell_row8 V0 (M + 1) k3 ⟨ra, rb, rc, rd, re, rf, rg, rh⟩ _ g4.out 5 (by decide)
        have d6 := cell_row8 V0 (M + 1) k3 ⟨ra, rb, rc, rd, re, rf, rg, rh⟩ _ g4.out 6 (by decide)
        have d7 := cell_row8 V0 (M + 1) k3 ⟨ra, rb, rc, rd, re, rf, rg, rh⟩ _ g4.out 7 (by decide)
        generalize hx0 : (sched b).getD t3 0 = wt at e0
        generalize hx1 : ktab.getD t3 0 = kt at e1
        have H0 := Bx.mk hx0; have H1 := Bx.mk hx1; clear hx0 hx1
        generalize hY : ((V0.setRow (M + 1) (vals (R8.list ⟨ra, rb, rc, rd, re, rf, rg, rh⟩))).drewN k3) = Y at d0 d1 d2 d3 d4 d5 d6 d7 e0 e1 ⊢
        have HY := Bx.mk hY; clear hY
        dsimp only [R8.list, List.getD, List.getElem?_cons_zero, List.getElem?_cons_succ, Option.getD_some] at d0 d1 d2 d3 d4 d5 d6 d7
        go_upto_region 6 with (fail)
        go_cut [10] (fun v wc => v = .int .u32 (rndX kt wt ⟨ra, rb, rc, rd, re, rf, rg, rh⟩) ∧ ∃ k, wc = Y.drewN k)
        case first =>
          go_quiet ((go_at_call 39; exact Calls.quiet_of (rturn_any _ _ _ (by omega) (by omega))))
          go_wp2_with fail
          go_meet
          case rel => exact ⟨rfl, _, rfl⟩
        case rest =>
          obtain ⟨rfl, k6, rfl⟩ := hcut
          have f0 : (Y.drewN k6).cell? ⟨M + 1, 0, none⟩ = some (.int .u32 ra) := d0
          have f1 : (Y.drewN k6).cell? ⟨M + 1, 1, none⟩ = some (.int .u32 rb) := d1
          have f2 : (Y.drewN k6).cell? ⟨M + 1, 2, none⟩ = some (.int .u32 rc) := d2
          have f3 : (Y.drewN k6).cell? ⟨M + 1, 3, none⟩ = some (.int .u32 rd) := d3
          have f4 : (Y.drewN k6).cell? ⟨M + 1, 4, none⟩ = some (.int .u32 re) := d4
          have f5 : (Y.drewN k6).cell? ⟨M + 1, 5, none⟩ = some (.int .u32 rf) := d5
          have f6 : (Y.drewN k6).cell? ⟨M + 1, 6, none⟩ = some (.int .u32 rg) := d6
          have f7 : (Y.drewN k6).cell? ⟨M + 1, 7, none⟩ = some (.int .u32 rh) := d7
          clear d0 d1 d2 d3 d4 d5 d6 d7
          generalize hY2 : Y.drewN k6 = Y2 at f0 f1 f2 f3 f4 f5 f6 f7 ⊢
          have HY2 := Bx.mk hY2; clear hY2
          generalize hxx : rndX kt wt ⟨ra, rb, rc, rd, re, rf, rg, rh⟩ = xx
          have HX := Bx.mk hxx; clear hxx
          go_upto_region 7 with (fail)
          go_cut [11] (fun v wc => v = .int .u32 (rndY ⟨ra, rb, rc, rd, re, rf, rg, rh⟩) ∧ ∃ k, wc = Y2.drewN k)
          case first =>
            go_quiet ((go_at_call 39; exact Calls.quiet_of (rturn_any _ _ _ (by omega) (by omega))))
            go_wp2_with fail
            go_meet
            case rel => exact ⟨rfl, _, rfl⟩
          case rest =>
           obtain ⟨rfl, k7, rfl⟩ := hcut
           generalize hyy : rndY ⟨ra, rb, rc, rd, re, rf, rg, rh⟩ = yy
           have HYY := Bx.mk hyy; clear hyy
           have hq : (Y2.drewN k7).heap[M + 1]? = some (.cells (vals (R8.list ⟨ra, rb, rc, rd, re, rf, rg, rh⟩)) 61 (0, 0)) := by
            rw [← HY2.out, ← HY.out]
            exact setRow_heap _ _ _ _ _ _ g4.out
           have HQ := Bx.mk hq; clear hq
           have hsi : (Tryd.prog.info? 61).map (·.size) = some (vals [(xx + yy) % 4294967296, ra, rb, rc, (rd + xx) % 4294967296, re, rf, rg]).size := by rw [size8, vals_size]; rfl
           have hso : (vals (R8.list ⟨ra, rb, rc, rd, re, rf, rg, rh⟩)).size = (vals [(xx + yy) % 4294967296, ra, rb, rc, (rd + xx) % 4294967296, re, rf, rg]).size := by rw [vals_size, vals_size]; rfl
           have HSI := Bx.mk hsi; have HSO := Bx.mk hso; clear hsi hso
           go_wp2_with (refine wpList_store_row rfl 61 (.tmp 8) (.tmp 103) rfl (M + 1) (vals [(xx + yy) % 4294967296, ra, rb, rc, (rd + xx) % 4294967296, re, rf, rg]) rfl rfl _ _ HQ.out HSI.out HSO.out (vals_one _) ?_)
           go_roundw
           case rel =>
             refine ⟨t3 + 1, k3 + (k6 + k7), by omega, by go_num, ?_⟩
             have hs : (rnds (sched b) s (t3 + 1)).list = [(xx + yy) % 4294967296, ra, rb, rc, (rd + xx) % 4294967296, re, rf, rg] := by
               have : rnds (sched b) s (t3 + 1) = rnd kt wt ⟨ra, rb, rc, rd, re, rf, rg, rh⟩ := by rw [← H0.out, ← H1.out, ← HR.out]; rfl
               rw [this, ← HX.out, ← HYY.out]; rfl
             rw [hs, ← HY2.out, ← HY.out, World.drewN_drewN, World.drewN_drewN, setRow_drewN', setRow_setRow]
           case measure => simp [intOf]; omega
      · obtain rfl : t3 = 64 := by omega
        go_wp2_with fail
        go_meet
        case rel => exact ⟨k3, rfl⟩
  case rest =>
    obtain ⟨k, rfl⟩ := hcut
    generalize hr : rnds (sched b) s 64 = r
    have HR := Bx.mk hr; clear hr
    go_upto_block 2 with (fail)
    go_cut [] (fun wc => ∃ k : Nat, wc = ((V0.setRow (M + 1) (vals ((blk s b).list))).drewN k))
    case first =>
      go_wp2_with fail
      go_loopw [12] (fun i wr => ∃ (t k : Nat), t ≤ 8 ∧ i = .int .i64 t ∧ wr = ((V0.setRow (M + 1) (vals ((blk s b).list.take t ++ r.list.drop t))).drewN k)) (fun i _ => 8 - (intOf i).toNat)
      case atStart => exact ⟨0, k, by omega, rfl, rfl⟩
      case round =>
        obtain ⟨t4, k4, ht4, rfl, rfl⟩ := hrel
        by_cases hlt4 : t4 < 8
        · have hlen : ((blk s b).list.take t4 ++ r.list.drop t4).length = 8 := by simp [R8.list]; omega
          have d0 := cell_setRow_at V0 (M + 1) t4 _ _ 61 k4 _ g4.out (vals_get ((blk s b).list.take t4 ++ r.list.drop t4) t4 (by omega))
          have d1 := cell_row_other V0 (M + 1) k4 w.heap.size t4 (vals ((blk s b).list.take t4 ++ r.list.drop t4)) _ (by omega) (cell_of_vals g0.out t4 (by simpa [R8.list] using hlt4))
          have hfz : ((V0.setRow (M + 1) (vals ((blk s b).list.take t4 ++ r.list.drop t4))).drewN k4).frozen? ⟨M + 1, t4, none⟩ = false := by
            rw [World.frozen?_drewN]; exact frozen_of_row _ _ _ _ _ (setRow_heap _ _ _ _ _ _ g4.out)
          clear hlen
          generalize hx0 : ((blk s b).list.take t4 ++ r.list.drop t4).getD t4 0 = x0 at d0
          generalize hx1 : s.list.getD t4 0 = x1 at d1
          have H0 := Bx.mk hx0; have H1 := Bx.mk hx1; clear hx0 hx1
          generalize hY : ((V0.setRow (M + 1) (vals ((blk s b).list.take t4 ++ r.list.drop t4))).drewN k4) = Y at d0 d1 hfz ⊢
          have HY := Bx.mk hY; clear hY
          go_wp2_with fail
          refine wp_region_quiet_tail (C := fun w' => ∃ n, w' = Y.drewN n) 9 (by kernel_rfl) (by kernel_rfl) ⟨1, rfl⟩ ?_
          simp only [List.take_succ_cons, List.take_zero, List.drop_succ_cons, List.drop_zero]
          repeat go_big_quiet_step (fail)
          refine wpQuiet_nil ?_
          intro _ hw'
          obtain ⟨nr, hw''⟩ := hw'
          subst hw''
          go_wp2_with fail
          go_roundw
          case rel =>
            refine ⟨t4 + 1, k4 + nr, by omega, by go_num, ?_⟩
            have he : (x0 + x1) % 4294967296 = (blk s b).list.getD t4 0 := by
              rw [← H0.out, ← H1.out, ← HR.out]
              exact add_at' s b t4 hlt4
            rw [he, ← HY.out, World.drewN_drewN, setCell_drewN', setCell_eq_setRow _ _ _ _ _ _ _ (setRow_heap _ _ _ _ _ _ g4.out), setRow_setRow, vals_set, take_set (blk s b).list r.list t4 rfl (by simpa [R8.list] using hlt4)]
          case measure => simp [intOf]; omega
        · obtain rfl : t4 = 8 := by omega
          go_wp2_with fail
          go_meet
          case rel => exact ⟨k4, rfl⟩
    case rest =>
      obtain ⟨k, rfl⟩ := hcut
      have q0 : ((V0.setRow (M + 1) (vals ((blk s b).list))).drewN k).heap[M + 1]? = some (.cells (vals (blk s b).list) 61 (0, 0)) := setRow_heap _ _ _ _ _ _ g4.out
      have q1 : ((V0.setRow (M + 1) (vals ((blk s b).list))).drewN k).heap[w.heap.size + 2]? = some (.cells (vals zeros8) 61 (0, 0)) := heap_row_other _ _ _ _ _ _ (by omega) g2.out
      have qb : Below w.heap.size w ((V0.setRow (M + 1) (vals ((blk s b).list))).drewN k) := below_drewN' (below_setRow gb.out (by omega) _) k
      generalize ((V0.setRow (M + 1) (vals ((blk s b).list))).drewN k) = Y at q0 q1 qb ⊢
      have Q0 := Bx.mk q0; have Q1 := Bx.mk q1; have QB := Bx.mk qb; clear q0 q1 qb
      go_upto_region 13 with (fail)
      apply wp_region_lit
      refine wpList_load_row rfl 61 (.tmp 8) rfl (M + 1) rfl _ _ _ _ Q0.out under8 rfl (by rw [size8, vals_size]; rfl) ?_
      refine wpList_store_row rfl 61 (.tmp 6) (.tmp 117) rfl (w.heap.size + 2) (vals (blk s b).list) rfl rfl _ _ Q1.out (by rw [size8, vals_size]; rfl) (by rw [vals_size, vals_size]; rfl) (vals_one _) ?_
      refine wpList_nil ?_
      go_wp2_with fail
      refine bodyPost_ret (results_cell_row rfl _ _ (w.heap.size + 2) _ (vals (blk s b).list) _ _ rfl (setRow_heap _ _ _ _ _ _ Q1.out) under8 rfl (by rw [size8, vals_size]; rfl)) rfl ⟨rfl, below_setRow QB.out (by omega) _⟩
end Go.Proofs.YtfoknhogclfhhaaDoor
