/- sha.block: a block more; sha.turn. What each call does to the world. -/
import Derived.Test.YtfoknhogclfhhaaDoorProg
import Derived.Test.YtfoknhogclfhhaaDoorTail
import Derived.Test.YtfoknhogclfhhaaDoorSha
import Derived.WalkSpells
import Derived.WalkLawsBesides
import Derived.Deep.QuietTactic
import Derived.BigQuiet
import Derived.BigRegion
import Derived.Lib.Hide
import Derived.Deep.DeepCutAuto
import Derived.Deep.CutBlock
namespace Go.Proofs.YtfoknhogclfhhaaDoor
set_option maxRecDepth 100000
open Go.RowKit
set_option maxHeartbeats 400000 in
theorem turn_any (x n : Int) (w : World) (hn : 0 ≤ n) (hn1 : n ≤ 32) :
    Calls Tryd.prog 40 #[.int .u32 x, .int .i64 n] w fun e w' => e = .returned (.int .u32 (rotr x n)) ∧ ∃ k, w' = w.drewN k := by
  go_enter Tryd.func40, Tryd.ntmps40
  go_wp2
  go_quiet (fail)
  go_wp2
  go_ret
  exact ⟨rfl, _, rfl⟩
/-- the table of constants as it lies in memory -/
def Tab (w : World) : Prop := ∀ t, t < 64 → w.cell? ⟨0, t, none⟩ = some (.int .u32 (ktab.getD t 0))
/-- the words of h written one by one into the block H -/
def updH (w : World) (H : Nat) (h : List Int) : Nat → World
  | 0 => w
  | i + 1 => (updH w H h i).setCell ⟨H, i, none⟩ (.int .u32 (h.getD i 0))
theorem updH_size (w : World) (H : Nat) (h : List Int) (i : Nat) : (updH w H h i).heap.size = w.heap.size := by
  induction i with
  | zero => rfl
  | succ i ih => rw [updH]; simpa using ih
theorem updH_other (w : World) (H : Nat) (h : List Int) (i k : Nat) (hk : k ≠ H) : (updH w H h i).heap[k]? = w.heap[k]? := by
  induction i with
  | zero => rfl
  | succ i ih => rw [updH, heap_setCell_other _ _ _ _ (by simpa using hk)]; exact ih
theorem updH_same (w : World) (H : Nat) (h : List Int) (t : TypeId) (o : List Int) (hH : w.heap[H]? = some (.cells (vals o) t (0, 0))) (ho : o.length = h.length) (i : Nat) (hi : i ≤ h.length) :
    (updH w H h i).heap[H]? = some (.cells (vals (h.take i ++ o.drop i)) t (0, 0)) := by
  induction i with
  | zero => simpa [updH] using hH
  | succ i ih =>
    rw [updH, heap_setCell_same _ _ _ _ _ _ (ih (by omega)), vals_set]
    congr 3
    apply List.ext_getElem?
    intro j
    by_cases hj : j = i
    · subst hj; simp [List.getElem?_set, List.getElem?_append, ho]; rw [if_pos (by omega), if_pos (by omega)]; simp [List.getElem?_eq_getElem (show j < h.length by omega)]
    · rw [List.getElem?_set_ne (Ne.symm hj)]
      simp [List.getElem?_append, List.getElem?_take]
      by_cases h1 : j < i
      · rw [if_pos (by omega), if_pos (by omega), if_pos (by omega), if_pos (by omega)]
      · rw [if_neg (by omega), if_neg (by omega)]; congr 1; omega

theorem idx8 (s : R8) (i : Nat) (hi : i < 8) (w : World) :
    (Instr.index 61 (.agg #[.int .u32 s.a, .int .u32 s.b, .int .u32 s.c, .int .u32 s.d, .int .u32 s.e, .int .u32 s.f, .int .u32 s.g, .int .u32 s.h]) (.int .i64 i)).run Tryd.prog w = .ok (.int .u32 (s.list.getD i 0)) w := by
  have h8 : i = 0 ∨ i = 1 ∨ i = 2 ∨ i = 3 ∨ i = 4 ∨ i = 5 ∨ i = 6 ∨ i = 7 := by omega
  rcases h8 with rfl | rfl | rfl | rfl | rfl | rfl | rfl | rfl <;> rfl
theorem cell_of_vals {w : World} {g : Nat} {l : List Int} {T : TypeId} {fr : Nat × Nat} (h : w.heap[g]? = some (.cells (vals l) T fr)) (j : Nat) (hj : j < l.length) :
    w.cell? ⟨g, j, none⟩ = some (.int .u32 (l.getD j 0)) := by
  rw [cell_of_row w g j _ T fr h, vals_get l j hj]
theorem add_at (s : R8) (b : List Int) (t : Nat) (ht : t < 8) :
    (((blk s b).list.take t ++ s.list.drop t).getD t 0 + (rnds (sched b) s 64).list.getD t 0) % 4294967296 = (blk s b).list.getD t 0 := by
  have h8 : t = 0 ∨ t = 1 ∨ t = 2 ∨ t = 3 ∨ t = 4 ∨ t = 5 ∨ t = 6 ∨ t = 7 := by omega
  unfold blk
  generalize rnds (sched b) s 64 = r
  rcases h8 with rfl | rfl | rfl | rfl | rfl | rfl | rfl | rfl <;> rfl
def BlkPost (w : World) (H : Nat) (s : R8) (b : List Int) (w' : World) : Prop :=
  ∃ k, w' = ((updH w H (blk s b).list 8).alloc (.cells (vals (sched b)) 65)).drewN k

theorem cell_loc (w : World) (W : List Int) (T : TypeId) (k n t : Nat) (hn : n = w.heap.size) (ht : t < W.length) :
    ((w.alloc (.cells (vals W) T)).drewN k).cell? ⟨n, t, none⟩ = some (.int .u32 (W.getD t 0)) := by
  rw [World.cell?_drewN, World.cell?_alloc_at _ _ _ _ hn, vals_get _ _ ht]
theorem froz_loc (w : World) (W : List Int) (T : TypeId) (k n t : Nat) (hn : n = w.heap.size) :
    ((w.alloc (.cells (vals W) T)).drewN k).frozen? ⟨n, t, none⟩ = false := by
  rw [World.frozen?_drewN, World.frozen?_alloc_at _ _ _ _ hn]
theorem cell_old (w : World) (o : Obj) (k : Nat) (B j : Nat) (v : Value) (hB : B < w.heap.size) (h : w.cell? ⟨B, j, none⟩ = some v) :
    ((w.alloc o).drewN k).cell? ⟨B, j, none⟩ = some v := by
  rw [World.cell?_drewN, World.cell?_alloc_past _ _ _ hB, h]
theorem setCell_drewN' (w : World) (n : Nat) (a : Addr) (v : Value) : (w.drewN n).setCell a v = (w.setCell a v).drewN n := rfl
theorem store_loc (w : World) (W : List Int) (T : TypeId) (k n t : Nat) (x : Int) (hn : n = w.heap.size) :
    ((w.alloc (.cells (vals W) T)).drewN k).setCell ⟨n, t, none⟩ (.int .u32 x) = (w.alloc (.cells (vals (W.set t x)) T)).drewN k := by
  rw [setCell_drewN', World.setCell_alloc_at _ _ _ _ _ hn, vals_set]

set_option maxHeartbeats 600000 in
set_option maxRecDepth 100000 in
theorem block_any (w : World) (H B off cap : Nat) (b : List Int) (s : R8) (T : TypeId) (hT : Tab w) (hsz : 0 < w.heap.size)
    (hb : ∀ i, i < 64 → w.cell? ⟨B, off + i, none⟩ = some (.int .u8 (b.getD i 0))) (hBs : B < w.heap.size) (_hcap : 64 ≤ cap)
    (hH : w.heap[H]? = some (.cells (vals s.list) T (0, 0))) :
    Calls Tryd.prog 30 #[.pointer (some ⟨H, 0, none⟩), .slice (some ⟨B, off, none⟩) 64 cap] w fun e w' => e = .returned (.tuple #[]) ∧ BlkPost w H s b w' := by
  have hHs : H < w.heap.size := (Array.getElem?_eq_some_iff.1 hH).1
  go_enter Tryd.func30, Tryd.ntmps30
  have HT := Bx.mk hT; have Hb := Bx.mk hb; have HH := Bx.mk hH
  clear hT hb hH
  go_upto_block 0 with (fail)
  go_cut [] (fun wc => ∃ k : Nat, wc = ((w.alloc (.cells (vals (sch1 b 16)) 65)).drewN k))
  case first =>
    go_wp2_with fail
    go_loopw [22] (fun i wr => ∃ t k : Nat, t ≤ 16 ∧ i = .int .i64 t ∧ wr = ((w.alloc (.cells (vals (sch1 b t)) 65)).drewN k)) (fun i _ => 16 - (intOf i).toNat)
    case atStart => exact ⟨0, 0, by omega, rfl, rfl⟩
    case round =>
      obtain ⟨t, k, ht, rfl, rfl⟩ := hrel
      by_cases hlt : t < 16
      · have c0 := cell_old w (.cells (vals (sch1 b t)) 65) k B _ _ hBs (Hb.out (4 * t) (by omega))
        have c1 := cell_old w (.cells (vals (sch1 b t)) 65) k B _ _ hBs (Hb.out (4 * t + 1) (by omega))
        have c2 := cell_old w (.cells (vals (sch1 b t)) 65) k B _ _ hBs (Hb.out (4 * t + 2) (by omega))
        have c3 := cell_old w (.cells (vals (sch1 b t)) 65) k B _ _ hBs (Hb.out (4 * t + 3) (by omega))
        have c4 := cell_loc w (sch1 b t) 65 k w.heap.size t rfl (by rw [sch1_length]; omega)
        have cf := froz_loc w (sch1 b t) 65 k w.heap.size t rfl
        generalize hW : ((w.alloc (.cells (vals (sch1 b t)) 65)).drewN k) = W at c0 c1 c2 c3 c4 cf ⊢
        have HW := Bx.mk hW; clear hW
        generalize hx0 : b.getD (4*t) 0 = x0 at c0
        generalize hx1 : b.getD (4*t+1) 0 = x1 at c1
        generalize hx2 : b.getD (4*t+2) 0 = x2 at c2
        generalize hx3 : b.getD (4*t+3) 0 = x3 at c3
        have H0 := Bx.mk hx0; have H1 := Bx.mk hx1; have H2 := Bx.mk hx2; have H3 := Bx.mk hx3; clear hx0 hx1 hx2 hx3
        generalize (sch1 b t).getD t 0 = x4 at c4
        have i0 : 0 ≤ 4 * (t : Int) := by omega
        have i1 : 4 * (t : Int) < 64 := by omega
        go_wp2_with fail
        refine wp_region_quiet_tail (C := fun w' => ∃ n, w' = W.drewN n) 35 (by kernel_rfl) (by kernel_rfl) ⟨1, rfl⟩ ?_
        simp only [List.take_succ_cons, List.take_zero, List.drop_succ_cons, List.drop_zero]
        repeat go_big_quiet_step (fail)
        refine wpQuiet_nil ?_
        intro _ hw'
        obtain ⟨nr, hw''⟩ := hw'
        subst hw''
        go_wp2_with fail
        go_roundw
        case rel =>
          refine ⟨t + 1, k + nr, by omega, by go_num, ?_⟩
          rw [← HW.out, World.drewN_drewN, store_loc _ _ _ _ _ _ _ rfl]
          rw [← H0.out, ← H1.out, ← H2.out, ← H3.out]
          rfl
        case measure => simp [intOf]; omega
      · obtain rfl : t = 16 := by omega
        go_wp2_with fail
        go_meet
        case rel => exact ⟨k, rfl⟩
  case rest =>
   obtain ⟨k0, rfl⟩ := hcut
   go_upto_block 2 with (fail)
   go_cut [] (fun wc => ∃ k : Nat, wc = ((w.alloc (.cells (vals (sch2 b 48)) 65)).drewN k))
   case first =>
    go_wp2_with fail
    go_loopw [6] (fun i wr => ∃ t k : Nat, t ≤ 48 ∧ i = .int .i64 (16 + t : Nat) ∧ wr = ((w.alloc (.cells (vals (sch2 b t)) 65)).drewN k)) (fun i _ => 64 - (intOf i).toNat)
    case atStart => exact ⟨0, k0, by omega, rfl, rfl⟩
    case round =>
      obtain ⟨t2, k2, ht2, rfl, rfl⟩ := hrel
      by_cases hlt2 : t2 < 48
      · have hl := sch2_length b t2
        have c0 := cell_loc w (sch2 b t2) 65 k2 w.heap.size (16 + t2 - 16) rfl (by omega)
        have c1 := cell_loc w (sch2 b t2) 65 k2 w.heap.size (16 + t2 - 15) rfl (by omega)
        have c2 := cell_loc w (sch2 b t2) 65 k2 w.heap.size (16 + t2 - 7) rfl (by omega)
        have c3 := cell_loc w (sch2 b t2) 65 k2 w.heap.size (16 + t2 - 2) rfl (by omega)
        have c4 := cell_loc w (sch2 b t2) 65 k2 w.heap.size (16 + t2) rfl (by omega)
        have cf := froz_loc w (sch2 b t2) 65 k2 w.heap.size (16 + t2) rfl
        clear hl
        generalize hW : ((w.alloc (.cells (vals (sch2 b t2)) 65)).drewN k2) = W at c0 c1 c2 c3 c4 cf ⊢
        have HW := Bx.mk hW; clear hW
        generalize hx0 : (sch2 b t2).getD (16 + t2 - 16) 0 = x0 at c0
        generalize hx1 : (sch2 b t2).getD (16 + t2 - 15) 0 = x1 at c1
        generalize hx2 : (sch2 b t2).getD (16 + t2 - 7) 0 = x2 at c2
        generalize hx3 : (sch2 b t2).getD (16 + t2 - 2) 0 = x3 at c3
        generalize (sch2 b t2).getD (16 + t2) 0 = x4 at c4
        have H0 := Bx.mk hx0; have H1 := Bx.mk hx1; have H2 := Bx.mk hx2; have H3 := Bx.mk hx3; clear hx0 hx1 hx2 hx3
        generalize hm : 16 + t2 = m at c0 c1 c2 c3 c4 cf ⊢
        have Hm := Bx.mk hm
        have hm1 : 16 ≤ m := by omega
        have hm2 : m < 64 := by omega
        clear hm
        go_wp2_with fail
        go_quiet (fail)
        go_wp2_with fail
        refine wp_region_quiet_tail (C := fun w' => ∃ n, w' = W.drewN n) 29 (by kernel_rfl) (by kernel_rfl) ⟨nq + 1, rfl⟩ ?_
        simp only [List.take_succ_cons, List.take_zero, List.drop_succ_cons, List.drop_zero]
        repeat go_big_quiet_step ((go_at_call 40; exact Calls.quiet_of (turn_any _ _ _ (by omega) (by omega))))
        refine wpQuiet_nil ?_
        intro _ hw'
        obtain ⟨nr, hw''⟩ := hw'
        subst hw''
        go_wp2_with fail
        go_roundw
        case rel =>
          refine ⟨t2 + 1, k2 + nr, by omega, by rw [← Hm.out]; go_num, ?_⟩
          rw [← HW.out, World.drewN_drewN, store_loc _ _ _ _ _ _ _ rfl]
          rw [← H0.out, ← H1.out, ← H2.out, ← H3.out, ← Hm.out]
          rfl
        case measure => simp [intOf]; omega
      · obtain rfl : t2 = 48 := by omega
        go_wp2_with fail
        go_meet
        case rel => exact ⟨k2, rfl⟩
   case rest =>
    obtain ⟨k, rfl⟩ := hcut
    have d0 := cell_old w (.cells (vals (sch2 b 48)) 65) k H _ _ hHs (cell_of_vals HH.out 0 (by simp [R8.list]))
    have d1 := cell_old w (.cells (vals (sch2 b 48)) 65) k H _ _ hHs (cell_of_vals HH.out 1 (by simp [R8.list]))
    have d2 := cell_old w (.cells (vals (sch2 b 48)) 65) k H _ _ hHs (cell_of_vals HH.out 2 (by simp [R8.list]))
    have d3 := cell_old w (.cells (vals (sch2 b 48)) 65) k H _ _ hHs (cell_of_vals HH.out 3 (by simp [R8.list]))
    have d4 := cell_old w (.cells (vals (sch2 b 48)) 65) k H _ _ hHs (cell_of_vals HH.out 4 (by simp [R8.list]))
    have d5 := cell_old w (.cells (vals (sch2 b 48)) 65) k H _ _ hHs (cell_of_vals HH.out 5 (by simp [R8.list]))
    have d6 := cell_old w (.cells (vals (sch2 b 48)) 65) k H _ _ hHs (cell_of_vals HH.out 6 (by simp [R8.list]))
    have d7 := cell_old w (.cells (vals (sch2 b 48)) 65) k H _ _ hHs (cell_of_vals HH.out 7 (by simp [R8.list]))
    have e0 : s.list.getD 0 0 = s.a := rfl
    rw [e0] at d0; clear e0
    have e1 : s.list.getD 1 0 = s.b := rfl
    rw [e1] at d1; clear e1
    have e2 : s.list.getD 2 0 = s.c := rfl
    rw [e2] at d2; clear e2
    have e3 : s.list.getD 3 0 = s.d := rfl
    rw [e3] at d3; clear e3
    have e4 : s.list.getD 4 0 = s.e := rfl
    rw [e4] at d4; clear e4
    have e5 : s.list.getD 5 0 = s.f := rfl
    rw [e5] at d5; clear e5
    have e6 : s.list.getD 6 0 = s.g := rfl
    rw [e6] at d6; clear e6
    have e7 : s.list.getD 7 0 = s.h := rfl
    rw [e7] at d7; clear e7
    generalize hW : ((w.alloc (.cells (vals (sch2 b 48)) 65)).drewN k) = W at d0 d1 d2 d3 d4 d5 d6 d7 ⊢
    have HW := Bx.mk hW; clear hW
    go_wp2_with fail
    go_quiet (fail)
    clear d0 d1 d2 d3 d4 d5 d6 d7
    go_upto_block 4 with (fail)
    go_cut [9, 10, 11, 12, 13, 14, 15, 16] (fun va vb vc vd ve vf vg vh wc => (∃ k : Nat, wc = W.drewN k) ∧ va = .int .u32 (rnds (sched b) s 64).a ∧ vb = .int .u32 (rnds (sched b) s 64).b ∧ vc = .int .u32 (rnds (sched b) s 64).c ∧ vd = .int .u32 (rnds (sched b) s 64).d ∧ ve = .int .u32 (rnds (sched b) s 64).e ∧ vf = .int .u32 (rnds (sched b) s 64).f ∧ vg = .int .u32 (rnds (sched b) s 64).g ∧ vh = .int .u32 (rnds (sched b) s 64).h)
    case first =>
     go_wp2_with fail
     go_loopw [9, 10, 11, 12, 13, 14, 15, 16, 134] (fun va vb vc vd ve vf vg vh i wr => ∃ (t k : Nat), t ≤ 64 ∧ i = .int .i64 t ∧ wr = W.drewN k ∧ va = .int .u32 (rnds (sched b) s t).a ∧ vb = .int .u32 (rnds (sched b) s t).b ∧ vc = .int .u32 (rnds (sched b) s t).c ∧ vd = .int .u32 (rnds (sched b) s t).d ∧ ve = .int .u32 (rnds (sched b) s t).e ∧ vf = .int .u32 (rnds (sched b) s t).f ∧ vg = .int .u32 (rnds (sched b) s t).g ∧ vh = .int .u32 (rnds (sched b) s t).h)
       (fun _ _ _ _ _ _ _ _ i _ => 64 - (intOf i).toNat)
     case atStart => exact ⟨0, nq, by omega, rfl, rfl, rfl, rfl, rfl, rfl, rfl, rfl, rfl, rfl⟩
     case round =>
      obtain ⟨t3, k3, ht3, rfl, rfl, rfl, rfl, rfl, rfl, rfl, rfl, rfl, rfl⟩ := hrel
      by_cases hlt3 : t3 < 64
      · generalize hr : rnds (sched b) s t3 = r
        obtain ⟨ra, rb, rc, rd, re, rf, rg, rh⟩ := r
        dsimp only
        have HR := Bx.mk hr; clear hr
        have c0 := cell_loc w (sch2 b 48) 65 k w.heap.size t3 rfl (by rw [sch2_length]; omega)
        have c1 := cell_old w (.cells (vals (sch2 b 48)) 65) k _ _ _ hsz (HT.out t3 hlt3)
        rw [HW.out] at c0 c1
        generalize hx0 : (sch2 b 48).getD t3 0 = wt at c0
        generalize hx1 : ktab.getD t3 0 = kt at c1
        have H0 := Bx.mk hx0; have H1 := Bx.mk hx1; clear hx0 hx1
        go_wp2_with fail
        generalize hV : W.drewN k3 = V
        have HV := Bx.mk hV; clear hV
        have g0 : V.cell? ⟨w.heap.size, t3, none⟩ = some (.int .u32 wt) := by rw [← HV.out]; exact c0
        have g1 : V.cell? ⟨0, t3, none⟩ = some (.int .u32 kt) := by rw [← HV.out]; exact c1
        clear c0 c1
        go_quiet ((go_at_call 40; exact Calls.quiet_of (turn_any _ _ _ (by omega) (by omega))))
        go_wp2_with (go_at_call 40; refine (turn_any _ _ _ (by omega) (by omega)).mono ?_; rintro e w' ⟨rfl, kk, rfl⟩)
        go_roundw
        case rel =>
          refine ⟨t3 + 1, _, by omega, by go_num, by rw [← HV.out]; simp only [World.drewN_drewN]; rfl, ?_⟩
          have hs : rnds (sched b) s (t3 + 1) = rnd kt wt ⟨ra, rb, rc, rd, re, rf, rg, rh⟩ := by rw [← H0.out, ← H1.out, ← HR.out]; rfl
          rw [hs]
          exact ⟨rfl, rfl, rfl, rfl, rfl, rfl, rfl, rfl⟩
        case measure => simp [intOf]; omega
      · obtain rfl : t3 = 64 := by omega
        go_wp2_with fail
        go_meet
        case rel => exact ⟨⟨k3, rfl⟩, rfl, rfl, rfl, rfl, rfl, rfl, rfl, rfl⟩
    case rest =>
     obtain ⟨⟨kw, rfl⟩, rfl, rfl, rfl, rfl, rfl, rfl, rfl, rfl⟩ := hcut
     generalize hr : rnds (sched b) s 64 = r
     have HR := Bx.mk hr; clear hr
     go_wp2_with fail
     go_loopw [206] (fun i wr => ∃ (t k : Nat), t ≤ 8 ∧ i = .int .i64 t ∧ wr = ((updH w H (blk s b).list t).alloc (.cells (vals (sched b)) 65)).drewN k) (fun i _ => 8 - (intOf i).toNat)
     case atStart => exact ⟨0, k + kw, by omega, rfl, by rw [← HW.out, World.drewN_drewN]; rfl⟩
     case round =>
      obtain ⟨t4, k4, ht4, rfl, rfl⟩ := hrel
      by_cases hlt4 : t4 < 8
      · have hx := idx8 r t4 hlt4
        have hup := updH_same w H (blk s b).list T s.list HH.out rfl t4 (by simp [R8.list]; omega)
        have c0 := cell_old (updH w H (blk s b).list t4) (.cells (vals (sched b)) 65) k4 H _ _ (by rw [updH_size]; exact hHs) (cell_of_vals hup t4 (by simp [R8.list]; omega))
        have cf : (((updH w H (blk s b).list t4).alloc (.cells (vals (sched b)) 65)).drewN k4).frozen? ⟨H, t4, none⟩ = false := by
          rw [World.frozen?_drewN, World.frozen?_alloc_past _ _ _ (by rw [updH_size]; exact hHs), frozen_of_row _ _ _ _ _ hup]
        clear hup
        generalize hx0 : (List.take t4 (blk s b).list ++ List.drop t4 s.list).getD t4 0 = x0 at c0
        generalize hx1 : r.list.getD t4 0 = x1 at hx
        have H0 := Bx.mk hx0; have H1 := Bx.mk hx1; clear hx0 hx1
        generalize hV : ((updH w H (blk s b).list t4).alloc (.cells (vals (sched b)) 65)).drewN k4 = V at c0 cf ⊢
        have HV := Bx.mk hV; clear hV
        go_wp2_with fail
        refine wp_region_quiet_tail (C := fun w' => ∃ n, w' = V.drewN n) 9 (by kernel_rfl) (by kernel_rfl) ⟨1, rfl⟩ ?_
        simp only [List.take_succ_cons, List.take_zero, List.drop_succ_cons, List.drop_zero]
        repeat go_big_quiet_step (fail)
        refine wpQuiet_nil ?_
        intro _ hw'
        obtain ⟨nr, hw''⟩ := hw'
        subst hw''
        go_wp2_with fail
        go_roundw
        case rel =>
          refine ⟨t4 + 1, k4 + nr, by omega, by go_num, ?_⟩
          have he : (x0 + x1) % 4294967296 = (blk s b).list.getD t4 0 := by
            rw [← H0.out, ← H1.out, ← HR.out]
            exact add_at s b t4 hlt4
          rw [← HV.out, he, World.drewN_drewN, setCell_drewN', World.setCell_alloc_past _ _ _ _ (by rw [updH_size]; exact hHs)]
          rfl
        case measure => simp [intOf]; omega
      · obtain rfl : t4 = 8 := by omega
        go_wp2_with fail
        go_end0
        exact ⟨rfl, _, rfl⟩
end Go.Proofs.YtfoknhogclfhhaaDoor
