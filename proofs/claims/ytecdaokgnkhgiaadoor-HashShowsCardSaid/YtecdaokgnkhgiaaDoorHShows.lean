/- cartularylaw05.HashShows walked. -/
import Derived.Test.YtecdaokgnkhgiaaDoorHf
import Derived.Test.YtecdaokgnkhgiaaDoorHj
import Derived.Test.YtecdaokgnkhgiaaDoorHex
namespace Go.Proofs.YtecdaokgnkhgiaaDoor
set_option maxRecDepth 100000
open Go.RowKit
set_option maxHeartbeats 3200000 in
theorem hashShows_any (A : Nat → Addr) (w : World) (a b : List UInt8) (ha : a.length = 32) (hb : b.length = 32) (hH : Hs A w) :
    Calls Tryd.prog 9 #[hv a, hv b] w fun e w' => e = .returned (.bool true) ∧ Below w.heap.size w w' := by
  have x0 := (HashAt.new w a ha).below (er_al (Below.refl _ _) (.cells (ocells b) 24))
  have x1 := HashAt.new (w.alloc (.cells (ocells a) 24)) b hb
  rw [show (w.alloc (.cells (ocells a) 24)).heap.size = w.heap.size + 1 by simp] at x1
  have kb : Below w.heap.size w ((w.alloc (.cells (ocells a) 24)).alloc (.cells (ocells b) 24)) := er_al (er_al (Below.refl _ _) _) _
  unfold hv
  go_enter Tryd.func9, Tryd.ntmps9
  go_upto_region 1 with (fail)
  change Code.wp _ _ _ _ ((w.alloc (.cells (ocells a) 24)).alloc (.cells (ocells b) 24))
  generalize (w.alloc (.cells (ocells a) 24)).alloc (.cells (ocells b) 24) = W at x0 x1 kb ⊢
  have r0 : ∀ u, BlwC W.heap.size W u → u.heap[w.heap.size]? = some (.cells (ocells a) 24 (0, 0)) := fun u ⟨u', hu⟩ => by subst hu; exact (x0.below u'.h).1
  have r1 : ∀ u, BlwC W.heap.size W u → u.heap[w.heap.size + 1]? = some (.cells (ocells b) 24 (0, 0)) := fun u ⟨u', hu⟩ => by subst hu; exact (x1.below u'.h).1
  have c0 := fun u (_ : Below W.heap.size W u) => hcmp_any u a b ha hb
  have c1 := fun u (_ : Below W.heap.size W u) => rcmp_any u a b ha hb
  have c2 := fun u (_ : Below W.heap.size W u) => hcmp_any u b a hb ha
  have c3 := fun u (_ : Below W.heap.size W u) => rcmp_any u b a hb ha
  have c4 := fun u (_ : Below W.heap.size W u) => hcmp_any u a a ha ha
  have c5 := fun u (_ : Below W.heap.size W u) => show_any u a ha
  have c6 := fun u (_ : Below W.heap.size W u) => rshow_any u a ha
  have c7 := fun u (k : Below W.heap.size W u) => lives_any A u (hH.below (kb.trans (k.mono kb.size)))
  simp only [hv_agg, cmpH_self] at c0 c1 c2 c3 c4 c5 c6
  generalize cmpH a b = k1 at c0 c1
  generalize cmpH b a = k2 at c2 c3
  generalize bstr (hexL a) = sx at c5 c6
  have ne := Blw.ne W.heap.size W
  have R0' := Bx.mk r0; have R1' := Bx.mk r1; have C0 := Bx.mk c0; have C1 := Bx.mk c1; have C2 := Bx.mk c2; have C3 := Bx.mk c3; have C4 := Bx.mk c4; have C5 := Bx.mk c5; have C6 := Bx.mk c6; have C7 := Bx.mk c7; have KB := Bx.mk kb; have HA := Bx.mk ha; have HB := Bx.mk hb
  clear x0 x1 kb r0 r1 c0 c1 c2 c3 c4 c5 c6 c7 ha hb hH
  refine wp_region_quiet_c (C := fun w' => ∃ u : Blw W.heap.size W, w' = u.w) (by kernel_rfl) (by kernel_rfl) ⟨⟨_, (Below.refl _ _).drew⟩, rfl⟩ ?_
  go_big_quiet_want
  refine quiet_load_row 24 (.tmp 2) rfl w.heap.size rfl 24 (ocells a) (0, 0) _ R0'.out underH rfl (hszL HA.out) ?_
  go_big_quiet_on
  simp only [Act.put, List.setIfInBounds_toArray, List.set_cons_succ, List.set_cons_zero]
  go_big_quiet_want
  refine quiet_load_row 24 (.tmp 3) rfl (w.heap.size + 1) rfl 24 (ocells b) (0, 0) _ R1'.out underH rfl (hszL HB.out) ?_
  go_big_quiet_on
  simp only [Act.put, List.setIfInBounds_toArray, List.set_cons_succ, List.set_cons_zero]
  go_big_quiet_step (exact Calls.blw (Nat.le_refl _) C0.out)
  go_big_quiet_want
  refine quiet_load_row 24 (.tmp 2) rfl w.heap.size rfl 24 (ocells a) (0, 0) _ R0'.out underH rfl (hszL HA.out) ?_
  go_big_quiet_on
  simp only [Act.put, List.setIfInBounds_toArray, List.set_cons_succ, List.set_cons_zero]
  go_big_quiet_want
  refine quiet_load_row 24 (.tmp 3) rfl (w.heap.size + 1) rfl 24 (ocells b) (0, 0) _ R1'.out underH rfl (hszL HB.out) ?_
  go_big_quiet_on
  simp only [Act.put, List.setIfInBounds_toArray, List.set_cons_succ, List.set_cons_zero]
  go_big_quiet_step (exact Calls.blw (Nat.le_refl _) C1.out)
  go_big_quiet_step (fail)
  go_big_quiet_step (fail)
  go_big_quiet_want
  refine quiet_load_row 24 (.tmp 3) rfl (w.heap.size + 1) rfl 24 (ocells b) (0, 0) _ R1'.out underH rfl (hszL HB.out) ?_
  go_big_quiet_on
  simp only [Act.put, List.setIfInBounds_toArray, List.set_cons_succ, List.set_cons_zero]
  go_big_quiet_want
  refine quiet_load_row 24 (.tmp 2) rfl w.heap.size rfl 24 (ocells a) (0, 0) _ R0'.out underH rfl (hszL HA.out) ?_
  go_big_quiet_on
  simp only [Act.put, List.setIfInBounds_toArray, List.set_cons_succ, List.set_cons_zero]
  go_big_quiet_step (exact Calls.blw (Nat.le_refl _) C2.out)
  go_big_quiet_want
  refine quiet_load_row 24 (.tmp 3) rfl (w.heap.size + 1) rfl 24 (ocells b) (0, 0) _ R1'.out underH rfl (hszL HB.out) ?_
  go_big_quiet_on
  simp only [Act.put, List.setIfInBounds_toArray, List.set_cons_succ, List.set_cons_zero]
  go_big_quiet_want
  refine quiet_load_row 24 (.tmp 2) rfl w.heap.size rfl 24 (ocells a) (0, 0) _ R0'.out underH rfl (hszL HA.out) ?_
  go_big_quiet_on
  simp only [Act.put, List.setIfInBounds_toArray, List.set_cons_succ, List.set_cons_zero]
  go_big_quiet_step (exact Calls.blw (Nat.le_refl _) C3.out)
  go_big_quiet_step (fail)
  go_big_quiet_step (fail)
  go_big_quiet_step (fail)
  go_big_quiet_want
  refine quiet_load_row 24 (.tmp 2) rfl w.heap.size rfl 24 (ocells a) (0, 0) _ R0'.out underH rfl (hszL HA.out) ?_
  go_big_quiet_on
  simp only [Act.put, List.setIfInBounds_toArray, List.set_cons_succ, List.set_cons_zero]
  go_big_quiet_want
  refine quiet_load_row 24 (.tmp 2) rfl w.heap.size rfl 24 (ocells a) (0, 0) _ R0'.out underH rfl (hszL HA.out) ?_
  go_big_quiet_on
  simp only [Act.put, List.setIfInBounds_toArray, List.set_cons_succ, List.set_cons_zero]
  go_big_quiet_step (exact Calls.blw (Nat.le_refl _) C4.out)
  go_big_quiet_step (fail)
  go_big_quiet_step (fail)
  go_big_quiet_step (fail)
  go_big_quiet_want
  refine quiet_load_row 24 (.tmp 2) rfl w.heap.size rfl 24 (ocells a) (0, 0) _ R0'.out underH rfl (hszL HA.out) ?_
  go_big_quiet_on
  simp only [Act.put, List.setIfInBounds_toArray, List.set_cons_succ, List.set_cons_zero]
  go_big_quiet_step (exact Calls.blw (Nat.le_refl _) C5.out)
  go_big_quiet_want
  refine quiet_load_row 24 (.tmp 2) rfl w.heap.size rfl 24 (ocells a) (0, 0) _ R0'.out underH rfl (hszL HA.out) ?_
  go_big_quiet_on
  simp only [Act.put, List.setIfInBounds_toArray, List.set_cons_succ, List.set_cons_zero]
  go_big_quiet_step (exact Calls.blw (Nat.le_refl _) C6.out)
  go_big_quiet_step (fail)
  go_big_quiet_step (fail)
  go_big_quiet_step (fail)
  go_big_quiet_step (exact Calls.blw (Nat.le_refl _) C7.out)
  repeat (go_big_quiet_step (fail))
  refine wpQuiet_nil ?_
  rintro _ ⟨u, rfl⟩
  go_wp2_with fail
  go_ret
  exact ⟨rfl, KB.out.trans (u.h.mono KB.out.size)⟩
end Go.Proofs.YtecdaokgnkhgiaaDoor
