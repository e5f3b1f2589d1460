/- cartularyref05: LeafText, Leaf, Empty, NodeText, Node. -/
import Derived.Test.YtecdaokgnkhgiaaDoorHe
import Derived.Laws.Concat
namespace Go.Proofs.YtecdaokgnkhgiaaDoor
set_option maxRecDepth 100000
open Go.RowKit
theorem sb_app (s t : ByteArray) : sb (s ++ t) = sb s ++ sb t := by simp [sb]
theorem leafText_any (w : World) (s : ByteArray) (hs : s.size < 70368744177663) : Calls Tryd.prog 36 #[.string s] w fun e w' => e = .returned (.string (⟨#[0]⟩ ++ s)) ∧ w' = w := by
  have h1 := run_string_add_sum (P := Tryd.prog) w ⟨#[0]⟩ s (by show 1 + s.size ≤ _; omega)
  go_enter Tryd.func36, Tryd.ntmps36
  go_wp2_with fail
  go_ret
  exact ⟨rfl, rfl⟩
set_option maxHeartbeats 1600000 in
theorem rempty_any (w : World) : Calls Tryd.prog 16 #[] w fun e w' => e = .returned (hv (sha [])) ∧ Below w.heap.size w w' := by
  have k1 : Below w.heap.size w (w.alloc (.cells zeros32 24)) := er_al (Below.refl _ _) _
  have r1 : (w.alloc (.cells zeros32 24)).heap[w.heap.size]? = some (.cells zeros32 24 (0, 0)) := heap_alloc_new _ _
  have hc := rsum_any (w.alloc (.cells zeros32 24)) ⟨#[]⟩ (by decide)
  rw [show sb ⟨#[]⟩ = [] from rfl] at hc
  have HC := Bx.mk hc; have K1 := Bx.mk k1; have R1 := Bx.mk r1
  clear hc k1 r1
  go_enter Tryd.func16, Tryd.ntmps16
  go_upto_region 1 with (fail)
  change Code.wp _ _ _ _ (w.alloc (.cells zeros32 24))
  generalize w.alloc (.cells zeros32 24) = W at HC K1 R1 ⊢
  go_wp2_with fail
  refine HC.out.mono ?_
  rintro e w4 ⟨rfl, hb4⟩
  have hlt := (Array.getElem?_eq_some_iff.1 R1.out).1
  have q1 := (hb4.block w.heap.size hlt).trans R1.out
  have q2 : Below w.heap.size w w4 := K1.out.trans (hb4.mono (Nat.le_of_lt hlt))
  have Q1 := Bx.mk q1; have Q2 := Bx.mk q2; have HSZ := Bx.mk (hszL (sha_length [])); have HSO := Bx.mk (hsoL (sha_length []))
  clear hb4 q1 q2 hlt
  go_wp2_with (refine wpList_store_row rfl 24 (.tmp 0) (.tmp 1) rfl w.heap.size (ocells (sha [])) rfl rfl _ _ Q1.out HSZ.out HSO.out (ocells_one _) ?_)
  refine bodyPost_ret (results_cell_row rfl _ _ w.heap.size _ (ocells (sha [])) _ _ rfl (setRow_heap _ _ _ _ _ _ Q1.out) underH rfl HSZ.out) rfl ⟨rfl, below_setRow Q2.out (Nat.le_refl _) _⟩
set_option maxHeartbeats 1600000 in
theorem rleaf_any (w : World) (s : ByteArray) (hs : s.size < 70368744177663) : Calls Tryd.prog 14 #[.string s] w fun e w' => e = .returned (hv (sha (0 :: sb s))) ∧ Below w.heap.size w w' := by
  have k1 : Below w.heap.size w (w.alloc (.cells zeros32 24)) := er_al (Below.refl _ _) _
  have r1 : (w.alloc (.cells zeros32 24)).heap[w.heap.size]? = some (.cells zeros32 24 (0, 0)) := heap_alloc_new _ _
  have hc := rsum_any (w.alloc (.cells zeros32 24)) (⟨#[0]⟩ ++ s) (by rw [ByteArray.size_append]; show 1 + s.size < _; omega)
  rw [sb_app, show sb ⟨#[0]⟩ ++ sb s = 0 :: sb s from rfl] at hc
  have ht := leafText_any (w.alloc (.cells zeros32 24)) s hs
  have HC := Bx.mk hc; have K1 := Bx.mk k1; have R1 := Bx.mk r1; have HT := Bx.mk ht
  clear hc k1 r1 ht
  go_enter Tryd.func14, Tryd.ntmps14
  go_upto_region 1 with (fail)
  change Code.wp _ _ _ _ (w.alloc (.cells zeros32 24))
  generalize w.alloc (.cells zeros32 24) = W at HC K1 R1 HT ⊢
  go_wp2_with fail
  refine HT.out.mono ?_
  rintro e w1 ⟨rfl, rfl⟩
  go_wp2_with fail
  refine HC.out.mono ?_
  rintro e w4 ⟨rfl, hb4⟩
  have hlt := (Array.getElem?_eq_some_iff.1 R1.out).1
  have q1 := (hb4.block w.heap.size hlt).trans R1.out
  have q2 : Below w.heap.size w w4 := K1.out.trans (hb4.mono (Nat.le_of_lt hlt))
  have Q1 := Bx.mk q1; have Q2 := Bx.mk q2; have HSZ := Bx.mk (hszL (sha_length (0 :: sb s))); have HSO := Bx.mk (hsoL (sha_length (0 :: sb s)))
  clear hb4 q1 q2 hlt
  go_wp2_with (refine wpList_store_row rfl 24 (.tmp 2) (.tmp 5) rfl w.heap.size (ocells (sha (0 :: sb s))) rfl rfl _ _ Q1.out HSZ.out HSO.out (ocells_one _) ?_)
  refine bodyPost_ret (results_cell_row rfl _ _ w.heap.size _ (ocells (sha (0 :: sb s))) _ _ rfl (setRow_heap _ _ _ _ _ _ Q1.out) underH rfl HSZ.out) rfl ⟨rfl, below_setRow Q2.out (Nat.le_refl _) _⟩
set_option maxHeartbeats 3200000 in
theorem nodeText_any (w : World) (a b : List UInt8) (ha : a.length = 32) (hb : b.length = 32) : Calls Tryd.prog 39 #[hv a, hv b] w fun e w' => e = .returned (.string (⟨#[1]⟩ ++ bstr a ++ bstr b)) ∧ Below w.heap.size w w' := by
  have x0 := (HashAt.new w a ha).below (er_al (Below.refl _ _) (.cells (ocells b) 24))
  have x1 := HashAt.new (w.alloc (.cells (ocells a) 24)) b hb
  rw [show (w.alloc (.cells (ocells a) 24)).heap.size = w.heap.size + 1 by simp] at x1
  have kb : Below w.heap.size w ((w.alloc (.cells (ocells a) 24)).alloc (.cells (ocells b) 24)) := er_al (er_al (Below.refl _ _) _) _
  unfold hv
  go_enter Tryd.func39, Tryd.ntmps39
  go_upto_region 1 with (fail)
  change Code.wp _ _ _ _ ((w.alloc (.cells (ocells a) 24)).alloc (.cells (ocells b) 24))
  generalize (w.alloc (.cells (ocells a) 24)).alloc (.cells (ocells b) 24) = W at x0 x1 kb ⊢
  have r0 : ∀ u, BlwC W.heap.size W u → u.heap[w.heap.size]? = some (.cells (ocells a) 24 (0, 0)) := fun u ⟨u', hu⟩ => by subst hu; exact (x0.below u'.h).1
  have r1 : ∀ u, BlwC W.heap.size W u → u.heap[w.heap.size + 1]? = some (.cells (ocells b) 24 (0, 0)) := fun u ⟨u', hu⟩ => by subst hu; exact (x1.below u'.h).1
  have c0 := fun u (_ : Below W.heap.size W u) => rbytes_any u a ha
  have c1 := fun u (_ : Below W.heap.size W u) => rbytes_any u b hb
  have ne := Blw.ne W.heap.size W
  have R0' := Bx.mk r0; have R1' := Bx.mk r1; have C0 := Bx.mk c0; have C1 := Bx.mk c1; have KB := Bx.mk kb; have HA := Bx.mk ha; have HB := Bx.mk hb
  clear x0 x1 kb r0 r1 c0 c1 ha hb
  refine wp_region_quiet_c (C := fun w' => ∃ u : Blw W.heap.size W, w' = u.w) (by kernel_rfl) (by kernel_rfl) ⟨⟨_, (Below.refl _ _).drew⟩, rfl⟩ ?_
  refine wpQuiet_load_row rfl 24 (.tmp 2) rfl w.heap.size rfl 24 (ocells a) (0, 0) _ R0'.out underH rfl (hszL HA.out) ?_
  simp only [Act.put, List.setIfInBounds_toArray, List.set_cons_succ, List.set_cons_zero]
  go_big_quiet_step (exact Calls.blw (Nat.le_refl _) C0.out)
  have h1 := fun u => run_string_add_sum (P := Tryd.prog) u ⟨#[1]⟩ (bstr a) (by rw [bstr_size, HA.out]; decide)
  have h2 := fun u => run_string_add_sum (P := Tryd.prog) u (⟨#[1]⟩ ++ bstr a) (bstr b) (by rw [ByteArray.size_append, bstr_size, bstr_size, HA.out, HB.out]; decide)
  go_big_quiet_step (fail)
  go_big_quiet_want
  refine quiet_load_row 24 (.tmp 3) rfl (w.heap.size + 1) rfl 24 (ocells b) (0, 0) _ R1'.out underH rfl (hszL HB.out) ?_
  go_big_quiet_on
  simp only [Act.put, List.setIfInBounds_toArray, List.set_cons_succ, List.set_cons_zero]
  go_big_quiet_step (exact Calls.blw (Nat.le_refl _) C1.out)
  go_big_quiet_step (fail)
  go_big_quiet_step (fail)
  refine wpQuiet_nil ?_
  rintro _ ⟨u, rfl⟩
  go_wp2_with fail
  go_ret
  exact ⟨rfl, KB.out.trans (u.h.mono KB.out.size)⟩
set_option maxHeartbeats 3200000 in
theorem rnode_any (w : World) (a b : List UInt8) (ha : a.length = 32) (hb : b.length = 32) : Calls Tryd.prog 23 #[hv a, hv b] w fun e w' => e = .returned (hv (sha (1 :: (a ++ b)))) ∧ Below w.heap.size w w' := by
  have x0 := ((HashAt.new w a ha).below (er_al (Below.refl _ _) (.cells (ocells b) 24))).below (er_al (Below.refl _ _) (.cells zeros32 24))
  have x1 := HashAt.new (w.alloc (.cells (ocells a) 24)) b hb
  rw [show (w.alloc (.cells (ocells a) 24)).heap.size = w.heap.size + 1 by simp] at x1
  have x1' := x1.below (er_al (Below.refl _ _) (.cells zeros32 24))
  have x2 : (((w.alloc (.cells (ocells a) 24)).alloc (.cells (ocells b) 24)).alloc (.cells zeros32 24)).heap[w.heap.size + 1 + 1]? = some (.cells zeros32 24 (0, 0)) := by
    simpa using heap_alloc_new ((w.alloc (.cells (ocells a) 24)).alloc (.cells (ocells b) 24)) (.cells zeros32 24)
  have kb : Below w.heap.size w (((w.alloc (.cells (ocells a) 24)).alloc (.cells (ocells b) 24)).alloc (.cells zeros32 24)) := er_al (er_al (er_al (Below.refl _ _) _) _) _
  have us : (((w.alloc (.cells (ocells a) 24)).alloc (.cells (ocells b) 24)).alloc (.cells zeros32 24)).heap.size = w.heap.size + 1 + 1 + 1 := by simp
  have HA := Bx.mk ha; have HB := Bx.mk hb
  clear x1 ha hb
  unfold hv
  go_enter Tryd.func23, Tryd.ntmps23
  go_upto_region 1 with (fail)
  change Code.wp _ _ _ _ (((w.alloc (.cells (ocells a) 24)).alloc (.cells (ocells b) 24)).alloc (.cells zeros32 24))
  generalize ((w.alloc (.cells (ocells a) 24)).alloc (.cells (ocells b) 24)).alloc (.cells zeros32 24) = W at x0 x1' x2 kb us ⊢
  have c0 := nodeText_any W a b HA.out HB.out
  have c1 := fun u => rsum_any u (⟨#[1]⟩ ++ bstr a ++ bstr b) (by rw [ByteArray.size_append, ByteArray.size_append, bstr_size, bstr_size, HA.out, HB.out]; decide)
  rw [sb_app, sb_app, sb_bstr, sb_bstr, show sb ⟨#[1]⟩ ++ a ++ b = 1 :: (a ++ b) from rfl] at c1
  have C0 := Bx.mk c0; have C1 := Bx.mk c1; have X0 := Bx.mk x0; have X1 := Bx.mk x1'; have X2 := Bx.mk x2; have KB := Bx.mk kb; have US := Bx.mk us
  clear c0 c1 x0 x1' x2 kb us
  go_wp2_with (first
    | refine wpList_load_row rfl 24 (.tmp 2) rfl w.heap.size rfl _ _ _ _ X0.out.1 underH rfl (hszL HA.out) ?_
    | refine wpList_load_row rfl 24 (.tmp 3) rfl (w.heap.size + 1) rfl _ _ _ _ X1.out.1 underH rfl (hszL HB.out) ?_)
  refine C0.out.mono ?_
  rintro e w1 ⟨rfl, hb1⟩
  have HB1 := Bx.mk hb1; clear hb1
  go_wp2_with fail
  refine (C1.out _).mono ?_
  rintro e w4 ⟨rfl, hb4⟩
  have hlt := (Array.getElem?_eq_some_iff.1 X2.out).1
  have q1 := (hb4.block _ (Nat.lt_of_lt_of_le hlt HB1.out.size)).trans ((HB1.out.block _ hlt).trans X2.out)
  have q2 : Below w.heap.size w w4 := KB.out.trans ((HB1.out.mono KB.out.size).trans (hb4.mono (Nat.le_trans KB.out.size HB1.out.size)))
  have Q1 := Bx.mk q1; have Q2 := Bx.mk q2; have HSZ := Bx.mk (hszL (sha_length (1 :: (a ++ b)))); have HSO := Bx.mk (hsoL (sha_length (1 :: (a ++ b))))
  clear hb4 q1 q2 hlt
  go_wp2_with (refine wpList_store_row rfl 24 (.tmp 4) (.tmp 8) rfl (w.heap.size + 1 + 1) (ocells (sha (1 :: (a ++ b)))) rfl rfl _ _ Q1.out HSZ.out HSO.out (ocells_one _) ?_)
  refine bodyPost_ret (results_cell_row rfl _ _ (w.heap.size + 1 + 1) _ (ocells (sha (1 :: (a ++ b)))) _ _ rfl (setRow_heap _ _ _ _ _ _ Q1.out) underH rfl HSZ.out) rfl ⟨rfl, below_setRow Q2.out (by omega) _⟩
end Go.Proofs.YtecdaokgnkhgiaaDoor
