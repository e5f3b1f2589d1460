/- CoordPairs walked. -/
import Derived.Test.YtifnmidecjmmnaaDoorCoW
namespace Go.Proofs.YtifnmidecjmmnaaDoor
open Go.RowKit
theorem At.blw {V : World} {n : Nat} {T : TypeId} {a b : Value} (h : At V n T a b) (u : Blw V.heap.size V) : u.w.cell? ⟨n, 0, none⟩ = some a ∧ u.w.cell? ⟨n, 1, none⟩ = some b := by
  obtain ⟨h1, h2, _⟩ := (h.below u.h).cells
  exact ⟨h1, h2⟩
set_option maxHeartbeats 6400000 in
set_option maxRecDepth 100000 in
theorem pairs_any (W : World) (La Ia Lb Ib : Nat) (hLa : La < 256) (hLb : Lb < 256) (hIa : Ia < 2 ^ 64) (hIb : Ib < 2 ^ 64) (hs : Seed W W) :
    Calls Tryd.prog 3 #[cv La Ia, cv Lb Ib] W fun e w' => e = .returned (.bool true) ∧ Below W.heap.size W w' := by
  have c1 := fun w => common_any w La Ia Lb Ib
  have c2 := fun w => rcommon_any w La Ia Lb Ib
  have c3 := fun w => cmp_any w La Ia Lb Ib hLa hLb hIa hIb
  have c4 := fun w => rcmp_any w La Ia Lb Ib hLa hLb hIa hIb
  have c5 := fun w => cmp_any w Lb Ib La Ia hLb hLa hIb hIa
  have c6 := fun w => rcmp_any w Lb Ib La Ia hLb hLa hIb hIa
  have c7 := fun w => cmp_any w La Ia La Ia hLa hLa hIa hIa
  rw [cmpN_self] at c7
  generalize comL La Ia Lb Ib = Lc at *
  generalize comI La Ia Lb Ib = Ic at *
  generalize comK La Ia Lb Ib = k at *
  generalize cmpN La Ia Lb Ib = x at *
  generalize cmpN Lb Ib La Ia = y at *
  unfold cv at *
  have s0 := (hs.alloc (.cells #[.int .u8 (La : Int), .int .u64 (Ia : Int)] 24)).alloc (.cells #[.int .u8 (Lb : Int), .int .u64 (Ib : Int)] 24)
  have ma := (At.new W 24 (.int .u8 (La : Int)) (.int .u64 (Ia : Int))).alloc (.cells #[.int .u8 (Lb : Int), .int .u64 (Ib : Int)] 24)
  have mb : At ((W.alloc (.cells #[.int .u8 (La : Int), .int .u64 (Ia : Int)] 24)).alloc (.cells #[.int .u8 (Lb : Int), .int .u64 (Ib : Int)] 24)) (W.heap.size + 1) 24 (.int .u8 (Lb : Int)) (.int .u64 (Ib : Int)) := heap_alloc2_new _ _ _
  have C1 := Bx.mk c1; have C2 := Bx.mk c2; have C3 := Bx.mk c3; have C4 := Bx.mk c4; have C5 := Bx.mk c5; have C6 := Bx.mk c6; have C7 := Bx.mk c7
  have SS := Bx.mk s0; have Ma := Bx.mk ma; have Mb := Bx.mk mb
  clear c1 c2 c3 c4 c5 c6 c7 hs s0 ma mb hLa hLb hIa hIb
  go_enter Tryd.func3, Tryd.ntmps3
  go_wp2_with fail
  refine (C1.out _).mono ?_
  rintro e w1 ⟨rfl, hb⟩
  have ma := (Ma.out.below hb).alloc (.cells #[.int .u8 (Lc : Int), .int .u64 (Ic : Int)] 24)
  have mb := (Mb.out.below hb).alloc (.cells #[.int .u8 (Lc : Int), .int .u64 (Ic : Int)] 24)
  have mc := At.new w1 24 (.int .u8 (Lc : Int)) (.int .u64 (Ic : Int))
  have s1 := (SS.out.next hb).alloc (.cells #[.int .u8 (Lc : Int), .int .u64 (Ic : Int)] 24)
  obtain ⟨a1, a2, a3, a4⟩ := ma.cells
  obtain ⟨b1, b2, b3, b4⟩ := mb.cells
  have Ma := Bx.mk ma; have Mb := Bx.mk mb; have Mc := Bx.mk mc; have SS := Bx.mk s1
  clear hb ma mb mc s1
  go_wp2_with fail
  refine (C2.out _).mono ?_
  rintro e w2 ⟨rfl, hb⟩
  have ma := (Ma.out.below hb).alloc (.cells #[.int .u8 (Lc : Int), .int .u64 (Ic : Int)] 24)
  have mb := (Mb.out.below hb).alloc (.cells #[.int .u8 (Lc : Int), .int .u64 (Ic : Int)] 24)
  have mc := (Mc.out.below hb).alloc (.cells #[.int .u8 (Lc : Int), .int .u64 (Ic : Int)] 24)
  have md := At.new w2 24 (.int .u8 (Lc : Int)) (.int .u64 (Ic : Int))
  have s1 := (SS.out.next hb).alloc (.cells #[.int .u8 (Lc : Int), .int .u64 (Ic : Int)] 24)
  go_upto_region 3 with (fail)
  change Code.wp _ _ _ _ (w2.alloc (.cells #[.int .u8 (Lc : Int), .int .u64 (Ic : Int)] 24))
  generalize w2.alloc (.cells #[.int .u8 (Lc : Int), .int .u64 (Ic : Int)] 24) = V at ma mb mc md s1 ⊢
  have x1 := fun u => (ma.blw u).1; have x2 := fun u => (ma.blw u).2
  have x3 := fun u => (mb.blw u).1; have x4 := fun u => (mb.blw u).2
  have x5 := fun u => (mc.blw u).1; have x6 := fun u => (mc.blw u).2
  have x7 := fun u => (md.blw u).1; have x8 := fun u => (md.blw u).2
  have hal : ∀ u, Below V.heap.size V u → Calls Tryd.prog 14 #[] u fun e w' => e = .returned (.bool true) ∧ Below u.heap.size u w' := fun u hu => (s1.next hu).alive
  have HAL := Bx.mk hal; have SV := Bx.mk s1.below
  have ne := Blw.ne V.heap.size V
  clear hb ma mb mc md s1 hal C1 C2 Ma Mb Mc SS
  refine wp_region_quiet_c (C := fun w' => ∃ u : Blw V.heap.size V, w' = u.w) (by kernel_rfl) (by kernel_rfl) ⟨⟨_, (Below.refl _ _).drew⟩, rfl⟩ ?_
  repeat (go_big_quiet_step ((first | with_reducible exact Calls.blw (Nat.le_refl _) (fun w _ => C3.out w) | with_reducible exact Calls.blw (Nat.le_refl _) (fun w _ => C4.out w) | with_reducible exact Calls.blw (Nat.le_refl _) (fun w _ => C5.out w) | with_reducible exact Calls.blw (Nat.le_refl _) (fun w _ => C6.out w) | with_reducible exact Calls.blw (Nat.le_refl _) (fun w _ => C7.out w) | with_reducible exact Calls.blw (Nat.le_refl _) HAL.out)))
  refine wpQuiet_nil ?_
  rintro _ ⟨u, rfl⟩
  go_wp2_with fail
  go_ret
  exact ⟨rfl, SV.out.trans (u.h.mono SV.out.size)⟩
end Go.Proofs.YtifnmidecjmmnaaDoor
