/- CoordMeets walked. -/
import Derived.Test.YtifnmidecjmmnaaDoorCoH
import Derived.Test.YtifnmidecjmmnaaDoorCoJ
namespace Go.Proofs.YtifnmidecjmmnaaDoor
open Go.RowKit
set_option maxHeartbeats 6400000 in
set_option maxRecDepth 100000 in
theorem meets_leaf (W : World) (La Ia Lb Ib Lc Ic p1 p2 q1 q2 u1 u2 x1 x2 x3 : Nat) (hs : Seed W W)
    (C1 : Bx (∀ w, Calls Tryd.prog 10 #[.agg #[.int .u8 (La : Int), .int .u64 (Ia : Int)], .agg #[.int .u8 (Lb : Int), .int .u64 (Ib : Int)]] w fun e w' => e = .returned (.tuple #[.agg #[.int .u8 (Lc : Int), .int .u64 (Ic : Int)], .bool true]) ∧ Below w.heap.size w w'))
    (C2 : Bx (∀ w, Calls Tryd.prog 10 #[.agg #[.int .u8 (Lb : Int), .int .u64 (Ib : Int)], .agg #[.int .u8 (La : Int), .int .u64 (Ia : Int)]] w fun e w' => e = .returned (.tuple #[.agg #[.int .u8 (Lc : Int), .int .u64 (Ic : Int)], .bool true]) ∧ Below w.heap.size w w'))
    (C3 : Bx (∀ w, Calls Tryd.prog 18 #[.agg #[.int .u8 (La : Int), .int .u64 (Ia : Int)]] w fun e w' => e = .returned (.tuple #[.agg #[.int .u64 (p1 : Int), .int .u64 (p2 : Int)], .bool true]) ∧ Below w.heap.size w w'))
    (C4 : Bx (∀ w, Calls Tryd.prog 18 #[.agg #[.int .u8 (Lb : Int), .int .u64 (Ib : Int)]] w fun e w' => e = .returned (.tuple #[.agg #[.int .u64 (q1 : Int), .int .u64 (q2 : Int)], .bool true]) ∧ Below w.heap.size w w'))
    (C5 : Bx (∀ w, Calls Tryd.prog 18 #[.agg #[.int .u8 (Lc : Int), .int .u64 (Ic : Int)]] w fun e w' => e = .returned (.tuple #[.agg #[.int .u64 (u1 : Int), .int .u64 (u2 : Int)], .bool true]) ∧ Below w.heap.size w w'))
    (C9 : Bx (∀ w, Calls Tryd.prog 10 #[.agg #[.int .u8 (La : Int), .int .u64 (Ia : Int)], .agg #[.int .u8 (La : Int), .int .u64 (Ia : Int)]] w fun e w' => e = .returned (.tuple #[.agg #[.int .u8 (La : Int), .int .u64 (Ia : Int)], .bool true]) ∧ Below w.heap.size w w'))
    (f1 : u1 ≤ p1) (f2 : p2 ≤ u2) (f3 : u1 ≤ q1) (f4 : q2 ≤ u2)
    (g1 : ∀ w, (binOp .neq 24 (.agg #[.int .u8 (Lc : Int), .int .u64 (Ic : Int)]) (.agg #[.int .u8 (Lc : Int), .int .u64 (Ic : Int)])).run Tryd.prog w = .ok (.bool false) w)
    (g2 : ∀ w, (binOp .eql 24 (.agg #[.int .u8 (La : Int), .int .u64 (Ia : Int)]) (.agg #[.int .u8 (La : Int), .int .u64 (Ia : Int)])).run Tryd.prog w = .ok (.bool true) w)
    (C6 : Bx (∀ w, Calls Tryd.prog 19 #[.agg #[.int .u8 (Lc : Int), .int .u64 (Ic : Int)]] w fun e w' => e = .returned (.tuple #[.agg #[.int .u8 (x1 : Int), .int .u64 (x2 : Int)], .agg #[.int .u8 (x1 : Int), .int .u64 (x3 : Int)], .bool false]) ∧ Below w.heap.size w w'))
    : Calls Tryd.prog 5 #[.agg #[.int .u8 (La : Int), .int .u64 (Ia : Int)], .agg #[.int .u8 (Lb : Int), .int .u64 (Ib : Int)]] W fun e w' => e = .returned (.bool true) ∧ Below W.heap.size W w' := by
  have s0 := (hs.alloc (.cells #[.int .u8 (La : Int), .int .u64 (Ia : Int)] 24)).alloc (.cells #[.int .u8 (Lb : Int), .int .u64 (Ib : Int)] 24)
  have ma := (At.new W 24 (.int .u8 (La : Int)) (.int .u64 (Ia : Int))).alloc (.cells #[.int .u8 (Lb : Int), .int .u64 (Ib : Int)] 24)
  have mb : At ((W.alloc (.cells #[.int .u8 (La : Int), .int .u64 (Ia : Int)] 24)).alloc (.cells #[.int .u8 (Lb : Int), .int .u64 (Ib : Int)] 24)) (W.heap.size + 1) 24 (.int .u8 (Lb : Int)) (.int .u64 (Ib : Int)) := heap_alloc2_new _ _ _
  have SS := Bx.mk s0; have Ma := Bx.mk ma; have Mb := Bx.mk mb
  clear s0 hs ma mb
  go_enter Tryd.func5, Tryd.ntmps5
  go_wp2_with fail
  refine (C1.out _).mono ?_
  rintro e w1 ⟨rfl, hb⟩
  have ma := (Ma.out.below hb).alloc (.cells #[.int .u8 (Lc : Int), .int .u64 (Ic : Int)] 24)
  have mb := (Mb.out.below hb).alloc (.cells #[.int .u8 (Lc : Int), .int .u64 (Ic : Int)] 24)
  have s1 := (SS.out.next hb).alloc (.cells #[.int .u8 (Lc : Int), .int .u64 (Ic : Int)] 24)
  have mc := At.new w1 24 (.int .u8 (Lc : Int)) (.int .u64 (Ic : Int))
  obtain ⟨xa1, xa2, xa3, xa4⟩ := ma.cells
  obtain ⟨xb1, xb2, xb3, xb4⟩ := mb.cells
  obtain ⟨xc1, xc2, xc3, xc4⟩ := mc.cells
  have Ma := Bx.mk ma; have Mb := Bx.mk mb; have Mc := Bx.mk mc; have SS := Bx.mk s1
  clear hb s1 ma mb mc
  go_wp2_with fail
  refine (C2.out _).mono ?_
  rintro e w2 ⟨rfl, hb⟩
  have ma := (Ma.out.below hb).alloc (.cells #[.int .u8 (Lc : Int), .int .u64 (Ic : Int)] 24)
  have mb := (Mb.out.below hb).alloc (.cells #[.int .u8 (Lc : Int), .int .u64 (Ic : Int)] 24)
  have mc := (Mc.out.below hb).alloc (.cells #[.int .u8 (Lc : Int), .int .u64 (Ic : Int)] 24)
  have s1 := (SS.out.next hb).alloc (.cells #[.int .u8 (Lc : Int), .int .u64 (Ic : Int)] 24)
  have md := At.new w2 24 (.int .u8 (Lc : Int)) (.int .u64 (Ic : Int))
  obtain ⟨xa1, xa2, xa3, xa4⟩ := ma.cells
  obtain ⟨xb1, xb2, xb3, xb4⟩ := mb.cells
  obtain ⟨xc1, xc2, xc3, xc4⟩ := mc.cells
  obtain ⟨xd1, xd2, xd3, xd4⟩ := md.cells
  have Ma := Bx.mk ma; have Mb := Bx.mk mb; have Mc := Bx.mk mc; have Md := Bx.mk md; have SS := Bx.mk s1
  clear hb s1 ma mb mc md
  go_wp2_with fail
  refine (C3.out _).mono ?_
  rintro e w3 ⟨rfl, hb⟩
  have ma := (Ma.out.below hb).alloc (.cells #[.int .u64 (p1 : Int), .int .u64 (p2 : Int)] 36)
  have mb := (Mb.out.below hb).alloc (.cells #[.int .u64 (p1 : Int), .int .u64 (p2 : Int)] 36)
  have mc := (Mc.out.below hb).alloc (.cells #[.int .u64 (p1 : Int), .int .u64 (p2 : Int)] 36)
  have md := (Md.out.below hb).alloc (.cells #[.int .u64 (p1 : Int), .int .u64 (p2 : Int)] 36)
  have s1 := (SS.out.next hb).alloc (.cells #[.int .u64 (p1 : Int), .int .u64 (p2 : Int)] 36)
  have ms := At.new w3 36 (.int .u64 (p1 : Int)) (.int .u64 (p2 : Int))
  obtain ⟨xa1, xa2, xa3, xa4⟩ := ma.cells
  obtain ⟨xb1, xb2, xb3, xb4⟩ := mb.cells
  obtain ⟨xc1, xc2, xc3, xc4⟩ := mc.cells
  obtain ⟨xd1, xd2, xd3, xd4⟩ := md.cells
  obtain ⟨xs1, xs2, xs3, xs4⟩ := ms.cells
  have Ma := Bx.mk ma; have Mb := Bx.mk mb; have Mc := Bx.mk mc; have Md := Bx.mk md; have Ms := Bx.mk ms; have SS := Bx.mk s1
  clear hb s1 ma mb mc md ms
  go_wp2_with fail
  refine (C4.out _).mono ?_
  rintro e w4 ⟨rfl, hb⟩
  have ma := (Ma.out.below hb).alloc (.cells #[.int .u64 (q1 : Int), .int .u64 (q2 : Int)] 36)
  have mb := (Mb.out.below hb).alloc (.cells #[.int .u64 (q1 : Int), .int .u64 (q2 : Int)] 36)
  have mc := (Mc.out.below hb).alloc (.cells #[.int .u64 (q1 : Int), .int .u64 (q2 : Int)] 36)
  have md := (Md.out.below hb).alloc (.cells #[.int .u64 (q1 : Int), .int .u64 (q2 : Int)] 36)
  have ms := (Ms.out.below hb).alloc (.cells #[.int .u64 (q1 : Int), .int .u64 (q2 : Int)] 36)
  have s1 := (SS.out.next hb).alloc (.cells #[.int .u64 (q1 : Int), .int .u64 (q2 : Int)] 36)
  have mt := At.new w4 36 (.int .u64 (q1 : Int)) (.int .u64 (q2 : Int))
  obtain ⟨xa1, xa2, xa3, xa4⟩ := ma.cells
  obtain ⟨xb1, xb2, xb3, xb4⟩ := mb.cells
  obtain ⟨xc1, xc2, xc3, xc4⟩ := mc.cells
  obtain ⟨xd1, xd2, xd3, xd4⟩ := md.cells
  obtain ⟨xs1, xs2, xs3, xs4⟩ := ms.cells
  obtain ⟨xt1, xt2, xt3, xt4⟩ := mt.cells
  have Ma := Bx.mk ma; have Mb := Bx.mk mb; have Mc := Bx.mk mc; have Md := Bx.mk md; have Ms := Bx.mk ms; have Mt := Bx.mk mt; have SS := Bx.mk s1
  clear hb s1 ma mb mc md ms mt
  go_wp2_with fail
  clear Md
  refine (C5.out _).mono ?_
  rintro e w5 ⟨rfl, hb⟩
  have ma := (Ma.out.below hb).alloc (.cells #[.int .u64 (u1 : Int), .int .u64 (u2 : Int)] 36)
  have mb := (Mb.out.below hb).alloc (.cells #[.int .u64 (u1 : Int), .int .u64 (u2 : Int)] 36)
  have mc := (Mc.out.below hb).alloc (.cells #[.int .u64 (u1 : Int), .int .u64 (u2 : Int)] 36)
  have ms := (Ms.out.below hb).alloc (.cells #[.int .u64 (u1 : Int), .int .u64 (u2 : Int)] 36)
  have mt := (Mt.out.below hb).alloc (.cells #[.int .u64 (u1 : Int), .int .u64 (u2 : Int)] 36)
  have s1 := (SS.out.next hb).alloc (.cells #[.int .u64 (u1 : Int), .int .u64 (u2 : Int)] 36)
  have mu := At.new w5 36 (.int .u64 (u1 : Int)) (.int .u64 (u2 : Int))
  obtain ⟨xa1, xa2, xa3, xa4⟩ := ma.cells
  obtain ⟨xb1, xb2, xb3, xb4⟩ := mb.cells
  obtain ⟨xc1, xc2, xc3, xc4⟩ := mc.cells
  obtain ⟨xs1, xs2, xs3, xs4⟩ := ms.cells
  obtain ⟨xt1, xt2, xt3, xt4⟩ := mt.cells
  obtain ⟨xu1, xu2, xu3, xu4⟩ := mu.cells
  have Ma := Bx.mk ma; have Mb := Bx.mk mb; have Mc := Bx.mk mc; have Ms := Bx.mk ms; have Mt := Bx.mk mt; have Mu := Bx.mk mu; have SS := Bx.mk s1
  clear hb s1 ma mb mc ms mt mu
  go_wp2_with fail
  clear Mu Mb
  refine (C6.out _).mono ?_
  rintro e w6 ⟨rfl, hb⟩
  have ma := ((Ma.out.below hb).alloc (.cells #[.int .u8 (x1 : Int), .int .u64 (x2 : Int)] 24)).alloc (.cells #[.int .u8 (x1 : Int), .int .u64 (x3 : Int)] 24)
  have mc := ((Mc.out.below hb).alloc (.cells #[.int .u8 (x1 : Int), .int .u64 (x2 : Int)] 24)).alloc (.cells #[.int .u8 (x1 : Int), .int .u64 (x3 : Int)] 24)
  have ms := ((Ms.out.below hb).alloc (.cells #[.int .u8 (x1 : Int), .int .u64 (x2 : Int)] 24)).alloc (.cells #[.int .u8 (x1 : Int), .int .u64 (x3 : Int)] 24)
  have mt := ((Mt.out.below hb).alloc (.cells #[.int .u8 (x1 : Int), .int .u64 (x2 : Int)] 24)).alloc (.cells #[.int .u8 (x1 : Int), .int .u64 (x3 : Int)] 24)
  have s1 := ((SS.out.next hb).alloc (.cells #[.int .u8 (x1 : Int), .int .u64 (x2 : Int)] 24)).alloc (.cells #[.int .u8 (x1 : Int), .int .u64 (x3 : Int)] 24)
  have ml := (At.new w6 24 (.int .u8 (x1 : Int)) (.int .u64 (x2 : Int))).alloc (.cells #[.int .u8 (x1 : Int), .int .u64 (x3 : Int)] 24)
  have mr : At ((w6.alloc (.cells #[.int .u8 (x1 : Int), .int .u64 (x2 : Int)] 24)).alloc (.cells #[.int .u8 (x1 : Int), .int .u64 (x3 : Int)] 24)) (w6.heap.size + 1) 24 (.int .u8 (x1 : Int)) (.int .u64 (x3 : Int)) := heap_alloc2_new _ _ _
  obtain ⟨xa1, xa2, xa3, xa4⟩ := ma.cells
  obtain ⟨xc1, xc2, xc3, xc4⟩ := mc.cells
  obtain ⟨xs1, xs2, xs3, xs4⟩ := ms.cells
  obtain ⟨xt1, xt2, xt3, xt4⟩ := mt.cells
  obtain ⟨xl1, xl2, xl3, xl4⟩ := ml.cells
  obtain ⟨xr1, xr2, xr3, xr4⟩ := mr.cells
  have Ma := Bx.mk ma; have Mc := Bx.mk mc; have Ms := Bx.mk ms; have Mt := Bx.mk mt; have Ml := Bx.mk ml; have Mr := Bx.mk mr; have SS := Bx.mk s1
  clear hb s1 ma mc ms mt ml mr
  go_wp2_with fail
  clear Mc Ms Mt Ml Mr
  refine (C9.out _).mono ?_
  rintro e w7 ⟨rfl, hb⟩
  have ma := (Ma.out.below hb).alloc (.cells #[.int .u8 (La : Int), .int .u64 (Ia : Int)] 24)
  have s1 := (SS.out.next hb).alloc (.cells #[.int .u8 (La : Int), .int .u64 (Ia : Int)] 24)
  have me := At.new w7 24 (.int .u8 (La : Int)) (.int .u64 (Ia : Int))
  obtain ⟨xa1, xa2, xa3, xa4⟩ := ma.cells
  obtain ⟨xe1, xe2, xe3, xe4⟩ := me.cells
  have Ma := Bx.mk ma; have Me := Bx.mk me; have SS := Bx.mk s1
  clear hb s1 ma me
  go_wp2_with fail
  refine SS.out.alive.mono ?_
  rintro e wz ⟨rfl, hb⟩
  have s1 := (SS.out.next hb).below
  have HZ := Bx.mk s1; clear hb s1
  go_wp2_with fail
  go_ret
  exact ⟨rfl, HZ.out⟩
set_option maxHeartbeats 6400000 in
set_option maxRecDepth 100000 in
theorem meets_both (W : World) (La Ia Lb Ib Lc Ic p1 p2 q1 q2 u1 u2 x1 x2 x3 v1 v2 y1 y2 : Nat) (hs : Seed W W)
    (C1 : Bx (∀ w, Calls Tryd.prog 10 #[.agg #[.int .u8 (La : Int), .int .u64 (Ia : Int)], .agg #[.int .u8 (Lb : Int), .int .u64 (Ib : Int)]] w fun e w' => e = .returned (.tuple #[.agg #[.int .u8 (Lc : Int), .int .u64 (Ic : Int)], .bool true]) ∧ Below w.heap.size w w'))
    (C2 : Bx (∀ w, Calls Tryd.prog 10 #[.agg #[.int .u8 (Lb : Int), .int .u64 (Ib : Int)], .agg #[.int .u8 (La : Int), .int .u64 (Ia : Int)]] w fun e w' => e = .returned (.tuple #[.agg #[.int .u8 (Lc : Int), .int .u64 (Ic : Int)], .bool true]) ∧ Below w.heap.size w w'))
    (C3 : Bx (∀ w, Calls Tryd.prog 18 #[.agg #[.int .u8 (La : Int), .int .u64 (Ia : Int)]] w fun e w' => e = .returned (.tuple #[.agg #[.int .u64 (p1 : Int), .int .u64 (p2 : Int)], .bool true]) ∧ Below w.heap.size w w'))
    (C4 : Bx (∀ w, Calls Tryd.prog 18 #[.agg #[.int .u8 (Lb : Int), .int .u64 (Ib : Int)]] w fun e w' => e = .returned (.tuple #[.agg #[.int .u64 (q1 : Int), .int .u64 (q2 : Int)], .bool true]) ∧ Below w.heap.size w w'))
    (C5 : Bx (∀ w, Calls Tryd.prog 18 #[.agg #[.int .u8 (Lc : Int), .int .u64 (Ic : Int)]] w fun e w' => e = .returned (.tuple #[.agg #[.int .u64 (u1 : Int), .int .u64 (u2 : Int)], .bool true]) ∧ Below w.heap.size w w'))
    (C9 : Bx (∀ w, Calls Tryd.prog 10 #[.agg #[.int .u8 (La : Int), .int .u64 (Ia : Int)], .agg #[.int .u8 (La : Int), .int .u64 (Ia : Int)]] w fun e w' => e = .returned (.tuple #[.agg #[.int .u8 (La : Int), .int .u64 (Ia : Int)], .bool true]) ∧ Below w.heap.size w w'))
    (f1 : u1 ≤ p1) (f2 : p2 ≤ u2) (f3 : u1 ≤ q1) (f4 : q2 ≤ u2)
    (g1 : ∀ w, (binOp .neq 24 (.agg #[.int .u8 (Lc : Int), .int .u64 (Ic : Int)]) (.agg #[.int .u8 (Lc : Int), .int .u64 (Ic : Int)])).run Tryd.prog w = .ok (.bool false) w)
    (g2 : ∀ w, (binOp .eql 24 (.agg #[.int .u8 (La : Int), .int .u64 (Ia : Int)]) (.agg #[.int .u8 (La : Int), .int .u64 (Ia : Int)])).run Tryd.prog w = .ok (.bool true) w)
    (C6 : Bx (∀ w, Calls Tryd.prog 19 #[.agg #[.int .u8 (Lc : Int), .int .u64 (Ic : Int)]] w fun e w' => e = .returned (.tuple #[.agg #[.int .u8 (x1 : Int), .int .u64 (x2 : Int)], .agg #[.int .u8 (x1 : Int), .int .u64 (x3 : Int)], .bool true]) ∧ Below w.heap.size w w'))
    (C7 : Bx (∀ w, Calls Tryd.prog 18 #[.agg #[.int .u8 (x1 : Int), .int .u64 (x2 : Int)]] w fun e w' => e = .returned (.tuple #[.agg #[.int .u64 (v1 : Int), .int .u64 (v2 : Int)], .bool true]) ∧ Below w.heap.size w w'))
    (C8 : Bx (∀ w, Calls Tryd.prog 18 #[.agg #[.int .u8 (x1 : Int), .int .u64 (x3 : Int)]] w fun e w' => e = .returned (.tuple #[.agg #[.int .u64 (y1 : Int), .int .u64 (y2 : Int)], .bool true]) ∧ Below w.heap.size w w'))
    (f5 : Bx (¬ (p2 ≤ v2 ∧ q2 ≤ v2))) (f6 : Bx (¬ (y1 ≤ p1 ∧ y1 ≤ q1)))
    : Calls Tryd.prog 5 #[.agg #[.int .u8 (La : Int), .int .u64 (Ia : Int)], .agg #[.int .u8 (Lb : Int), .int .u64 (Ib : Int)]] W fun e w' => e = .returned (.bool true) ∧ Below W.heap.size W w' := by
  have s0 := (hs.alloc (.cells #[.int .u8 (La : Int), .int .u64 (Ia : Int)] 24)).alloc (.cells #[.int .u8 (Lb : Int), .int .u64 (Ib : Int)] 24)
  have ma := (At.new W 24 (.int .u8 (La : Int)) (.int .u64 (Ia : Int))).alloc (.cells #[.int .u8 (Lb : Int), .int .u64 (Ib : Int)] 24)
  have mb : At ((W.alloc (.cells #[.int .u8 (La : Int), .int .u64 (Ia : Int)] 24)).alloc (.cells #[.int .u8 (Lb : Int), .int .u64 (Ib : Int)] 24)) (W.heap.size + 1) 24 (.int .u8 (Lb : Int)) (.int .u64 (Ib : Int)) := heap_alloc2_new _ _ _
  have SS := Bx.mk s0; have Ma := Bx.mk ma; have Mb := Bx.mk mb
  clear s0 hs ma mb
  go_enter Tryd.func5, Tryd.ntmps5
  go_wp2_with fail
  refine (C1.out _).mono ?_
  rintro e w1 ⟨rfl, hb⟩
  have ma := (Ma.out.below hb).alloc (.cells #[.int .u8 (Lc : Int), .int .u64 (Ic : Int)] 24)
  have mb := (Mb.out.below hb).alloc (.cells #[.int .u8 (Lc : Int), .int .u64 (Ic : Int)] 24)
  have s1 := (SS.out.next hb).alloc (.cells #[.int .u8 (Lc : Int), .int .u64 (Ic : Int)] 24)
  have mc := At.new w1 24 (.int .u8 (Lc : Int)) (.int .u64 (Ic : Int))
  obtain ⟨xa1, xa2, xa3, xa4⟩ := ma.cells
  obtain ⟨xb1, xb2, xb3, xb4⟩ := mb.cells
  obtain ⟨xc1, xc2, xc3, xc4⟩ := mc.cells
  have Ma := Bx.mk ma; have Mb := Bx.mk mb; have Mc := Bx.mk mc; have SS := Bx.mk s1
  clear hb s1 ma mb mc
  go_wp2_with fail
  refine (C2.out _).mono ?_
  rintro e w2 ⟨rfl, hb⟩
  have ma := (Ma.out.below hb).alloc (.cells #[.int .u8 (Lc : Int), .int .u64 (Ic : Int)] 24)
  have mb := (Mb.out.below hb).alloc (.cells #[.int .u8 (Lc : Int), .int .u64 (Ic : Int)] 24)
  have mc := (Mc.out.below hb).alloc (.cells #[.int .u8 (Lc : Int), .int .u64 (Ic : Int)] 24)
  have s1 := (SS.out.next hb).alloc (.cells #[.int .u8 (Lc : Int), .int .u64 (Ic : Int)] 24)
  have md := At.new w2 24 (.int .u8 (Lc : Int)) (.int .u64 (Ic : Int))
  obtain ⟨xa1, xa2, xa3, xa4⟩ := ma.cells
  obtain ⟨xb1, xb2, xb3, xb4⟩ := mb.cells
  obtain ⟨xc1, xc2, xc3, xc4⟩ := mc.cells
  obtain ⟨xd1, xd2, xd3, xd4⟩ := md.cells
  have Ma := Bx.mk ma; have Mb := Bx.mk mb; have Mc := Bx.mk mc; have Md := Bx.mk md; have SS := Bx.mk s1
  clear hb s1 ma mb mc md
  go_wp2_with fail
  refine (C3.out _).mono ?_
  rintro e w3 ⟨rfl, hb⟩
  have ma := (Ma.out.below hb).alloc (.cells #[.int .u64 (p1 : Int), .int .u64 (p2 : Int)] 36)
  have mb := (Mb.out.below hb).alloc (.cells #[.int .u64 (p1 : Int), .int .u64 (p2 : Int)] 36)
  have mc := (Mc.out.below hb).alloc (.cells #[.int .u64 (p1 : Int), .int .u64 (p2 : Int)] 36)
  have md := (Md.out.below hb).alloc (.cells #[.int .u64 (p1 : Int), .int .u64 (p2 : Int)] 36)
  have s1 := (SS.out.next hb).alloc (.cells #[.int .u64 (p1 : Int), .int .u64 (p2 : Int)] 36)
  have ms := At.new w3 36 (.int .u64 (p1 : Int)) (.int .u64 (p2 : Int))
  obtain ⟨xa1, xa2, xa3, xa4⟩ := ma.cells
  obtain ⟨xb1, xb2, xb3, xb4⟩ := mb.cells
  obtain ⟨xc1, xc2, xc3, xc4⟩ := mc.cells
  obtain ⟨xd1, xd2, xd3, xd4⟩ := md.cells
  obtain ⟨xs1, xs2, xs3, xs4⟩ := ms.cells
  have Ma := Bx.mk ma; have Mb := Bx.mk mb; have Mc := Bx.mk mc; have Md := Bx.mk md; have Ms := Bx.mk ms; have SS := Bx.mk s1
  clear hb s1 ma mb mc md ms
  go_wp2_with fail
  refine (C4.out _).mono ?_
  rintro e w4 ⟨rfl, hb⟩
  have ma := (Ma.out.below hb).alloc (.cells #[.int .u64 (q1 : Int), .int .u64 (q2 : Int)] 36)
  have mb := (Mb.out.below hb).alloc (.cells #[.int .u64 (q1 : Int), .int .u64 (q2 : Int)] 36)
  have mc := (Mc.out.below hb).alloc (.cells #[.int .u64 (q1 : Int), .int .u64 (q2 : Int)] 36)
  have md := (Md.out.below hb).alloc (.cells #[.int .u64 (q1 : Int), .int .u64 (q2 : Int)] 36)
  have ms := (Ms.out.below hb).alloc (.cells #[.int .u64 (q1 : Int), .int .u64 (q2 : Int)] 36)
  have s1 := (SS.out.next hb).alloc (.cells #[.int .u64 (q1 : Int), .int .u64 (q2 : Int)] 36)
  have mt := At.new w4 36 (.int .u64 (q1 : Int)) (.int .u64 (q2 : Int))
  obtain ⟨xa1, xa2, xa3, xa4⟩ := ma.cells
  obtain ⟨xb1, xb2, xb3, xb4⟩ := mb.cells
  obtain ⟨xc1, xc2, xc3, xc4⟩ := mc.cells
  obtain ⟨xd1, xd2, xd3, xd4⟩ := md.cells
  obtain ⟨xs1, xs2, xs3, xs4⟩ := ms.cells
  obtain ⟨xt1, xt2, xt3, xt4⟩ := mt.cells
  have Ma := Bx.mk ma; have Mb := Bx.mk mb; have Mc := Bx.mk mc; have Md := Bx.mk md; have Ms := Bx.mk ms; have Mt := Bx.mk mt; have SS := Bx.mk s1
  clear hb s1 ma mb mc md ms mt
  go_wp2_with fail
  clear Md
  refine (C5.out _).mono ?_
  rintro e w5 ⟨rfl, hb⟩
  have ma := (Ma.out.below hb).alloc (.cells #[.int .u64 (u1 : Int), .int .u64 (u2 : Int)] 36)
  have mb := (Mb.out.below hb).alloc (.cells #[.int .u64 (u1 : Int), .int .u64 (u2 : Int)] 36)
  have mc := (Mc.out.below hb).alloc (.cells #[.int .u64 (u1 : Int), .int .u64 (u2 : Int)] 36)
  have ms := (Ms.out.below hb).alloc (.cells #[.int .u64 (u1 : Int), .int .u64 (u2 : Int)] 36)
  have mt := (Mt.out.below hb).alloc (.cells #[.int .u64 (u1 : Int), .int .u64 (u2 : Int)] 36)
  have s1 := (SS.out.next hb).alloc (.cells #[.int .u64 (u1 : Int), .int .u64 (u2 : Int)] 36)
  have mu := At.new w5 36 (.int .u64 (u1 : Int)) (.int .u64 (u2 : Int))
  obtain ⟨xa1, xa2, xa3, xa4⟩ := ma.cells
  obtain ⟨xb1, xb2, xb3, xb4⟩ := mb.cells
  obtain ⟨xc1, xc2, xc3, xc4⟩ := mc.cells
  obtain ⟨xs1, xs2, xs3, xs4⟩ := ms.cells
  obtain ⟨xt1, xt2, xt3, xt4⟩ := mt.cells
  obtain ⟨xu1, xu2, xu3, xu4⟩ := mu.cells
  have Ma := Bx.mk ma; have Mb := Bx.mk mb; have Mc := Bx.mk mc; have Ms := Bx.mk ms; have Mt := Bx.mk mt; have Mu := Bx.mk mu; have SS := Bx.mk s1
  clear hb s1 ma mb mc ms mt mu
  go_wp2_with fail
  clear Mu Mb
  refine (C6.out _).mono ?_
  rintro e w6 ⟨rfl, hb⟩
  have ma := ((Ma.out.below hb).alloc (.cells #[.int .u8 (x1 : Int), .int .u64 (x2 : Int)] 24)).alloc (.cells #[.int .u8 (x1 : Int), .int .u64 (x3 : Int)] 24)
  have mc := ((Mc.out.below hb).alloc (.cells #[.int .u8 (x1 : Int), .int .u64 (x2 : Int)] 24)).alloc (.cells #[.int .u8 (x1 : Int), .int .u64 (x3 : Int)] 24)
  have ms := ((Ms.out.below hb).alloc (.cells #[.int .u8 (x1 : Int), .int .u64 (x2 : Int)] 24)).alloc (.cells #[.int .u8 (x1 : Int), .int .u64 (x3 : Int)] 24)
  have mt := ((Mt.out.below hb).alloc (.cells #[.int .u8 (x1 : Int), .int .u64 (x2 : Int)] 24)).alloc (.cells #[.int .u8 (x1 : Int), .int .u64 (x3 : Int)] 24)
  have s1 := ((SS.out.next hb).alloc (.cells #[.int .u8 (x1 : Int), .int .u64 (x2 : Int)] 24)).alloc (.cells #[.int .u8 (x1 : Int), .int .u64 (x3 : Int)] 24)
  have ml := (At.new w6 24 (.int .u8 (x1 : Int)) (.int .u64 (x2 : Int))).alloc (.cells #[.int .u8 (x1 : Int), .int .u64 (x3 : Int)] 24)
  have mr : At ((w6.alloc (.cells #[.int .u8 (x1 : Int), .int .u64 (x2 : Int)] 24)).alloc (.cells #[.int .u8 (x1 : Int), .int .u64 (x3 : Int)] 24)) (w6.heap.size + 1) 24 (.int .u8 (x1 : Int)) (.int .u64 (x3 : Int)) := heap_alloc2_new _ _ _
  obtain ⟨xa1, xa2, xa3, xa4⟩ := ma.cells
  obtain ⟨xc1, xc2, xc3, xc4⟩ := mc.cells
  obtain ⟨xs1, xs2, xs3, xs4⟩ := ms.cells
  obtain ⟨xt1, xt2, xt3, xt4⟩ := mt.cells
  obtain ⟨xl1, xl2, xl3, xl4⟩ := ml.cells
  obtain ⟨xr1, xr2, xr3, xr4⟩ := mr.cells
  have Ma := Bx.mk ma; have Mc := Bx.mk mc; have Ms := Bx.mk ms; have Mt := Bx.mk mt; have Ml := Bx.mk ml; have Mr := Bx.mk mr; have SS := Bx.mk s1
  clear hb s1 ma mc ms mt ml mr
  go_wp2_with fail
  clear Mc
  refine (C7.out _).mono ?_
  rintro e w7 ⟨rfl, hb⟩
  have ma := (Ma.out.below hb).alloc (.cells #[.int .u64 (v1 : Int), .int .u64 (v2 : Int)] 36)
  have ms := (Ms.out.below hb).alloc (.cells #[.int .u64 (v1 : Int), .int .u64 (v2 : Int)] 36)
  have mt := (Mt.out.below hb).alloc (.cells #[.int .u64 (v1 : Int), .int .u64 (v2 : Int)] 36)
  have ml := (Ml.out.below hb).alloc (.cells #[.int .u64 (v1 : Int), .int .u64 (v2 : Int)] 36)
  have mr := (Mr.out.below hb).alloc (.cells #[.int .u64 (v1 : Int), .int .u64 (v2 : Int)] 36)
  have s1 := (SS.out.next hb).alloc (.cells #[.int .u64 (v1 : Int), .int .u64 (v2 : Int)] 36)
  have mv := At.new w7 36 (.int .u64 (v1 : Int)) (.int .u64 (v2 : Int))
  obtain ⟨xa1, xa2, xa3, xa4⟩ := ma.cells
  obtain ⟨xs1, xs2, xs3, xs4⟩ := ms.cells
  obtain ⟨xt1, xt2, xt3, xt4⟩ := mt.cells
  obtain ⟨xl1, xl2, xl3, xl4⟩ := ml.cells
  obtain ⟨xr1, xr2, xr3, xr4⟩ := mr.cells
  obtain ⟨xv1, xv2, xv3, xv4⟩ := mv.cells
  have Ma := Bx.mk ma; have Ms := Bx.mk ms; have Mt := Bx.mk mt; have Ml := Bx.mk ml; have Mr := Bx.mk mr; have Mv := Bx.mk mv; have SS := Bx.mk s1
  clear hb s1 ma ms mt ml mr mv
  go_wp2_with fail
  refine (C8.out _).mono ?_
  rintro e w8 ⟨rfl, hb⟩
  have ma := (Ma.out.below hb).alloc (.cells #[.int .u64 (y1 : Int), .int .u64 (y2 : Int)] 36)
  have ms := (Ms.out.below hb).alloc (.cells #[.int .u64 (y1 : Int), .int .u64 (y2 : Int)] 36)
  have mt := (Mt.out.below hb).alloc (.cells #[.int .u64 (y1 : Int), .int .u64 (y2 : Int)] 36)
  have ml := (Ml.out.below hb).alloc (.cells #[.int .u64 (y1 : Int), .int .u64 (y2 : Int)] 36)
  have mr := (Mr.out.below hb).alloc (.cells #[.int .u64 (y1 : Int), .int .u64 (y2 : Int)] 36)
  have mv := (Mv.out.below hb).alloc (.cells #[.int .u64 (y1 : Int), .int .u64 (y2 : Int)] 36)
  have s1 := (SS.out.next hb).alloc (.cells #[.int .u64 (y1 : Int), .int .u64 (y2 : Int)] 36)
  have my := At.new w8 36 (.int .u64 (y1 : Int)) (.int .u64 (y2 : Int))
  obtain ⟨xa1, xa2, xa3, xa4⟩ := ma.cells
  obtain ⟨xs1, xs2, xs3, xs4⟩ := ms.cells
  obtain ⟨xt1, xt2, xt3, xt4⟩ := mt.cells
  obtain ⟨xl1, xl2, xl3, xl4⟩ := ml.cells
  obtain ⟨xr1, xr2, xr3, xr4⟩ := mr.cells
  obtain ⟨xv1, xv2, xv3, xv4⟩ := mv.cells
  obtain ⟨xy1, xy2, xy3, xy4⟩ := my.cells
  have Ma := Bx.mk ma; have Ms := Bx.mk ms; have Mt := Bx.mk mt; have Ml := Bx.mk ml; have Mr := Bx.mk mr; have Mv := Bx.mk mv; have My := Bx.mk my; have SS := Bx.mk s1
  clear hb s1 ma ms mt ml mr mv my
  clear Ml Mr Ms Mt Mv My
  go_upto_region 16 with (fail)
  go_cut [147] (fun v wc => v = .bool false ∧ wc = w8.alloc (.cells #[.int .u64 (y1 : Int), .int .u64 (y2 : Int)] 36))
  case first =>
    have f5' := f5.out; have f6' := f6.out
    by_cases h1 : p2 ≤ v2 <;> by_cases h2 : y1 ≤ p1
    · have h3 : ¬ q2 ≤ v2 := fun h => f5' ⟨h1, h⟩
      have h4 : ¬ y1 ≤ q1 := fun h => f6' ⟨h2, h⟩
      clear f5' f6' f5 f6
      go_wp2_with fail
      go_meet
      case rel => exact ⟨rfl, rfl⟩
    · have h3 : ¬ q2 ≤ v2 := fun h => f5' ⟨h1, h⟩
      clear f5' f6' f5 f6
      go_wp2_with fail
      go_meet
      case rel => exact ⟨rfl, rfl⟩
    · have h4 : ¬ y1 ≤ q1 := fun h => f6' ⟨h2, h⟩
      clear f5' f6' f5 f6
      go_wp2_with fail
      go_meet
      case rel => exact ⟨rfl, rfl⟩
    · clear f5' f6' f5 f6
      go_wp2_with fail
      go_meet
      case rel => exact ⟨rfl, rfl⟩
  case rest =>
  obtain ⟨rfl, rfl⟩ := hcut
  go_wp2_with fail
  refine (C9.out _).mono ?_
  rintro e w9 ⟨rfl, hb⟩
  have ma := (Ma.out.below hb).alloc (.cells #[.int .u8 (La : Int), .int .u64 (Ia : Int)] 24)
  have s1 := (SS.out.next hb).alloc (.cells #[.int .u8 (La : Int), .int .u64 (Ia : Int)] 24)
  have me := At.new w9 24 (.int .u8 (La : Int)) (.int .u64 (Ia : Int))
  obtain ⟨xa1, xa2, xa3, xa4⟩ := ma.cells
  obtain ⟨xe1, xe2, xe3, xe4⟩ := me.cells
  have Ma := Bx.mk ma; have Me := Bx.mk me; have SS := Bx.mk s1
  clear hb s1 ma me
  go_wp2_with fail
  refine SS.out.alive.mono ?_
  rintro e wz ⟨rfl, hb⟩
  have s1 := (SS.out.next hb).below
  have HZ := Bx.mk s1; clear hb s1
  go_wp2_with fail
  go_ret
  exact ⟨rfl, HZ.out⟩
set_option maxHeartbeats 6400000 in
set_option maxRecDepth 100000 in
theorem meets_no (W : World) (La Ia Lb Ib p1 p2 q1 q2 : Nat) (hs : Seed W W)
    (C1 : Bx (∀ w, Calls Tryd.prog 10 #[.agg #[.int .u8 (La : Int), .int .u64 (Ia : Int)], .agg #[.int .u8 (Lb : Int), .int .u64 (Ib : Int)]] w fun e w' => e = .returned (.tuple #[.agg #[.int .u8 0, .int .u64 0], .bool false]) ∧ Below w.heap.size w w'))
    (C2 : Bx (∀ w, Calls Tryd.prog 10 #[.agg #[.int .u8 (Lb : Int), .int .u64 (Ib : Int)], .agg #[.int .u8 (La : Int), .int .u64 (Ia : Int)]] w fun e w' => e = .returned (.tuple #[.agg #[.int .u8 0, .int .u64 0], .bool false]) ∧ Below w.heap.size w w'))
    (k1 k2 : Bool) (hk : (k1 && k2) = false)
    (C3 : Bx (∀ w, Calls Tryd.prog 18 #[.agg #[.int .u8 (La : Int), .int .u64 (Ia : Int)]] w fun e w' => e = .returned (.tuple #[.agg #[.int .u64 (p1 : Int), .int .u64 (p2 : Int)], .bool k1]) ∧ Below w.heap.size w w'))
    (C4 : Bx (∀ w, Calls Tryd.prog 18 #[.agg #[.int .u8 (Lb : Int), .int .u64 (Ib : Int)]] w fun e w' => e = .returned (.tuple #[.agg #[.int .u64 (q1 : Int), .int .u64 (q2 : Int)], .bool k2]) ∧ Below w.heap.size w w'))
    : Calls Tryd.prog 5 #[.agg #[.int .u8 (La : Int), .int .u64 (Ia : Int)], .agg #[.int .u8 (Lb : Int), .int .u64 (Ib : Int)]] W fun e w' => e = .returned (.bool true) ∧ Below W.heap.size W w' := by
  have s0 := (hs.alloc (.cells #[.int .u8 (La : Int), .int .u64 (Ia : Int)] 24)).alloc (.cells #[.int .u8 (Lb : Int), .int .u64 (Ib : Int)] 24)
  have ma := (At.new W 24 (.int .u8 (La : Int)) (.int .u64 (Ia : Int))).alloc (.cells #[.int .u8 (Lb : Int), .int .u64 (Ib : Int)] 24)
  have mb : At ((W.alloc (.cells #[.int .u8 (La : Int), .int .u64 (Ia : Int)] 24)).alloc (.cells #[.int .u8 (Lb : Int), .int .u64 (Ib : Int)] 24)) (W.heap.size + 1) 24 (.int .u8 (Lb : Int)) (.int .u64 (Ib : Int)) := heap_alloc2_new _ _ _
  have SS := Bx.mk s0; have Ma := Bx.mk ma; have Mb := Bx.mk mb
  clear s0 hs ma mb
  go_enter Tryd.func5, Tryd.ntmps5
  go_wp2_with fail
  cases k1
  · clear hk
    refine (C1.out _).mono ?_
    rintro e w1 ⟨rfl, hb⟩
    have ma := (Ma.out.below hb).alloc (.cells #[.int .u8 0, .int .u64 0] 24)
    have mb := (Mb.out.below hb).alloc (.cells #[.int .u8 0, .int .u64 0] 24)
    have s1 := (SS.out.next hb).alloc (.cells #[.int .u8 0, .int .u64 0] 24)
    have mc := At.new w1 24 (.int .u8 0) (.int .u64 0)
    obtain ⟨xa1, xa2, xa3, xa4⟩ := ma.cells
    obtain ⟨xb1, xb2, xb3, xb4⟩ := mb.cells
    obtain ⟨xc1, xc2, xc3, xc4⟩ := mc.cells
    have Ma := Bx.mk ma; have Mb := Bx.mk mb; have Mc := Bx.mk mc; have SS := Bx.mk s1
    clear hb s1 ma mb mc
    go_wp2_with fail
    refine (C2.out _).mono ?_
    rintro e w2 ⟨rfl, hb⟩
    have ma := (Ma.out.below hb).alloc (.cells #[.int .u8 0, .int .u64 0] 24)
    have mb := (Mb.out.below hb).alloc (.cells #[.int .u8 0, .int .u64 0] 24)
    have mc := (Mc.out.below hb).alloc (.cells #[.int .u8 0, .int .u64 0] 24)
    have s1 := (SS.out.next hb).alloc (.cells #[.int .u8 0, .int .u64 0] 24)
    have md := At.new w2 24 (.int .u8 0) (.int .u64 0)
    obtain ⟨xa1, xa2, xa3, xa4⟩ := ma.cells
    obtain ⟨xb1, xb2, xb3, xb4⟩ := mb.cells
    obtain ⟨xc1, xc2, xc3, xc4⟩ := mc.cells
    obtain ⟨xd1, xd2, xd3, xd4⟩ := md.cells
    have Ma := Bx.mk ma; have Mb := Bx.mk mb; have Mc := Bx.mk mc; have Md := Bx.mk md; have SS := Bx.mk s1
    clear hb s1 ma mb mc md
    go_wp2_with fail
    refine (C3.out _).mono ?_
    rintro e w3 ⟨rfl, hb⟩
    have ma := (Ma.out.below hb).alloc (.cells #[.int .u64 (p1 : Int), .int .u64 (p2 : Int)] 36)
    have mb := (Mb.out.below hb).alloc (.cells #[.int .u64 (p1 : Int), .int .u64 (p2 : Int)] 36)
    have mc := (Mc.out.below hb).alloc (.cells #[.int .u64 (p1 : Int), .int .u64 (p2 : Int)] 36)
    have md := (Md.out.below hb).alloc (.cells #[.int .u64 (p1 : Int), .int .u64 (p2 : Int)] 36)
    have s1 := (SS.out.next hb).alloc (.cells #[.int .u64 (p1 : Int), .int .u64 (p2 : Int)] 36)
    have ms := At.new w3 36 (.int .u64 (p1 : Int)) (.int .u64 (p2 : Int))
    obtain ⟨xa1, xa2, xa3, xa4⟩ := ma.cells
    obtain ⟨xb1, xb2, xb3, xb4⟩ := mb.cells
    obtain ⟨xc1, xc2, xc3, xc4⟩ := mc.cells
    obtain ⟨xd1, xd2, xd3, xd4⟩ := md.cells
    obtain ⟨xs1, xs2, xs3, xs4⟩ := ms.cells
    have Ma := Bx.mk ma; have Mb := Bx.mk mb; have Mc := Bx.mk mc; have Md := Bx.mk md; have Ms := Bx.mk ms; have SS := Bx.mk s1
    clear hb s1 ma mb mc md ms
    go_wp2_with fail
    refine (C4.out _).mono ?_
    rintro e w4 ⟨rfl, hb⟩
    have ma := (Ma.out.below hb).alloc (.cells #[.int .u64 (q1 : Int), .int .u64 (q2 : Int)] 36)
    have mb := (Mb.out.below hb).alloc (.cells #[.int .u64 (q1 : Int), .int .u64 (q2 : Int)] 36)
    have mc := (Mc.out.below hb).alloc (.cells #[.int .u64 (q1 : Int), .int .u64 (q2 : Int)] 36)
    have md := (Md.out.below hb).alloc (.cells #[.int .u64 (q1 : Int), .int .u64 (q2 : Int)] 36)
    have ms := (Ms.out.below hb).alloc (.cells #[.int .u64 (q1 : Int), .int .u64 (q2 : Int)] 36)
    have s1 := (SS.out.next hb).alloc (.cells #[.int .u64 (q1 : Int), .int .u64 (q2 : Int)] 36)
    have mt := At.new w4 36 (.int .u64 (q1 : Int)) (.int .u64 (q2 : Int))
    obtain ⟨xa1, xa2, xa3, xa4⟩ := ma.cells
    obtain ⟨xb1, xb2, xb3, xb4⟩ := mb.cells
    obtain ⟨xc1, xc2, xc3, xc4⟩ := mc.cells
    obtain ⟨xd1, xd2, xd3, xd4⟩ := md.cells
    obtain ⟨xs1, xs2, xs3, xs4⟩ := ms.cells
    obtain ⟨xt1, xt2, xt3, xt4⟩ := mt.cells
    have Ma := Bx.mk ma; have Mb := Bx.mk mb; have Mc := Bx.mk mc; have Md := Bx.mk md; have Ms := Bx.mk ms; have Mt := Bx.mk mt; have SS := Bx.mk s1
    clear hb s1 ma mb mc md ms mt
    go_wp2_with fail
    refine SS.out.alive.mono ?_
    rintro e wz ⟨rfl, hb⟩
    have s1 := (SS.out.next hb).below
    have HZ := Bx.mk s1; clear hb s1
    go_wp2_with fail
    go_ret
    exact ⟨rfl, HZ.out⟩
  · obtain rfl : k2 = false := by simpa using hk
    clear hk
    refine (C1.out _).mono ?_
    rintro e w1 ⟨rfl, hb⟩
    have ma := (Ma.out.below hb).alloc (.cells #[.int .u8 0, .int .u64 0] 24)
    have mb := (Mb.out.below hb).alloc (.cells #[.int .u8 0, .int .u64 0] 24)
    have s1 := (SS.out.next hb).alloc (.cells #[.int .u8 0, .int .u64 0] 24)
    have mc := At.new w1 24 (.int .u8 0) (.int .u64 0)
    obtain ⟨xa1, xa2, xa3, xa4⟩ := ma.cells
    obtain ⟨xb1, xb2, xb3, xb4⟩ := mb.cells
    obtain ⟨xc1, xc2, xc3, xc4⟩ := mc.cells
    have Ma := Bx.mk ma; have Mb := Bx.mk mb; have Mc := Bx.mk mc; have SS := Bx.mk s1
    clear hb s1 ma mb mc
    go_wp2_with fail
    refine (C2.out _).mono ?_
    rintro e w2 ⟨rfl, hb⟩
    have ma := (Ma.out.below hb).alloc (.cells #[.int .u8 0, .int .u64 0] 24)
    have mb := (Mb.out.below hb).alloc (.cells #[.int .u8 0, .int .u64 0] 24)
    have mc := (Mc.out.below hb).alloc (.cells #[.int .u8 0, .int .u64 0] 24)
    have s1 := (SS.out.next hb).alloc (.cells #[.int .u8 0, .int .u64 0] 24)
    have md := At.new w2 24 (.int .u8 0) (.int .u64 0)
    obtain ⟨xa1, xa2, xa3, xa4⟩ := ma.cells
    obtain ⟨xb1, xb2, xb3, xb4⟩ := mb.cells
    obtain ⟨xc1, xc2, xc3, xc4⟩ := mc.cells
    obtain ⟨xd1, xd2, xd3, xd4⟩ := md.cells
    have Ma := Bx.mk ma; have Mb := Bx.mk mb; have Mc := Bx.mk mc; have Md := Bx.mk md; have SS := Bx.mk s1
    clear hb s1 ma mb mc md
    go_wp2_with fail
    refine (C3.out _).mono ?_
    rintro e w3 ⟨rfl, hb⟩
    have ma := (Ma.out.below hb).alloc (.cells #[.int .u64 (p1 : Int), .int .u64 (p2 : Int)] 36)
    have mb := (Mb.out.below hb).alloc (.cells #[.int .u64 (p1 : Int), .int .u64 (p2 : Int)] 36)
    have mc := (Mc.out.below hb).alloc (.cells #[.int .u64 (p1 : Int), .int .u64 (p2 : Int)] 36)
    have md := (Md.out.below hb).alloc (.cells #[.int .u64 (p1 : Int), .int .u64 (p2 : Int)] 36)
    have s1 := (SS.out.next hb).alloc (.cells #[.int .u64 (p1 : Int), .int .u64 (p2 : Int)] 36)
    have ms := At.new w3 36 (.int .u64 (p1 : Int)) (.int .u64 (p2 : Int))
    obtain ⟨xa1, xa2, xa3, xa4⟩ := ma.cells
    obtain ⟨xb1, xb2, xb3, xb4⟩ := mb.cells
    obtain ⟨xc1, xc2, xc3, xc4⟩ := mc.cells
    obtain ⟨xd1, xd2, xd3, xd4⟩ := md.cells
    obtain ⟨xs1, xs2, xs3, xs4⟩ := ms.cells
    have Ma := Bx.mk ma; have Mb := Bx.mk mb; have Mc := Bx.mk mc; have Md := Bx.mk md; have Ms := Bx.mk ms; have SS := Bx.mk s1
    clear hb s1 ma mb mc md ms
    go_wp2_with fail
    refine (C4.out _).mono ?_
    rintro e w4 ⟨rfl, hb⟩
    have ma := (Ma.out.below hb).alloc (.cells #[.int .u64 (q1 : Int), .int .u64 (q2 : Int)] 36)
    have mb := (Mb.out.below hb).alloc (.cells #[.int .u64 (q1 : Int), .int .u64 (q2 : Int)] 36)
    have mc := (Mc.out.below hb).alloc (.cells #[.int .u64 (q1 : Int), .int .u64 (q2 : Int)] 36)
    have md := (Md.out.below hb).alloc (.cells #[.int .u64 (q1 : Int), .int .u64 (q2 : Int)] 36)
    have ms := (Ms.out.below hb).alloc (.cells #[.int .u64 (q1 : Int), .int .u64 (q2 : Int)] 36)
    have s1 := (SS.out.next hb).alloc (.cells #[.int .u64 (q1 : Int), .int .u64 (q2 : Int)] 36)
    have mt := At.new w4 36 (.int .u64 (q1 : Int)) (.int .u64 (q2 : Int))
    obtain ⟨xa1, xa2, xa3, xa4⟩ := ma.cells
    obtain ⟨xb1, xb2, xb3, xb4⟩ := mb.cells
    obtain ⟨xc1, xc2, xc3, xc4⟩ := mc.cells
    obtain ⟨xd1, xd2, xd3, xd4⟩ := md.cells
    obtain ⟨xs1, xs2, xs3, xs4⟩ := ms.cells
    obtain ⟨xt1, xt2, xt3, xt4⟩ := mt.cells
    have Ma := Bx.mk ma; have Mb := Bx.mk mb; have Mc := Bx.mk mc; have Md := Bx.mk md; have Ms := Bx.mk ms; have Mt := Bx.mk mt; have SS := Bx.mk s1
    clear hb s1 ma mb mc md ms mt
    go_wp2_with fail
    refine SS.out.alive.mono ?_
    rintro e wz ⟨rfl, hb⟩
    have s1 := (SS.out.next hb).below
    have HZ := Bx.mk s1; clear hb s1
    go_wp2_with fail
    go_ret
    exact ⟨rfl, HZ.out⟩
theorem meets_any (W : World) (La Ia Lb Ib : Nat) (hs : Seed W W) : Calls Tryd.prog 5 #[cv La Ia, cv Lb Ib] W fun e w' => e = .returned (.bool true) ∧ Below W.heap.size W w' := by
  have c1 := fun w => common_any w La Ia Lb Ib
  have c2 := fun w => common_any w Lb Ib La Ia
  rw [(com_swap La Ia Lb Ib).1, (com_swap La Ia Lb Ib).2, comK_symm La Ia Lb Ib] at c2
  have c3 := fun w => span_any w La Ia
  have c4 := fun w => span_any w Lb Ib
  have c5 := fun w => span_any w (comL La Ia Lb Ib) (comI La Ia Lb Ib)
  have c6 := fun w => children_any w (comL La Ia Lb Ib) (comI La Ia Lb Ib)
  have c9 := fun w => common_any w La Ia La Ia
  by_cases hk : comK La Ia Lb Ib = true
  · have hk' := hk
    unfold comK at hk'
    rw [Bool.and_eq_true] at hk'
    obtain ⟨ha, hb⟩ := hk'
    obtain ⟨z1, z2, z3⟩ := com_self ha
    obtain ⟨hm, f1, f2, f3, f4⟩ := meets_law hk
    rw [hk] at c1 c2
    rw [ha] at c3; rw [hb] at c4; rw [hm] at c5
    rw [z1, z2, z3] at c9
    have g1 := fun w => cv_neq w (comL La Ia Lb Ib) (comI La Ia Lb Ib) (comL La Ia Lb Ib) (comI La Ia Lb Ib)
    rw [decide_eq_true ⟨rfl, rfl⟩] at g1
    have g2 := fun w => cv_eql w La Ia La Ia
    rw [decide_eq_true ⟨rfl, rfl⟩] at g2
    by_cases hd : dnK (comL La Ia Lb Ib) (comI La Ia Lb Ib) = true
    · obtain ⟨f5, f6⟩ := meets_halves hk hd
      obtain ⟨hm', h0⟩ := dnK_iff.1 hd
      obtain ⟨ml, mr⟩ := dn_may hm' h0
      obtain ⟨d1, d2, d3⟩ := dn_of hd
      have c7 := fun w => span_any w (dnL (comL La Ia Lb Ib) (comI La Ia Lb Ib)) (dnI (comL La Ia Lb Ib) (comI La Ia Lb Ib))
      have c8 := fun w => span_any w (dnL (comL La Ia Lb Ib) (comI La Ia Lb Ib)) (dnJ (comL La Ia Lb Ib) (comI La Ia Lb Ib))
      rw [show mayB (dnL (comL La Ia Lb Ib) (comI La Ia Lb Ib)) (dnI (comL La Ia Lb Ib) (comI La Ia Lb Ib)) = true by rw [d1, d2]; exact ml] at c7
      rw [show mayB (dnL (comL La Ia Lb Ib) (comI La Ia Lb Ib)) (dnJ (comL La Ia Lb Ib) (comI La Ia Lb Ib)) = true by rw [d1, d3]; exact mr] at c8
      rw [hd] at c6
      exact meets_both W La Ia Lb Ib _ _ _ _ _ _ _ _ _ _ _ _ _ _ _ hs ⟨c1⟩ ⟨c2⟩ ⟨c3⟩ ⟨c4⟩ ⟨c5⟩ ⟨c9⟩ f1 f2 f3 f4 g1 g2 ⟨c6⟩ ⟨c7⟩ ⟨c8⟩ ⟨f5⟩ ⟨f6⟩
    · rw [Bool.eq_false_iff.2 hd] at c6
      exact meets_leaf W La Ia Lb Ib _ _ _ _ _ _ _ _ _ _ _ hs ⟨c1⟩ ⟨c2⟩ ⟨c3⟩ ⟨c4⟩ ⟨c5⟩ ⟨c9⟩ f1 f2 f3 f4 g1 g2 ⟨c6⟩
  · have hk' := Bool.eq_false_iff.2 hk
    rw [hk', show comL La Ia Lb Ib = 0 by unfold comL; rw [if_neg hk], show comI La Ia Lb Ib = 0 by unfold comI; rw [if_neg hk]] at c1 c2
    exact meets_no W La Ia Lb Ib _ _ _ _ hs ⟨c1⟩ ⟨c2⟩ _ _ hk' ⟨c3⟩ ⟨c4⟩
end Go.Proofs.YtifnmidecjmmnaaDoor
