/- CoordTrees walked. -/
import Derived.Test.YtifnmidecjmmnaaDoorCoT
import Derived.Test.YtifnmidecjmmnaaDoorCoFe
namespace Go.Proofs.YtifnmidecjmmnaaDoor
open Go.RowKit
set_option maxHeartbeats 12800000 in
set_option maxRecDepth 100000 in
theorem trees_walk (W : World) (L I B E p1 p2 d1 d2 u1 u2 v1 v2 l1 l2 r2 : Nat) (k1 k2 k3 k4 : Bool) (hs : Seed W W)
    (C1 : Bx (∀ w, Calls Tryd.prog 18 #[.agg #[.int .u8 (L : Int), .int .u64 (I : Int)]] w fun e w' => e = .returned (.tuple #[.agg #[.int .u64 (p1 : Int), .int .u64 (p2 : Int)], .bool k1]) ∧ Below w.heap.size w w'))
    (C2 : Bx (∀ w, Calls Tryd.prog 20 #[.agg #[.int .u8 (L : Int), .int .u64 (I : Int)]] w fun e w' => e = .returned (.tuple #[.agg #[.int .u64 (p1 : Int), .int .u64 (p2 : Int)], .bool k1]) ∧ Below w.heap.size w w'))
    (C3 : Bx (∀ w, TabZ w → 1 < w.heap.size → Calls Tryd.prog 21 #[.agg #[.int .u64 (B : Int), .int .u64 (E : Int)]] w fun e w' => e = .returned (.tuple #[.agg #[.int .u8 (d1 : Int), .int .u64 (d2 : Int)], .bool k2]) ∧ Below w.heap.size w w'))
    (C4 : Bx (∀ w, Calls Tryd.prog 22 #[.agg #[.int .u64 (B : Int), .int .u64 (E : Int)]] w fun e w' => e = .returned (.tuple #[.agg #[.int .u8 (d1 : Int), .int .u64 (d2 : Int)], .bool k2]) ∧ Below w.heap.size w w'))
    (C5 : Bx (∀ w, Calls Tryd.prog 16 #[.agg #[.int .u8 (L : Int), .int .u64 (I : Int)]] w fun e w' => e = .returned (.tuple #[.agg #[.int .u8 (u1 : Int), .int .u64 (u2 : Int)], .bool k3]) ∧ Below w.heap.size w w'))
    (C6 : Bx (∀ w, Calls Tryd.prog 23 #[.agg #[.int .u8 (L : Int), .int .u64 (I : Int)]] w fun e w' => e = .returned (.tuple #[.agg #[.int .u8 (u1 : Int), .int .u64 (u2 : Int)], .bool k3]) ∧ Below w.heap.size w w'))
    (C7 : Bx (∀ w, Calls Tryd.prog 24 #[.agg #[.int .u8 (L : Int), .int .u64 (I : Int)]] w fun e w' => e = .returned (.tuple #[.agg #[.int .u8 (v1 : Int), .int .u64 (v2 : Int)], .bool k3]) ∧ Below w.heap.size w w'))
    (C8 : Bx (∀ w, Calls Tryd.prog 25 #[.agg #[.int .u8 (L : Int), .int .u64 (I : Int)]] w fun e w' => e = .returned (.tuple #[.agg #[.int .u8 (v1 : Int), .int .u64 (v2 : Int)], .bool k3]) ∧ Below w.heap.size w w'))
    (C9 : Bx (∀ w, Calls Tryd.prog 19 #[.agg #[.int .u8 (L : Int), .int .u64 (I : Int)]] w fun e w' => e = .returned (.tuple #[.agg #[.int .u8 (l1 : Int), .int .u64 (l2 : Int)], .agg #[.int .u8 (l1 : Int), .int .u64 (r2 : Int)], .bool k4]) ∧ Below w.heap.size w w'))
    (C10 : Bx (∀ w, Calls Tryd.prog 26 #[.agg #[.int .u8 (L : Int), .int .u64 (I : Int)]] w fun e w' => e = .returned (.tuple #[.agg #[.int .u8 (l1 : Int), .int .u64 (l2 : Int)], .agg #[.int .u8 (l1 : Int), .int .u64 (r2 : Int)], .bool k4]) ∧ Below w.heap.size w w'))
    (g0 : ∀ w a b, (binOp .neq 36 (.agg #[.int .u64 ((a : Nat) : Int), .int .u64 ((b : Nat) : Int)]) (.agg #[.int .u64 ((a : Nat) : Int), .int .u64 ((b : Nat) : Int)])).run Tryd.prog w = .ok (.bool false) w)
    (g1 : ∀ w a b, (binOp .neq 24 (.agg #[.int .u8 ((a : Nat) : Int), .int .u64 ((b : Nat) : Int)]) (.agg #[.int .u8 ((a : Nat) : Int), .int .u64 ((b : Nat) : Int)])).run Tryd.prog w = .ok (.bool false) w)
    (g2 : ∀ w a b, (binOp .eql 24 (.agg #[.int .u8 ((a : Nat) : Int), .int .u64 ((b : Nat) : Int)]) (.agg #[.int .u8 ((a : Nat) : Int), .int .u64 ((b : Nat) : Int)])).run Tryd.prog w = .ok (.bool true) w)
    : Calls Tryd.prog 7 #[.agg #[.int .u8 (L : Int), .int .u64 (I : Int)], .agg #[.int .u64 (B : Int), .int .u64 (E : Int)]] W fun e w' => e = .returned (.bool true) ∧ Below W.heap.size W w' := by
  have s0 := (hs.alloc (.cells #[.int .u8 (L : Int), .int .u64 (I : Int)] 24)).alloc (.cells #[.int .u64 (B : Int), .int .u64 (E : Int)] 36)
  have ma := (At.new W 24 (.int .u8 (L : Int)) (.int .u64 (I : Int))).alloc (.cells #[.int .u64 (B : Int), .int .u64 (E : Int)] 36)
  have mb : At ((W.alloc (.cells #[.int .u8 (L : Int), .int .u64 (I : Int)] 24)).alloc (.cells #[.int .u64 (B : Int), .int .u64 (E : Int)] 36)) (W.heap.size + 1) 36 (.int .u64 (B : Int)) (.int .u64 (E : Int)) := heap_alloc2_new _ _ _
  have SS := Bx.mk s0; have Ma := Bx.mk ma; have Mb := Bx.mk mb
  have q1 : ∀ k : Bool, (k != k) = false := by decide
  have q2 : ∀ k : Bool, (k == k) = true := by decide
  clear s0 hs ma mb
  go_enter Tryd.func7, Tryd.ntmps7
  go_wp2_with fail
  refine (C1.out _).mono ?_
  rintro e w1 ⟨rfl, hb⟩
  have ma := (Ma.out.below hb).alloc (.cells #[.int .u64 (p1 : Int), .int .u64 (p2 : Int)] 36)
  have mb := (Mb.out.below hb).alloc (.cells #[.int .u64 (p1 : Int), .int .u64 (p2 : Int)] 36)
  have s1 := (SS.out.next hb).alloc (.cells #[.int .u64 (p1 : Int), .int .u64 (p2 : Int)] 36)
  have mp := At.new w1 36 (.int .u64 (p1 : Int)) (.int .u64 (p2 : Int))
  obtain ⟨xa1, xa2, xa3, xa4⟩ := ma.cells
  obtain ⟨xb1, xb2, xb3, xb4⟩ := mb.cells
  obtain ⟨xp1, xp2, xp3, xp4⟩ := mp.cells
  have Ma := Bx.mk ma; have Mb := Bx.mk mb; have Mp := Bx.mk mp; have SS := Bx.mk s1
  clear hb s1 ma mb mp
  go_wp2_with fail
  refine (C2.out _).mono ?_
  rintro e w2 ⟨rfl, hb⟩
  have ma := (Ma.out.below hb).alloc (.cells #[.int .u64 (p1 : Int), .int .u64 (p2 : Int)] 36)
  have mb := (Mb.out.below hb).alloc (.cells #[.int .u64 (p1 : Int), .int .u64 (p2 : Int)] 36)
  have mp := (Mp.out.below hb).alloc (.cells #[.int .u64 (p1 : Int), .int .u64 (p2 : Int)] 36)
  have s1 := (SS.out.next hb).alloc (.cells #[.int .u64 (p1 : Int), .int .u64 (p2 : Int)] 36)
  have mq := At.new w2 36 (.int .u64 (p1 : Int)) (.int .u64 (p2 : Int))
  obtain ⟨xa1, xa2, xa3, xa4⟩ := ma.cells
  obtain ⟨xb1, xb2, xb3, xb4⟩ := mb.cells
  obtain ⟨xp1, xp2, xp3, xp4⟩ := mp.cells
  obtain ⟨xq1, xq2, xq3, xq4⟩ := mq.cells
  have Ma := Bx.mk ma; have Mb := Bx.mk mb; have Mp := Bx.mk mp; have Mq := Bx.mk mq; have SS := Bx.mk s1
  clear hb s1 ma mb mp mq
  go_wp2_with fail
  refine (C3.out _ SS.out.tab SS.out.lt).mono ?_
  rintro e w3 ⟨rfl, hb⟩
  have ma := (Ma.out.below hb).alloc (.cells #[.int .u8 (d1 : Int), .int .u64 (d2 : Int)] 24)
  have mb := (Mb.out.below hb).alloc (.cells #[.int .u8 (d1 : Int), .int .u64 (d2 : Int)] 24)
  have mp := (Mp.out.below hb).alloc (.cells #[.int .u8 (d1 : Int), .int .u64 (d2 : Int)] 24)
  have mq := (Mq.out.below hb).alloc (.cells #[.int .u8 (d1 : Int), .int .u64 (d2 : Int)] 24)
  have s1 := (SS.out.next hb).alloc (.cells #[.int .u8 (d1 : Int), .int .u64 (d2 : Int)] 24)
  have md := At.new w3 24 (.int .u8 (d1 : Int)) (.int .u64 (d2 : Int))
  obtain ⟨xa1, xa2, xa3, xa4⟩ := ma.cells
  obtain ⟨xb1, xb2, xb3, xb4⟩ := mb.cells
  obtain ⟨xp1, xp2, xp3, xp4⟩ := mp.cells
  obtain ⟨xq1, xq2, xq3, xq4⟩ := mq.cells
  obtain ⟨xd1, xd2, xd3, xd4⟩ := md.cells
  have Ma := Bx.mk ma; have Mb := Bx.mk mb; have Mp := Bx.mk mp; have Mq := Bx.mk mq; have Md := Bx.mk md; have SS := Bx.mk s1
  clear hb s1 ma mb mp mq md
  go_wp2_with fail
  refine (C4.out _).mono ?_
  rintro e w4 ⟨rfl, hb⟩
  have ma := (Ma.out.below hb).alloc (.cells #[.int .u8 (d1 : Int), .int .u64 (d2 : Int)] 24)
  have mb := (Mb.out.below hb).alloc (.cells #[.int .u8 (d1 : Int), .int .u64 (d2 : Int)] 24)
  have mp := (Mp.out.below hb).alloc (.cells #[.int .u8 (d1 : Int), .int .u64 (d2 : Int)] 24)
  have mq := (Mq.out.below hb).alloc (.cells #[.int .u8 (d1 : Int), .int .u64 (d2 : Int)] 24)
  have md := (Md.out.below hb).alloc (.cells #[.int .u8 (d1 : Int), .int .u64 (d2 : Int)] 24)
  have s1 := (SS.out.next hb).alloc (.cells #[.int .u8 (d1 : Int), .int .u64 (d2 : Int)] 24)
  have me := At.new w4 24 (.int .u8 (d1 : Int)) (.int .u64 (d2 : Int))
  obtain ⟨xa1, xa2, xa3, xa4⟩ := ma.cells
  obtain ⟨xb1, xb2, xb3, xb4⟩ := mb.cells
  obtain ⟨xp1, xp2, xp3, xp4⟩ := mp.cells
  obtain ⟨xq1, xq2, xq3, xq4⟩ := mq.cells
  obtain ⟨xd1, xd2, xd3, xd4⟩ := md.cells
  obtain ⟨xe1, xe2, xe3, xe4⟩ := me.cells
  have Ma := Bx.mk ma; have Mb := Bx.mk mb; have Mp := Bx.mk mp; have Mq := Bx.mk mq; have Md := Bx.mk md; have Me := Bx.mk me; have SS := Bx.mk s1
  clear hb s1 ma mb mp mq md me
  go_wp2_with fail
  clear Mp Mq Md Me Mb
  refine (C5.out _).mono ?_
  rintro e w5 ⟨rfl, hb⟩
  have ma := (Ma.out.below hb).alloc (.cells #[.int .u8 (u1 : Int), .int .u64 (u2 : Int)] 24)
  have s1 := (SS.out.next hb).alloc (.cells #[.int .u8 (u1 : Int), .int .u64 (u2 : Int)] 24)
  have mu := At.new w5 24 (.int .u8 (u1 : Int)) (.int .u64 (u2 : Int))
  obtain ⟨xa1, xa2, xa3, xa4⟩ := ma.cells
  obtain ⟨xu1, xu2, xu3, xu4⟩ := mu.cells
  have Ma := Bx.mk ma; have Mu := Bx.mk mu; have SS := Bx.mk s1
  clear hb s1 ma mu
  go_wp2_with fail
  refine (C6.out _).mono ?_
  rintro e w6 ⟨rfl, hb⟩
  have ma := (Ma.out.below hb).alloc (.cells #[.int .u8 (u1 : Int), .int .u64 (u2 : Int)] 24)
  have mu := (Mu.out.below hb).alloc (.cells #[.int .u8 (u1 : Int), .int .u64 (u2 : Int)] 24)
  have s1 := (SS.out.next hb).alloc (.cells #[.int .u8 (u1 : Int), .int .u64 (u2 : Int)] 24)
  have ms := At.new w6 24 (.int .u8 (u1 : Int)) (.int .u64 (u2 : Int))
  obtain ⟨xa1, xa2, xa3, xa4⟩ := ma.cells
  obtain ⟨xu1, xu2, xu3, xu4⟩ := mu.cells
  obtain ⟨xs1, xs2, xs3, xs4⟩ := ms.cells
  have Ma := Bx.mk ma; have Mu := Bx.mk mu; have Ms := Bx.mk ms; have SS := Bx.mk s1
  clear hb s1 ma mu ms
  go_wp2_with fail
  refine (C7.out _).mono ?_
  rintro e w7 ⟨rfl, hb⟩
  have ma := (Ma.out.below hb).alloc (.cells #[.int .u8 (v1 : Int), .int .u64 (v2 : Int)] 24)
  have mu := (Mu.out.below hb).alloc (.cells #[.int .u8 (v1 : Int), .int .u64 (v2 : Int)] 24)
  have ms := (Ms.out.below hb).alloc (.cells #[.int .u8 (v1 : Int), .int .u64 (v2 : Int)] 24)
  have s1 := (SS.out.next hb).alloc (.cells #[.int .u8 (v1 : Int), .int .u64 (v2 : Int)] 24)
  have mv := At.new w7 24 (.int .u8 (v1 : Int)) (.int .u64 (v2 : Int))
  obtain ⟨xa1, xa2, xa3, xa4⟩ := ma.cells
  obtain ⟨xu1, xu2, xu3, xu4⟩ := mu.cells
  obtain ⟨xs1, xs2, xs3, xs4⟩ := ms.cells
  obtain ⟨xv1, xv2, xv3, xv4⟩ := mv.cells
  have Ma := Bx.mk ma; have Mu := Bx.mk mu; have Ms := Bx.mk ms; have Mv := Bx.mk mv; have SS := Bx.mk s1
  clear hb s1 ma mu ms mv
  go_wp2_with fail
  refine (C8.out _).mono ?_
  rintro e w8 ⟨rfl, hb⟩
  have ma := (Ma.out.below hb).alloc (.cells #[.int .u8 (v1 : Int), .int .u64 (v2 : Int)] 24)
  have mu := (Mu.out.below hb).alloc (.cells #[.int .u8 (v1 : Int), .int .u64 (v2 : Int)] 24)
  have ms := (Ms.out.below hb).alloc (.cells #[.int .u8 (v1 : Int), .int .u64 (v2 : Int)] 24)
  have mv := (Mv.out.below hb).alloc (.cells #[.int .u8 (v1 : Int), .int .u64 (v2 : Int)] 24)
  have s1 := (SS.out.next hb).alloc (.cells #[.int .u8 (v1 : Int), .int .u64 (v2 : Int)] 24)
  have mt := At.new w8 24 (.int .u8 (v1 : Int)) (.int .u64 (v2 : Int))
  obtain ⟨xa1, xa2, xa3, xa4⟩ := ma.cells
  obtain ⟨xu1, xu2, xu3, xu4⟩ := mu.cells
  obtain ⟨xs1, xs2, xs3, xs4⟩ := ms.cells
  obtain ⟨xv1, xv2, xv3, xv4⟩ := mv.cells
  obtain ⟨xt1, xt2, xt3, xt4⟩ := mt.cells
  have Ma := Bx.mk ma; have Mu := Bx.mk mu; have Ms := Bx.mk ms; have Mv := Bx.mk mv; have Mt := Bx.mk mt; have SS := Bx.mk s1
  clear hb s1 ma mu ms mv mt
  go_wp2_with fail
  clear Mu Ms Mv Mt
  refine (C9.out _).mono ?_
  rintro e w9 ⟨rfl, hb⟩
  have ma := ((Ma.out.below hb).alloc (.cells #[.int .u8 (l1 : Int), .int .u64 (l2 : Int)] 24)).alloc (.cells #[.int .u8 (l1 : Int), .int .u64 (r2 : Int)] 24)
  have s1 := ((SS.out.next hb).alloc (.cells #[.int .u8 (l1 : Int), .int .u64 (l2 : Int)] 24)).alloc (.cells #[.int .u8 (l1 : Int), .int .u64 (r2 : Int)] 24)
  have ml := (At.new w9 24 (.int .u8 (l1 : Int)) (.int .u64 (l2 : Int))).alloc (.cells #[.int .u8 (l1 : Int), .int .u64 (r2 : Int)] 24)
  have mr : At ((w9.alloc (.cells #[.int .u8 (l1 : Int), .int .u64 (l2 : Int)] 24)).alloc (.cells #[.int .u8 (l1 : Int), .int .u64 (r2 : Int)] 24)) (w9.heap.size + 1) 24 (.int .u8 (l1 : Int)) (.int .u64 (r2 : Int)) := heap_alloc2_new _ _ _
  obtain ⟨xa1, xa2, xa3, xa4⟩ := ma.cells
  obtain ⟨xl1, xl2, xl3, xl4⟩ := ml.cells
  obtain ⟨xr1, xr2, xr3, xr4⟩ := mr.cells
  have Ma := Bx.mk ma; have Ml := Bx.mk ml; have Mr := Bx.mk mr; have SS := Bx.mk s1
  clear hb s1 ma ml mr
  go_wp2_with fail
  refine (C10.out _).mono ?_
  rintro e w10 ⟨rfl, hb⟩
  have ma := ((Ma.out.below hb).alloc (.cells #[.int .u8 (l1 : Int), .int .u64 (l2 : Int)] 24)).alloc (.cells #[.int .u8 (l1 : Int), .int .u64 (r2 : Int)] 24)
  have ml := ((Ml.out.below hb).alloc (.cells #[.int .u8 (l1 : Int), .int .u64 (l2 : Int)] 24)).alloc (.cells #[.int .u8 (l1 : Int), .int .u64 (r2 : Int)] 24)
  have mr := ((Mr.out.below hb).alloc (.cells #[.int .u8 (l1 : Int), .int .u64 (l2 : Int)] 24)).alloc (.cells #[.int .u8 (l1 : Int), .int .u64 (r2 : Int)] 24)
  have s1 := ((SS.out.next hb).alloc (.cells #[.int .u8 (l1 : Int), .int .u64 (l2 : Int)] 24)).alloc (.cells #[.int .u8 (l1 : Int), .int .u64 (r2 : Int)] 24)
  have mm := (At.new w10 24 (.int .u8 (l1 : Int)) (.int .u64 (l2 : Int))).alloc (.cells #[.int .u8 (l1 : Int), .int .u64 (r2 : Int)] 24)
  have mn : At ((w10.alloc (.cells #[.int .u8 (l1 : Int), .int .u64 (l2 : Int)] 24)).alloc (.cells #[.int .u8 (l1 : Int), .int .u64 (r2 : Int)] 24)) (w10.heap.size + 1) 24 (.int .u8 (l1 : Int)) (.int .u64 (r2 : Int)) := heap_alloc2_new _ _ _
  obtain ⟨xa1, xa2, xa3, xa4⟩ := ma.cells
  obtain ⟨xl1, xl2, xl3, xl4⟩ := ml.cells
  obtain ⟨xr1, xr2, xr3, xr4⟩ := mr.cells
  obtain ⟨xm1, xm2, xm3, xm4⟩ := mm.cells
  obtain ⟨xn1, xn2, xn3, xn4⟩ := mn.cells
  have Ma := Bx.mk ma; have Ml := Bx.mk ml; have Mr := Bx.mk mr; have Mm := Bx.mk mm; have Mn := Bx.mk mn; have SS := Bx.mk s1
  clear hb s1 ma ml mr mm mn
  go_wp2_with fail
  refine SS.out.alive.mono ?_
  rintro e wz ⟨rfl, hb⟩
  have s1 := (SS.out.next hb).below
  have HZ := Bx.mk s1; clear hb s1
  go_wp2_with fail
  go_ret
  exact ⟨rfl, HZ.out⟩
theorem trees_any (W : World) (L I B E : Nat) (hI : I < 2 ^ 64) (hB : B < 2 ^ 64) (hE : E < 2 ^ 64) (hs : Seed W W) :
    Calls Tryd.prog 7 #[cv L I, sv B E] W fun e w' => e = .returned (.bool true) ∧ Below W.heap.size W w' :=
  trees_walk W L I B E _ _ _ _ _ _ _ _ _ _ _ _ _ _ _ hs ⟨fun w => span_any w L I⟩ ⟨fun w => rspan_any w L I⟩ ⟨fun w h h' => of_any w B E hB hE h h'⟩ ⟨fun w => rof_any w B E hB⟩
    ⟨fun w => parent_any w L I⟩ ⟨fun w => rparent_any w L I hI⟩ ⟨fun w => sibling_any w L I⟩ ⟨fun w => rsibling_any w L I hI⟩ ⟨fun w => children_any w L I⟩ ⟨fun w => rchildren_any w L I⟩
    (fun w a b => (sv_neq w a b a b).trans (by simp)) (fun w a b => (cv_neq w a b a b).trans (by simp)) (fun w a b => (cv_eql w a b a b).trans (by simp))
end Go.Proofs.YtifnmidecjmmnaaDoor
