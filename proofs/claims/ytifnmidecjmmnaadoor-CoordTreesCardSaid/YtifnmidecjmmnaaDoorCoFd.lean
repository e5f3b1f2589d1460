/- CoordFamily walked: what may not be. -/
import Derived.Test.YtifnmidecjmmnaaDoorCoH
import Derived.Test.YtifnmidecjmmnaaDoorCoL
namespace Go.Proofs.YtifnmidecjmmnaaDoor
open Go.RowKit
set_option maxHeartbeats 12800000 in
set_option maxRecDepth 100000 in
theorem family_no (W : World) (L I B E d1 d2 p1 p2 u1 u2 v1 v2 l1 l2 r2 : Nat) (ok : Bool) (hs : Seed W W)
    (C1 : Bx (∀ w, TabZ w → 1 < w.heap.size → Calls Tryd.prog 21 #[.agg #[.int .u64 (B : Int), .int .u64 (E : Int)]] w fun e w' => e = .returned (.tuple #[.agg #[.int .u8 (d1 : Int), .int .u64 (d2 : Int)], .bool ok]) ∧ Below w.heap.size w w'))
    (C2 : Bx (ok = true → ∀ w, Calls Tryd.prog 18 #[.agg #[.int .u8 (d1 : Int), .int .u64 (d2 : Int)]] w fun e w' => e = .returned (.tuple #[.agg #[.int .u64 (B : Int), .int .u64 (E : Int)], .bool true]) ∧ Below w.heap.size w w'))
    (g0 : ∀ w, (binOp .neq 36 (.agg #[.int .u64 (B : Int), .int .u64 (E : Int)]) (.agg #[.int .u64 (B : Int), .int .u64 (E : Int)])).run Tryd.prog w = .ok (.bool false) w)
    (C3 : Bx (∀ w, Calls Tryd.prog 18 #[.agg #[.int .u8 (L : Int), .int .u64 (I : Int)]] w fun e w' => e = .returned (.tuple #[.agg #[.int .u64 (p1 : Int), .int .u64 (p2 : Int)], .bool false]) ∧ Below w.heap.size w w'))
    (C4 : Bx (∀ w, Calls Tryd.prog 16 #[.agg #[.int .u8 (L : Int), .int .u64 (I : Int)]] w fun e w' => e = .returned (.tuple #[.agg #[.int .u8 (u1 : Int), .int .u64 (u2 : Int)], .bool false]) ∧ Below w.heap.size w w'))
    (C5 : Bx (∀ w, Calls Tryd.prog 24 #[.agg #[.int .u8 (L : Int), .int .u64 (I : Int)]] w fun e w' => e = .returned (.tuple #[.agg #[.int .u8 (v1 : Int), .int .u64 (v2 : Int)], .bool false]) ∧ Below w.heap.size w w'))
    (C6 : Bx (∀ w, Calls Tryd.prog 19 #[.agg #[.int .u8 (L : Int), .int .u64 (I : Int)]] w fun e w' => e = .returned (.tuple #[.agg #[.int .u8 (l1 : Int), .int .u64 (l2 : Int)], .agg #[.int .u8 (l1 : Int), .int .u64 (r2 : Int)], .bool false]) ∧ Below w.heap.size w w'))
    (hno : 63 < L ∨ (L ≤ 63 ∧ ¬ ((I : Int) < 9223372036854775808 / 2 ^ L)))
    : Calls Tryd.prog 8 #[.agg #[.int .u8 (L : Int), .int .u64 (I : Int)], .agg #[.int .u64 (B : Int), .int .u64 (E : Int)]] W fun e w' => e = .returned (.bool true) ∧ Below W.heap.size W w' := by
  have s0 := (hs.alloc (.cells #[.int .u8 (L : Int), .int .u64 (I : Int)] 24)).alloc (.cells #[.int .u64 (B : Int), .int .u64 (E : Int)] 36)
  have ma := (At.new W 24 (.int .u8 (L : Int)) (.int .u64 (I : Int))).alloc (.cells #[.int .u64 (B : Int), .int .u64 (E : Int)] 36)
  have mb : At ((W.alloc (.cells #[.int .u8 (L : Int), .int .u64 (I : Int)] 24)).alloc (.cells #[.int .u64 (B : Int), .int .u64 (E : Int)] 36)) (W.heap.size + 1) 36 (.int .u64 (B : Int)) (.int .u64 (E : Int)) := heap_alloc2_new _ _ _
  have SS := Bx.mk s0; have Ma := Bx.mk ma; have Mb := Bx.mk mb
  clear s0 hs ma mb
  go_enter Tryd.func8, Tryd.ntmps8
  go_wp2_with fail
  have HNO := Bx.mk hno; clear hno
  refine (C1.out _ SS.out.tab SS.out.lt).mono ?_
  rintro e w1 ⟨rfl, hb⟩
  have ma := (Ma.out.below hb).alloc (.cells #[.int .u8 (d1 : Int), .int .u64 (d2 : Int)] 24)
  have mb := (Mb.out.below hb).alloc (.cells #[.int .u8 (d1 : Int), .int .u64 (d2 : Int)] 24)
  have s1 := (SS.out.next hb).alloc (.cells #[.int .u8 (d1 : Int), .int .u64 (d2 : Int)] 24)
  have mt := At.new w1 24 (.int .u8 (d1 : Int)) (.int .u64 (d2 : Int))
  obtain ⟨xa1, xa2, xa3, xa4⟩ := ma.cells
  obtain ⟨xb1, xb2, xb3, xb4⟩ := mb.cells
  obtain ⟨xt1, xt2, xt3, xt4⟩ := mt.cells
  have Ma := Bx.mk ma; have Mb := Bx.mk mb; have Mt := Bx.mk mt; have SS := Bx.mk s1
  clear hb s1 ma mb mt
  go_upto_if 39 with (fail)
  go_cut [6, 7, 8] (fun v _ _ wc => Below (w1.alloc (.cells #[.int .u8 (d1 : Int), .int .u64 (d2 : Int)] 24)).heap.size (w1.alloc (.cells #[.int .u8 (d1 : Int), .int .u64 (d2 : Int)] 24)) wc)
  case first =>
    cases ok
    · go_wp2_with fail
      go_meet
      case rel => exact Below.refl _ _
    · have c2 := C2.out rfl
      have C2' := Bx.mk c2; clear c2
      go_wp2_with fail
      refine (C2'.out _).mono ?_
      rintro e wx ⟨rfl, hb⟩
      have mb := (Mb.out.below hb).alloc (.cells #[.int .u64 (B : Int), .int .u64 (E : Int)] 36)
      obtain ⟨z1, z2, z3, z4⟩ := mb.cells
      have hb' := hb.trans ((below_new wx (.cells #[.int .u64 (B : Int), .int .u64 (E : Int)] 36)).mono hb.size)
      have HB' := Bx.mk hb'; clear hb hb' mb
      go_wp2_with fail
      go_meet
      case rel => exact HB'.out
  case rest =>
  have ma := Ma.out.below hcut; have s1 := SS.out.next hcut
  obtain ⟨xa1, xa2, xa3, xa4⟩ := ma.cells
  have Ma := Bx.mk ma; have SS := Bx.mk s1
  clear hcut ma s1 Mb Mt C1 C2
  go_wp2_with fail
  refine (C3.out _).mono ?_
  rintro e w2 ⟨rfl, hb⟩
  have ma := (Ma.out.below hb).alloc (.cells #[.int .u64 (p1 : Int), .int .u64 (p2 : Int)] 36)
  have s1 := (SS.out.next hb).alloc (.cells #[.int .u64 (p1 : Int), .int .u64 (p2 : Int)] 36)
  have mp := At.new w2 36 (.int .u64 (p1 : Int)) (.int .u64 (p2 : Int))
  obtain ⟨xa1, xa2, xa3, xa4⟩ := ma.cells
  obtain ⟨xp1, xp2, xp3, xp4⟩ := mp.cells
  have Ma := Bx.mk ma; have Mp := Bx.mk mp; have SS := Bx.mk s1
  clear hb s1 ma mp
  go_wp2_with fail
  refine (C4.out _).mono ?_
  rintro e w3 ⟨rfl, hb⟩
  have ma := (Ma.out.below hb).alloc (.cells #[.int .u8 (u1 : Int), .int .u64 (u2 : Int)] 24)
  have mp := (Mp.out.below hb).alloc (.cells #[.int .u8 (u1 : Int), .int .u64 (u2 : Int)] 24)
  have s1 := (SS.out.next hb).alloc (.cells #[.int .u8 (u1 : Int), .int .u64 (u2 : Int)] 24)
  have mu := At.new w3 24 (.int .u8 (u1 : Int)) (.int .u64 (u2 : Int))
  obtain ⟨xa1, xa2, xa3, xa4⟩ := ma.cells
  obtain ⟨xp1, xp2, xp3, xp4⟩ := mp.cells
  obtain ⟨xu1, xu2, xu3, xu4⟩ := mu.cells
  have Ma := Bx.mk ma; have Mp := Bx.mk mp; have Mu := Bx.mk mu; have SS := Bx.mk s1
  clear hb s1 ma mp mu
  go_wp2_with fail
  refine (C5.out _).mono ?_
  rintro e w4 ⟨rfl, hb⟩
  have ma := (Ma.out.below hb).alloc (.cells #[.int .u8 (v1 : Int), .int .u64 (v2 : Int)] 24)
  have mp := (Mp.out.below hb).alloc (.cells #[.int .u8 (v1 : Int), .int .u64 (v2 : Int)] 24)
  have mu := (Mu.out.below hb).alloc (.cells #[.int .u8 (v1 : Int), .int .u64 (v2 : Int)] 24)
  have s1 := (SS.out.next hb).alloc (.cells #[.int .u8 (v1 : Int), .int .u64 (v2 : Int)] 24)
  have mv := At.new w4 24 (.int .u8 (v1 : Int)) (.int .u64 (v2 : Int))
  obtain ⟨xa1, xa2, xa3, xa4⟩ := ma.cells
  obtain ⟨xp1, xp2, xp3, xp4⟩ := mp.cells
  obtain ⟨xu1, xu2, xu3, xu4⟩ := mu.cells
  obtain ⟨xv1, xv2, xv3, xv4⟩ := mv.cells
  have Ma := Bx.mk ma; have Mp := Bx.mk mp; have Mu := Bx.mk mu; have Mv := Bx.mk mv; have SS := Bx.mk s1
  clear hb s1 ma mp mu mv
  go_wp2_with fail
  refine (C6.out _).mono ?_
  rintro e w5 ⟨rfl, hb⟩
  have ma := ((Ma.out.below hb).alloc (.cells #[.int .u8 (l1 : Int), .int .u64 (l2 : Int)] 24)).alloc (.cells #[.int .u8 (l1 : Int), .int .u64 (r2 : Int)] 24)
  have mp := ((Mp.out.below hb).alloc (.cells #[.int .u8 (l1 : Int), .int .u64 (l2 : Int)] 24)).alloc (.cells #[.int .u8 (l1 : Int), .int .u64 (r2 : Int)] 24)
  have mu := ((Mu.out.below hb).alloc (.cells #[.int .u8 (l1 : Int), .int .u64 (l2 : Int)] 24)).alloc (.cells #[.int .u8 (l1 : Int), .int .u64 (r2 : Int)] 24)
  have mv := ((Mv.out.below hb).alloc (.cells #[.int .u8 (l1 : Int), .int .u64 (l2 : Int)] 24)).alloc (.cells #[.int .u8 (l1 : Int), .int .u64 (r2 : Int)] 24)
  have s1 := ((SS.out.next hb).alloc (.cells #[.int .u8 (l1 : Int), .int .u64 (l2 : Int)] 24)).alloc (.cells #[.int .u8 (l1 : Int), .int .u64 (r2 : Int)] 24)
  have ml := (At.new w5 24 (.int .u8 (l1 : Int)) (.int .u64 (l2 : Int))).alloc (.cells #[.int .u8 (l1 : Int), .int .u64 (r2 : Int)] 24)
  have mr : At ((w5.alloc (.cells #[.int .u8 (l1 : Int), .int .u64 (l2 : Int)] 24)).alloc (.cells #[.int .u8 (l1 : Int), .int .u64 (r2 : Int)] 24)) (w5.heap.size + 1) 24 (.int .u8 (l1 : Int)) (.int .u64 (r2 : Int)) := heap_alloc2_new _ _ _
  obtain ⟨xa1, xa2, xa3, xa4⟩ := ma.cells
  obtain ⟨xp1, xp2, xp3, xp4⟩ := mp.cells
  obtain ⟨xu1, xu2, xu3, xu4⟩ := mu.cells
  obtain ⟨xv1, xv2, xv3, xv4⟩ := mv.cells
  obtain ⟨xl1, xl2, xl3, xl4⟩ := ml.cells
  obtain ⟨xr1, xr2, xr3, xr4⟩ := mr.cells
  have Ma := Bx.mk ma; have Mp := Bx.mk mp; have Mu := Bx.mk mu; have Mv := Bx.mk mv; have Ml := Bx.mk ml; have Mr := Bx.mk mr; have SS := Bx.mk s1
  clear hb s1 ma mp mu mv ml mr
  clear Mp Mu Mv Ml Mr
  rcases HNO.out with h | ⟨h, h2⟩
  · go_wp2_with fail
    refine SS.out.alive.mono ?_
    rintro e wz ⟨rfl, hb⟩
    have s1 := (SS.out.next hb).below
    have HZ := Bx.mk s1; clear hb s1
    go_wp2_with fail
    go_ret
    exact ⟨rfl, HZ.out⟩
  · have h3 : (9223372036854775808 : Int) / 2 ^ L ≤ (I : Int) := by omega
    clear h2
    go_wp2_with fail
    refine SS.out.alive.mono ?_
    rintro e wz ⟨rfl, hb⟩
    have s1 := (SS.out.next hb).below
    have HZ := Bx.mk s1; clear hb s1
    go_wp2_with fail
    go_ret
    exact ⟨rfl, HZ.out⟩
end Go.Proofs.YtifnmidecjmmnaaDoor
