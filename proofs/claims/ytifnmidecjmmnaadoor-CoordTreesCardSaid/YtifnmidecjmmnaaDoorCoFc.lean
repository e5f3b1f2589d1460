/- CoordFamily walked: the greatest tree. -/
import Derived.Test.YtifnmidecjmmnaaDoorCoH
import Derived.Test.YtifnmidecjmmnaaDoorCoL
namespace Go.Proofs.YtifnmidecjmmnaaDoor
open Go.RowKit
set_option maxHeartbeats 12800000 in
set_option maxRecDepth 100000 in
theorem family_top (W : World) (L I B E d1 d2 p1 p2 u1 u2 v1 v2 l1 l2 r2 pm : Nat) (ok : Bool) (hs : Seed W W)
    (C1 : Bx (∀ w, TabZ w → 1 < w.heap.size → Calls Tryd.prog 21 #[.agg #[.int .u64 (B : Int), .int .u64 (E : Int)]] w fun e w' => e = .returned (.tuple #[.agg #[.int .u8 (d1 : Int), .int .u64 (d2 : Int)], .bool ok]) ∧ Below w.heap.size w w'))
    (C2 : Bx (ok = true → ∀ w, Calls Tryd.prog 18 #[.agg #[.int .u8 (d1 : Int), .int .u64 (d2 : Int)]] w fun e w' => e = .returned (.tuple #[.agg #[.int .u64 (B : Int), .int .u64 (E : Int)], .bool true]) ∧ Below w.heap.size w w'))
    (g0 : ∀ w, (binOp .neq 36 (.agg #[.int .u64 (B : Int), .int .u64 (E : Int)]) (.agg #[.int .u64 (B : Int), .int .u64 (E : Int)])).run Tryd.prog w = .ok (.bool false) w)
    (C3 : Bx (∀ w, Calls Tryd.prog 18 #[.agg #[.int .u8 (L : Int), .int .u64 (I : Int)]] w fun e w' => e = .returned (.tuple #[.agg #[.int .u64 (p1 : Int), .int .u64 (p2 : Int)], .bool true]) ∧ Below w.heap.size w w'))
    (C4 : Bx (∀ w, Calls Tryd.prog 16 #[.agg #[.int .u8 (L : Int), .int .u64 (I : Int)]] w fun e w' => e = .returned (.tuple #[.agg #[.int .u8 (u1 : Int), .int .u64 (u2 : Int)], .bool false]) ∧ Below w.heap.size w w'))
    (C5 : Bx (∀ w, Calls Tryd.prog 24 #[.agg #[.int .u8 (L : Int), .int .u64 (I : Int)]] w fun e w' => e = .returned (.tuple #[.agg #[.int .u8 (v1 : Int), .int .u64 (v2 : Int)], .bool false]) ∧ Below w.heap.size w w'))
    (C6 : Bx (∀ w, Calls Tryd.prog 19 #[.agg #[.int .u8 (L : Int), .int .u64 (I : Int)]] w fun e w' => e = .returned (.tuple #[.agg #[.int .u8 (l1 : Int), .int .u64 (l2 : Int)], .agg #[.int .u8 (l1 : Int), .int .u64 (r2 : Int)], .bool true]) ∧ Below w.heap.size w w'))
    (C7 : Bx (∀ w, TabZ w → 1 < w.heap.size → Calls Tryd.prog 21 #[.agg #[.int .u64 (p1 : Int), .int .u64 (p2 : Int)]] w fun e w' => e = .returned (.tuple #[.agg #[.int .u8 (L : Int), .int .u64 (I : Int)], .bool true]) ∧ Below w.heap.size w w'))
    (g1 : ∀ w, (binOp .neq 24 (.agg #[.int .u8 (L : Int), .int .u64 (I : Int)]) (.agg #[.int .u8 (L : Int), .int .u64 (I : Int)])).run Tryd.prog w = .ok (.bool false) w)
    (hL : L ≤ 63) (e1 : IntKind.u64.wrap ((p2 : Int) - (p1 : Int)) = (2 : Int) ^ L) (e2 : IntKind.u64.wrap ((2 : Int) ^ L) = (2 : Int) ^ L) (f1 : ¬ (9223372036854775808 : Int) < (p2 : Int)) (e3 : (p1 : Int) / 2 ^ L = (I : Int))
    (C11 : Bx (∀ w, Calls Tryd.prog 18 #[.agg #[.int .u8 (l1 : Int), .int .u64 (l2 : Int)]] w fun e w' => e = .returned (.tuple #[.agg #[.int .u64 (p1 : Int), .int .u64 (pm : Int)], .bool true]) ∧ Below w.heap.size w w'))
    (C12 : Bx (∀ w, Calls Tryd.prog 18 #[.agg #[.int .u8 (l1 : Int), .int .u64 (r2 : Int)]] w fun e w' => e = .returned (.tuple #[.agg #[.int .u64 (pm : Int), .int .u64 (p2 : Int)], .bool true]) ∧ Below w.heap.size w w'))
    (C13 : Bx (∀ w, Calls Tryd.prog 16 #[.agg #[.int .u8 (l1 : Int), .int .u64 (l2 : Int)]] w fun e w' => e = .returned (.tuple #[.agg #[.int .u8 (L : Int), .int .u64 (I : Int)], .bool true]) ∧ Below w.heap.size w w'))
    (C14 : Bx (∀ w, Calls Tryd.prog 16 #[.agg #[.int .u8 (l1 : Int), .int .u64 (r2 : Int)]] w fun e w' => e = .returned (.tuple #[.agg #[.int .u8 (L : Int), .int .u64 (I : Int)], .bool true]) ∧ Below w.heap.size w w'))
    (b1 : ¬ L < 63) (b2 : 0 < L)
    : Calls Tryd.prog 8 #[.agg #[.int .u8 (L : Int), .int .u64 (I : Int)], .agg #[.int .u64 (B : Int), .int .u64 (E : Int)]] W fun e w' => e = .returned (.bool true) ∧ Below W.heap.size W w' := by
  have s0 := (hs.alloc (.cells #[.int .u8 (L : Int), .int .u64 (I : Int)] 24)).alloc (.cells #[.int .u64 (B : Int), .int .u64 (E : Int)] 36)
  have ma := (At.new W 24 (.int .u8 (L : Int)) (.int .u64 (I : Int))).alloc (.cells #[.int .u64 (B : Int), .int .u64 (E : Int)] 36)
  have mb : At ((W.alloc (.cells #[.int .u8 (L : Int), .int .u64 (I : Int)] 24)).alloc (.cells #[.int .u64 (B : Int), .int .u64 (E : Int)] 36)) (W.heap.size + 1) 36 (.int .u64 (B : Int)) (.int .u64 (E : Int)) := heap_alloc2_new _ _ _
  have SS := Bx.mk s0; have Ma := Bx.mk ma; have Mb := Bx.mk mb
  clear s0 hs ma mb
  go_enter Tryd.func8, Tryd.ntmps8
  go_wp2_with fail
  refine (C1.out _ SS.out.tab SS.out.lt).mono ?_
  rintro e w1 ⟨rfl, hb⟩
  have ma := (Ma.out.below hb).alloc (.cells #[.int .u8 (d1 : Int), .int .u64 (d2 : Int)] 24)
  have mb := (Mb.out.below hb).alloc (.cells #[.int .u8 (d1 : Int), .int .u64 (d2 : Int)] 24)
  have s1 := (SS.out.next hb).alloc (.cells #[.int .u8 (d1 : Int), .int .u64 (d2 : Int)] 24)
  have mt := At.new w1 24 (.int .u8 (d1 : Int)) (.int .u64 (d2 : Int))
  obtain ⟨xa1, xa2, xa3, xa4⟩ := ma.cells
  obtain ⟨xb1, xb2, xb3, xb4⟩ := mb.cells
  obtain ⟨xt1, xt2, xt3, xt4⟩ := mt.cells
  have Ma := Bx.mk ma; have Mb := Bx.mk mb; have Mt := Bx.mk mt; have SS := Bx.mk s1
  clear hb s1 ma mb mt
  go_upto_if 39 with (fail)
  go_cut [6, 7, 8] (fun v _ _ wc => Below (w1.alloc (.cells #[.int .u8 (d1 : Int), .int .u64 (d2 : Int)] 24)).heap.size (w1.alloc (.cells #[.int .u8 (d1 : Int), .int .u64 (d2 : Int)] 24)) wc)
  case first =>
    cases ok
    · go_wp2_with fail
      go_meet
      case rel => exact Below.refl _ _
    · have c2 := C2.out rfl
      have C2' := Bx.mk c2; clear c2
      go_wp2_with fail
      refine (C2'.out _).mono ?_
      rintro e wx ⟨rfl, hb⟩
      have mb := (Mb.out.below hb).alloc (.cells #[.int .u64 (B : Int), .int .u64 (E : Int)] 36)
      obtain ⟨z1, z2, z3, z4⟩ := mb.cells
      have hb' := hb.trans ((below_new wx (.cells #[.int .u64 (B : Int), .int .u64 (E : Int)] 36)).mono hb.size)
      have HB' := Bx.mk hb'; clear hb hb' mb
      go_wp2_with fail
      go_meet
      case rel => exact HB'.out
  case rest =>
  have ma := Ma.out.below hcut; have s1 := SS.out.next hcut
  obtain ⟨xa1, xa2, xa3, xa4⟩ := ma.cells
  have Ma := Bx.mk ma; have SS := Bx.mk s1
  clear hcut ma s1 Mb Mt C1 C2
  go_wp2_with fail
  refine (C3.out _).mono ?_
  rintro e w2 ⟨rfl, hb⟩
  have ma := (Ma.out.below hb).alloc (.cells #[.int .u64 (p1 : Int), .int .u64 (p2 : Int)] 36)
  have s1 := (SS.out.next hb).alloc (.cells #[.int .u64 (p1 : Int), .int .u64 (p2 : Int)] 36)
  have mp := At.new w2 36 (.int .u64 (p1 : Int)) (.int .u64 (p2 : Int))
  obtain ⟨xa1, xa2, xa3, xa4⟩ := ma.cells
  obtain ⟨xp1, xp2, xp3, xp4⟩ := mp.cells
  have Ma := Bx.mk ma; have Mp := Bx.mk mp; have SS := Bx.mk s1
  clear hb s1 ma mp
  go_wp2_with fail
  refine (C4.out _).mono ?_
  rintro e w3 ⟨rfl, hb⟩
  have ma := (Ma.out.below hb).alloc (.cells #[.int .u8 (u1 : Int), .int .u64 (u2 : Int)] 24)
  have mp := (Mp.out.below hb).alloc (.cells #[.int .u8 (u1 : Int), .int .u64 (u2 : Int)] 24)
  have s1 := (SS.out.next hb).alloc (.cells #[.int .u8 (u1 : Int), .int .u64 (u2 : Int)] 24)
  have mu := At.new w3 24 (.int .u8 (u1 : Int)) (.int .u64 (u2 : Int))
  obtain ⟨xa1, xa2, xa3, xa4⟩ := ma.cells
  obtain ⟨xp1, xp2, xp3, xp4⟩ := mp.cells
  obtain ⟨xu1, xu2, xu3, xu4⟩ := mu.cells
  have Ma := Bx.mk ma; have Mp := Bx.mk mp; have Mu := Bx.mk mu; have SS := Bx.mk s1
  clear hb s1 ma mp mu
  go_wp2_with fail
  refine (C5.out _).mono ?_
  rintro e w4 ⟨rfl, hb⟩
  have ma := (Ma.out.below hb).alloc (.cells #[.int .u8 (v1 : Int), .int .u64 (v2 : Int)] 24)
  have mp := (Mp.out.below hb).alloc (.cells #[.int .u8 (v1 : Int), .int .u64 (v2 : Int)] 24)
  have mu := (Mu.out.below hb).alloc (.cells #[.int .u8 (v1 : Int), .int .u64 (v2 : Int)] 24)
  have s1 := (SS.out.next hb).alloc (.cells #[.int .u8 (v1 : Int), .int .u64 (v2 : Int)] 24)
  have mv := At.new w4 24 (.int .u8 (v1 : Int)) (.int .u64 (v2 : Int))
  obtain ⟨xa1, xa2, xa3, xa4⟩ := ma.cells
  obtain ⟨xp1, xp2, xp3, xp4⟩ := mp.cells
  obtain ⟨xu1, xu2, xu3, xu4⟩ := mu.cells
  obtain ⟨xv1, xv2, xv3, xv4⟩ := mv.cells
  have Ma := Bx.mk ma; have Mp := Bx.mk mp; have Mu := Bx.mk mu; have Mv := Bx.mk mv; have SS := Bx.mk s1
  clear hb s1 ma mp mu mv
  go_wp2_with fail
  refine (C6.out _).mono ?_
  rintro e w5 ⟨rfl, hb⟩
  have ma := ((Ma.out.below hb).alloc (.cells #[.int .u8 (l1 : Int), .int .u64 (l2 : Int)] 24)).alloc (.cells #[.int .u8 (l1 : Int), .int .u64 (r2 : Int)] 24)
  have mp := ((Mp.out.below hb).alloc (.cells #[.int .u8 (l1 : Int), .int .u64 (l2 : Int)] 24)).alloc (.cells #[.int .u8 (l1 : Int), .int .u64 (r2 : Int)] 24)
  have mu := ((Mu.out.below hb).alloc (.cells #[.int .u8 (l1 : Int), .int .u64 (l2 : Int)] 24)).alloc (.cells #[.int .u8 (l1 : Int), .int .u64 (r2 : Int)] 24)
  have mv := ((Mv.out.below hb).alloc (.cells #[.int .u8 (l1 : Int), .int .u64 (l2 : Int)] 24)).alloc (.cells #[.int .u8 (l1 : Int), .int .u64 (r2 : Int)] 24)
  have s1 := ((SS.out.next hb).alloc (.cells #[.int .u8 (l1 : Int), .int .u64 (l2 : Int)] 24)).alloc (.cells #[.int .u8 (l1 : Int), .int .u64 (r2 : Int)] 24)
  have ml := (At.new w5 24 (.int .u8 (l1 : Int)) (.int .u64 (l2 : Int))).alloc (.cells #[.int .u8 (l1 : Int), .int .u64 (r2 : Int)] 24)
  have mr : At ((w5.alloc (.cells #[.int .u8 (l1 : Int), .int .u64 (l2 : Int)] 24)).alloc (.cells #[.int .u8 (l1 : Int), .int .u64 (r2 : Int)] 24)) (w5.heap.size + 1) 24 (.int .u8 (l1 : Int)) (.int .u64 (r2 : Int)) := heap_alloc2_new _ _ _
  obtain ⟨xa1, xa2, xa3, xa4⟩ := ma.cells
  obtain ⟨xp1, xp2, xp3, xp4⟩ := mp.cells
  obtain ⟨xu1, xu2, xu3, xu4⟩ := mu.cells
  obtain ⟨xv1, xv2, xv3, xv4⟩ := mv.cells
  obtain ⟨xl1, xl2, xl3, xl4⟩ := ml.cells
  obtain ⟨xr1, xr2, xr3, xr4⟩ := mr.cells
  have Ma := Bx.mk ma; have Mp := Bx.mk mp; have Mu := Bx.mk mu; have Mv := Bx.mk mv; have Ml := Bx.mk ml; have Mr := Bx.mk mr; have SS := Bx.mk s1
  clear hb s1 ma mp mu mv ml mr
  go_wp2_with fail
  clear Mu Mv
  refine (C7.out _ SS.out.tab SS.out.lt).mono ?_
  rintro e w6 ⟨rfl, hb⟩
  have ma := (Ma.out.below hb).alloc (.cells #[.int .u8 (L : Int), .int .u64 (I : Int)] 24)
  have mp := (Mp.out.below hb).alloc (.cells #[.int .u8 (L : Int), .int .u64 (I : Int)] 24)
  have ml := (Ml.out.below hb).alloc (.cells #[.int .u8 (L : Int), .int .u64 (I : Int)] 24)
  have mr := (Mr.out.below hb).alloc (.cells #[.int .u8 (L : Int), .int .u64 (I : Int)] 24)
  have s1 := (SS.out.next hb).alloc (.cells #[.int .u8 (L : Int), .int .u64 (I : Int)] 24)
  have md := At.new w6 24 (.int .u8 (L : Int)) (.int .u64 (I : Int))
  obtain ⟨xa1, xa2, xa3, xa4⟩ := ma.cells
  obtain ⟨xp1, xp2, xp3, xp4⟩ := mp.cells
  obtain ⟨xl1, xl2, xl3, xl4⟩ := ml.cells
  obtain ⟨xr1, xr2, xr3, xr4⟩ := mr.cells
  obtain ⟨xd1, xd2, xd3, xd4⟩ := md.cells
  have Ma := Bx.mk ma; have Mp := Bx.mk mp; have Ml := Bx.mk ml; have Mr := Bx.mk mr; have Md := Bx.mk md; have SS := Bx.mk s1
  clear hb s1 ma mp ml mr md
  go_wp2_with fail
  clear Md
  refine (C11.out _).mono ?_
  rintro e w7 ⟨rfl, hb⟩
  have ma := (Ma.out.below hb).alloc (.cells #[.int .u64 (p1 : Int), .int .u64 (pm : Int)] 36)
  have mp := (Mp.out.below hb).alloc (.cells #[.int .u64 (p1 : Int), .int .u64 (pm : Int)] 36)
  have ml := (Ml.out.below hb).alloc (.cells #[.int .u64 (p1 : Int), .int .u64 (pm : Int)] 36)
  have mr := (Mr.out.below hb).alloc (.cells #[.int .u64 (p1 : Int), .int .u64 (pm : Int)] 36)
  have s1 := (SS.out.next hb).alloc (.cells #[.int .u64 (p1 : Int), .int .u64 (pm : Int)] 36)
  have mf := At.new w7 36 (.int .u64 (p1 : Int)) (.int .u64 (pm : Int))
  obtain ⟨xa1, xa2, xa3, xa4⟩ := ma.cells
  obtain ⟨xp1, xp2, xp3, xp4⟩ := mp.cells
  obtain ⟨xl1, xl2, xl3, xl4⟩ := ml.cells
  obtain ⟨xr1, xr2, xr3, xr4⟩ := mr.cells
  obtain ⟨xf1, xf2, xf3, xf4⟩ := mf.cells
  have Ma := Bx.mk ma; have Mp := Bx.mk mp; have Ml := Bx.mk ml; have Mr := Bx.mk mr; have Mf := Bx.mk mf; have SS := Bx.mk s1
  clear hb s1 ma mp ml mr mf
  go_wp2_with fail
  refine (C12.out _).mono ?_
  rintro e w8 ⟨rfl, hb⟩
  have ma := (Ma.out.below hb).alloc (.cells #[.int .u64 (pm : Int), .int .u64 (p2 : Int)] 36)
  have mp := (Mp.out.below hb).alloc (.cells #[.int .u64 (pm : Int), .int .u64 (p2 : Int)] 36)
  have ml := (Ml.out.below hb).alloc (.cells #[.int .u64 (pm : Int), .int .u64 (p2 : Int)] 36)
  have mr := (Mr.out.below hb).alloc (.cells #[.int .u64 (pm : Int), .int .u64 (p2 : Int)] 36)
  have mf := (Mf.out.below hb).alloc (.cells #[.int .u64 (pm : Int), .int .u64 (p2 : Int)] 36)
  have s1 := (SS.out.next hb).alloc (.cells #[.int .u64 (pm : Int), .int .u64 (p2 : Int)] 36)
  have mg := At.new w8 36 (.int .u64 (pm : Int)) (.int .u64 (p2 : Int))
  obtain ⟨xa1, xa2, xa3, xa4⟩ := ma.cells
  obtain ⟨xp1, xp2, xp3, xp4⟩ := mp.cells
  obtain ⟨xl1, xl2, xl3, xl4⟩ := ml.cells
  obtain ⟨xr1, xr2, xr3, xr4⟩ := mr.cells
  obtain ⟨xf1, xf2, xf3, xf4⟩ := mf.cells
  obtain ⟨xg1, xg2, xg3, xg4⟩ := mg.cells
  have Ma := Bx.mk ma; have Mp := Bx.mk mp; have Ml := Bx.mk ml; have Mr := Bx.mk mr; have Mf := Bx.mk mf; have Mg := Bx.mk mg; have SS := Bx.mk s1
  clear hb s1 ma mp ml mr mf mg
  go_wp2_with fail
  refine (C13.out _).mono ?_
  rintro e w9 ⟨rfl, hb⟩
  have ma := (Ma.out.below hb).alloc (.cells #[.int .u8 (L : Int), .int .u64 (I : Int)] 24)
  have mp := (Mp.out.below hb).alloc (.cells #[.int .u8 (L : Int), .int .u64 (I : Int)] 24)
  have ml := (Ml.out.below hb).alloc (.cells #[.int .u8 (L : Int), .int .u64 (I : Int)] 24)
  have mr := (Mr.out.below hb).alloc (.cells #[.int .u8 (L : Int), .int .u64 (I : Int)] 24)
  have mf := (Mf.out.below hb).alloc (.cells #[.int .u8 (L : Int), .int .u64 (I : Int)] 24)
  have mg := (Mg.out.below hb).alloc (.cells #[.int .u8 (L : Int), .int .u64 (I : Int)] 24)
  have s1 := (SS.out.next hb).alloc (.cells #[.int .u8 (L : Int), .int .u64 (I : Int)] 24)
  have mh := At.new w9 24 (.int .u8 (L : Int)) (.int .u64 (I : Int))
  obtain ⟨xa1, xa2, xa3, xa4⟩ := ma.cells
  obtain ⟨xp1, xp2, xp3, xp4⟩ := mp.cells
  obtain ⟨xl1, xl2, xl3, xl4⟩ := ml.cells
  obtain ⟨xr1, xr2, xr3, xr4⟩ := mr.cells
  obtain ⟨xf1, xf2, xf3, xf4⟩ := mf.cells
  obtain ⟨xg1, xg2, xg3, xg4⟩ := mg.cells
  obtain ⟨xh1, xh2, xh3, xh4⟩ := mh.cells
  have Ma := Bx.mk ma; have Mp := Bx.mk mp; have Ml := Bx.mk ml; have Mr := Bx.mk mr; have Mf := Bx.mk mf; have Mg := Bx.mk mg; have Mh := Bx.mk mh; have SS := Bx.mk s1
  clear hb s1 ma mp ml mr mf mg mh
  go_wp2_with fail
  refine (C14.out _).mono ?_
  rintro e w10 ⟨rfl, hb⟩
  have ma := (Ma.out.below hb).alloc (.cells #[.int .u8 (L : Int), .int .u64 (I : Int)] 24)
  have mp := (Mp.out.below hb).alloc (.cells #[.int .u8 (L : Int), .int .u64 (I : Int)] 24)
  have ml := (Ml.out.below hb).alloc (.cells #[.int .u8 (L : Int), .int .u64 (I : Int)] 24)
  have mr := (Mr.out.below hb).alloc (.cells #[.int .u8 (L : Int), .int .u64 (I : Int)] 24)
  have mf := (Mf.out.below hb).alloc (.cells #[.int .u8 (L : Int), .int .u64 (I : Int)] 24)
  have mg := (Mg.out.below hb).alloc (.cells #[.int .u8 (L : Int), .int .u64 (I : Int)] 24)
  have mh := (Mh.out.below hb).alloc (.cells #[.int .u8 (L : Int), .int .u64 (I : Int)] 24)
  have s1 := (SS.out.next hb).alloc (.cells #[.int .u8 (L : Int), .int .u64 (I : Int)] 24)
  have mk := At.new w10 24 (.int .u8 (L : Int)) (.int .u64 (I : Int))
  obtain ⟨xa1, xa2, xa3, xa4⟩ := ma.cells
  obtain ⟨xp1, xp2, xp3, xp4⟩ := mp.cells
  obtain ⟨xl1, xl2, xl3, xl4⟩ := ml.cells
  obtain ⟨xr1, xr2, xr3, xr4⟩ := mr.cells
  obtain ⟨xf1, xf2, xf3, xf4⟩ := mf.cells
  obtain ⟨xg1, xg2, xg3, xg4⟩ := mg.cells
  obtain ⟨xh1, xh2, xh3, xh4⟩ := mh.cells
  obtain ⟨xk1, xk2, xk3, xk4⟩ := mk.cells
  have Ma := Bx.mk ma; have Mp := Bx.mk mp; have Ml := Bx.mk ml; have Mr := Bx.mk mr; have Mf := Bx.mk mf; have Mg := Bx.mk mg; have Mh := Bx.mk mh; have Mk := Bx.mk mk; have SS := Bx.mk s1
  clear hb s1 ma mp ml mr mf mg mh mk
  go_wp2_with fail
  refine SS.out.alive.mono ?_
  rintro e wz ⟨rfl, hb⟩
  have s1 := (SS.out.next hb).below
  have HZ := Bx.mk s1; clear hb s1
  go_wp2_with fail
  go_ret
  exact ⟨rfl, HZ.out⟩
end Go.Proofs.YtifnmidecjmmnaaDoor
