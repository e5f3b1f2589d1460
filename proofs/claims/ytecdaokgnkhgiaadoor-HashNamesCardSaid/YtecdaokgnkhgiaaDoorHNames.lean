/- cartularylaw05.HashNames walked. -/
import Derived.Test.YtecdaokgnkhgiaaDoorHReads
namespace Go.Proofs.YtecdaokgnkhgiaaDoor
set_option maxRecDepth 100000
open Go.RowKit
/-- where reading stops, as something that is reckoned -/
def stopB (l : List UInt8) (b : Nat) : Bool :=
  (List.range b).all (fun j => decide (j < 64) && decide (j < l.length) && (lett ((l.getD j 0).toNat : Int)).2) &&
    (decide (b = 64) && decide (64 < l.length) || decide (b < 64) && (decide (l.length ≤ b) || !(lett ((l.getD b 0).toNat : Int)).2))
theorem readAns_of {l : List UInt8} {b : Nat} (h : stopB l b = true) : ReadAns l (some b) := by
  unfold stopB at h
  simp only [Bool.and_eq_true, Bool.or_eq_true, List.all_eq_true, List.mem_range, decide_eq_true_eq, Bool.not_eq_true'] at h
  exact ⟨fun j hj => ⟨(h.1 j hj).1.1, (h.1 j hj).1.2, (h.1 j hj).2⟩, h.2⟩
theorem read_at (A : Nat → Addr) (w : World) (s : ByteArray) (b : Nat) (hs : s.size < 9223372036854775808) (h : stopB (sb s) b = true) (hE : Errs w A) :
    Calls Tryd.prog 26 #[.string s] w fun e w' => ∃ v, e = .returned (.tuple #[.agg (ocells zero32'), v]) ∧ ErrV w' A v 3 (some (b : Int)) ∧ Below w.heap.size w w' := by
  refine (read_any A w s hs hE).mono fun e w' ⟨⟨p, hp, ho⟩, hb⟩ => ?_
  obtain rfl := readAns_unique hp (readAns_of h)
  obtain ⟨v, he, hv⟩ := ho
  exact ⟨v, he, hv, hb⟩
def nameA : ByteArray := bstr (hexL (sha [0, 97]))
def nameN : ByteArray := bstr (hexL (sha (1 :: (sha [0, 97] ++ sha [0, 98]))))
set_option maxRecDepth 1000000 in
theorem nameA_is : (nameA.size == 64 && (nameA.extract 0 4).data == #[48, 50, 50, 97] && (nameA.extract 62 64).data == #[51, 99]) = true := by decide +kernel
set_option maxRecDepth 1000000 in
theorem nameN_is : (nameN.size == 64 && (nameN.extract 0 4).data == #[98, 49, 51, 55] && (nameN.extract 62 64).data == #[101, 98]) = true := by decide +kernel
theorem isAt_yes {u : World} {A : Nat → Addr} (hE : Errs u A) {v : Value} (b : Int) (h : ErrV u A v 3 (some b)) :
    Calls Tryd.prog 32 #[v, .int .i64 3, .int .i64 b] u fun e w' => e = .returned (.bool true) ∧ Below u.heap.size u w' :=
  (isAt_any hE h 3 b).mono fun e w' ⟨h1, h2⟩ => ⟨h1.trans (by rw [if_neg (by decide)]; simp), h2⟩
theorem toList_of {b : ByteArray} {a : Array UInt8} (h : b.data = a) : b.toList = (ByteArray.mk a).toList := by
  obtain ⟨d⟩ := b
  subst h
  rfl
set_option maxHeartbeats 3200000 in
theorem hashNames_any (A : Nat → Addr) (w : World) (hH : Hs A w) :
    Calls Tryd.prog 10 #[] w fun e w' => e = .returned (.bool true) ∧ Below w.heap.size w w' := by
  have HH := Bx.mk hH; clear hH
  have la := fun u hu => leaf_any u ⟨#[97]⟩ (by decide) hu
  have lb := fun u hu => leaf_any u ⟨#[98]⟩ (by decide) hu
  rw [show sb ⟨#[97]⟩ = [97] from rfl] at la
  rw [show sb ⟨#[98]⟩ = [98] from rfl] at lb
  have sh1 := fun u => show_any u (sha [0, 97]) (sha_length _)
  have sh2 := fun u => show_any u (sha (1 :: (sha [0, 97] ++ sha [0, 98]))) (sha_length _)
  rw [show bstr (hexL (sha [0, 97])) = nameA from rfl] at sh1
  rw [show bstr (hexL (sha (1 :: (sha [0, 97] ++ sha [0, 98])))) = nameN from rfl] at sh2
  have nd := fun u hu => node_any u (sha [0, 97]) (sha [0, 98]) (sha_length _) (sha_length _) hu
  have LA := Bx.mk la; have LB := Bx.mk lb; have SH1 := Bx.mk sh1; have SH2 := Bx.mk sh2; have ND := Bx.mk nd
  clear la lb sh1 sh2 nd
  go_enter Tryd.func10, Tryd.ntmps10
  go_wp2_with fail
  refine (LA.out w HH.out.tab).mono ?_
  rintro e w1 ⟨rfl, hb⟩
  have B1 := Bx.mk hb; clear hb
  go_wp2_with fail
  refine (SH1.out w1).mono ?_
  rintro e w2 ⟨rfl, hb⟩
  have B2 := Bx.mk (B1.out.trans (hb.mono B1.out.size)); clear hb B1
  go_wp2_with fail
  refine (LA.out w2 (HH.out.below B2.out).tab).mono ?_
  rintro e w3 ⟨rfl, hb⟩
  have B3 := Bx.mk (B2.out.trans (hb.mono B2.out.size)); clear hb B2
  go_wp2_with fail
  refine (LB.out w3 (HH.out.below B3.out).tab).mono ?_
  rintro e w4 ⟨rfl, hb⟩
  have B4 := Bx.mk (B3.out.trans (hb.mono B3.out.size)); clear hb B3
  go_wp2_with fail
  refine (ND.out w4 (HH.out.below B4.out).tab).mono ?_
  rintro e w5 ⟨rfl, hb⟩
  have B5 := Bx.mk (B4.out.trans (hb.mono B4.out.size)); clear hb B4
  go_wp2_with fail
  refine (SH2.out w5).mono ?_
  rintro e w6 ⟨rfl, hb⟩
  have B6 := Bx.mk (B5.out.trans (hb.mono B5.out.size)); clear hb B5
  have hz := hszL zero32'_length; have hzo := hsoL zero32'_length; have hz1 := ocells_one zero32'
  generalize hzc : ocells zero32' = zc at hz hzo hz1
  have HZC := Bx.mk hzc; have HZ := Bx.mk hz; have HZO := Bx.mk hzo; have HZ1 := Bx.mk hz1
  clear hz hzo hz1 hzc
  go_wp2_with fail
  refine (read_at A w6 _ 0 ?_ ?_ (HH.out.below B6.out).err).mono ?_
  · decide +kernel
  · decide +kernel
  rintro e x0 ⟨v0, rfl, hv, hb⟩
  rw [HZC.out]
  go_upto_region 4 with (refine wpList_store_row rfl 24 (.tmp 3) (.tmp 22) rfl x0.heap.size zc rfl rfl _ zeros32 (heap_alloc_new _ _) HZ.out HZO.out HZ1.out ?_; rw [setRow_alloc_new _ _ _ _ _ rfl])
  have bz := er_al (Below.refl x0.heap.size x0) (.cells zc 24)
  generalize x0.alloc (.cells zc 24) = y0 at bz ⊢
  have bb := hb.trans (bz.mono hb.size)
  have V0 := Bx.mk (hv.below bz); have C0 := Bx.mk (B6.out.trans (bb.mono B6.out.size)); clear hv hb bz bb B6
  generalize x0.heap.size = n0
  go_wp2_with fail
  refine (read_at A y0 _ 1 ?_ ?_ (HH.out.below C0.out).err).mono ?_
  · decide +kernel
  · decide +kernel
  rintro e x1 ⟨v1, rfl, hv, hb⟩
  rw [HZC.out]
  go_upto_region 5 with (refine wpList_store_row rfl 24 (.tmp 5) (.tmp 26) rfl x1.heap.size zc rfl rfl _ zeros32 (heap_alloc_new _ _) HZ.out HZO.out HZ1.out ?_; rw [setRow_alloc_new _ _ _ _ _ rfl])
  have bz := er_al (Below.refl x1.heap.size x1) (.cells zc 24)
  generalize x1.alloc (.cells zc 24) = y1 at bz ⊢
  have bb := hb.trans (bz.mono hb.size)
  have W0 := Bx.mk (V0.out.below bb); clear V0; have V0 := Bx.mk W0.out; clear W0
  have V1 := Bx.mk (hv.below bz); have C1 := Bx.mk (C0.out.trans (bb.mono C0.out.size)); clear hv hb bz bb C0
  generalize x1.heap.size = n1
  go_wp2_with fail
  refine (read_at A y1 _ 62 ?_ ?_ (HH.out.below C1.out).err).mono ?_
  · decide +kernel
  · decide +kernel
  rintro e x2 ⟨v2, rfl, hv, hb⟩
  rw [HZC.out]
  go_upto_region 6 with (refine wpList_store_row rfl 24 (.tmp 7) (.tmp 30) rfl x2.heap.size zc rfl rfl _ zeros32 (heap_alloc_new _ _) HZ.out HZO.out HZ1.out ?_; rw [setRow_alloc_new _ _ _ _ _ rfl])
  have bz := er_al (Below.refl x2.heap.size x2) (.cells zc 24)
  generalize x2.alloc (.cells zc 24) = y2 at bz ⊢
  have bb := hb.trans (bz.mono hb.size)
  have W0 := Bx.mk (V0.out.below bb); clear V0; have V0 := Bx.mk W0.out; clear W0
  have W1 := Bx.mk (V1.out.below bb); clear V1; have V1 := Bx.mk W1.out; clear W1
  have V2 := Bx.mk (hv.below bz); have C2 := Bx.mk (C1.out.trans (bb.mono C1.out.size)); clear hv hb bz bb C1
  generalize x2.heap.size = n2
  go_wp2_with fail
  refine (read_at A y2 _ 64 ?_ ?_ (HH.out.below C2.out).err).mono ?_
  · decide +kernel
  · decide +kernel
  rintro e x3 ⟨v3, rfl, hv, hb⟩
  rw [HZC.out]
  go_upto_region 7 with (refine wpList_store_row rfl 24 (.tmp 9) (.tmp 34) rfl x3.heap.size zc rfl rfl _ zeros32 (heap_alloc_new _ _) HZ.out HZO.out HZ1.out ?_; rw [setRow_alloc_new _ _ _ _ _ rfl])
  have bz := er_al (Below.refl x3.heap.size x3) (.cells zc 24)
  generalize x3.alloc (.cells zc 24) = y3 at bz ⊢
  have bb := hb.trans (bz.mono hb.size)
  have W0 := Bx.mk (V0.out.below bb); clear V0; have V0 := Bx.mk W0.out; clear W0
  have W1 := Bx.mk (V1.out.below bb); clear V1; have V1 := Bx.mk W1.out; clear W1
  have W2 := Bx.mk (V2.out.below bb); clear V2; have V2 := Bx.mk W2.out; clear W2
  have V3 := Bx.mk (hv.below bz); have C3 := Bx.mk (C2.out.trans (bb.mono C2.out.size)); clear hv hb bz bb C2
  generalize x3.heap.size = n3
  go_wp2_with fail
  refine (read_at A y3 _ 63 ?_ ?_ (HH.out.below C3.out).err).mono ?_
  · decide +kernel
  · decide +kernel
  rintro e x4 ⟨v4, rfl, hv, hb⟩
  rw [HZC.out]
  go_upto_region 8 with (refine wpList_store_row rfl 24 (.tmp 11) (.tmp 38) rfl x4.heap.size zc rfl rfl _ zeros32 (heap_alloc_new _ _) HZ.out HZO.out HZ1.out ?_; rw [setRow_alloc_new _ _ _ _ _ rfl])
  have bz := er_al (Below.refl x4.heap.size x4) (.cells zc 24)
  generalize x4.alloc (.cells zc 24) = y4 at bz ⊢
  have bb := hb.trans (bz.mono hb.size)
  have W0 := Bx.mk (V0.out.below bb); clear V0; have V0 := Bx.mk W0.out; clear W0
  have W1 := Bx.mk (V1.out.below bb); clear V1; have V1 := Bx.mk W1.out; clear W1
  have W2 := Bx.mk (V2.out.below bb); clear V2; have V2 := Bx.mk W2.out; clear W2
  have W3 := Bx.mk (V3.out.below bb); clear V3; have V3 := Bx.mk W3.out; clear W3
  have V4 := Bx.mk (hv.below bz); have C4 := Bx.mk (C3.out.trans (bb.mono C3.out.size)); clear hv hb bz bb C3
  generalize x4.heap.size = n4
  have hA := nameA_is; have hN := nameN_is
  simp only [Bool.and_eq_true, beq_iff_eq] at hA hN
  generalize nameA = na at hA
  generalize nameN = nn at hN
  obtain ⟨⟨a1, a2⟩, a3⟩ := hA
  obtain ⟨⟨c1, c2⟩, c3⟩ := hN
  have t1 : (na.extract 0 4).toList = [48, 50, 50, 97] := (toList_of a2).trans (by decide +kernel)
  have t2 : (na.extract 62 64).toList = [51, 99] := (toList_of a3).trans (by decide +kernel)
  have t3 : (nn.extract 0 4).toList = [98, 49, 51, 55] := (toList_of c2).trans (by decide +kernel)
  have t4 : (nn.extract 62 64).toList = [101, 98] := (toList_of c3).trans (by decide +kernel)
  clear a2 a3 c2 c3
  go_upto_region 9 with (fail)
  clear a1 c1 t1 t2 t3 t4
  have e5 := lives_any A y4 (HH.out.below C4.out)
  have E5 := Bx.mk e5; clear e5
  go_wp2_with fail
  refine E5.out.mono ?_
  rintro e z0 ⟨rfl, hb⟩
  have D0 := Bx.mk hb; clear hb
  go_wp2_with fail
  refine (isAt_yes (HH.out.below (C4.out.trans (D0.out.mono C4.out.size))).err 0 (V0.out.below D0.out)).mono ?_
  rintro e z1 ⟨rfl, hb⟩
  have D1 := Bx.mk (D0.out.trans (hb.mono D0.out.size)); clear hb D0
  go_wp2_with fail
  refine (isAt_yes (HH.out.below (C4.out.trans (D1.out.mono C4.out.size))).err 1 (V1.out.below D1.out)).mono ?_
  rintro e z2 ⟨rfl, hb⟩
  have D2 := Bx.mk (D1.out.trans (hb.mono D1.out.size)); clear hb D1
  go_wp2_with fail
  refine (isAt_yes (HH.out.below (C4.out.trans (D2.out.mono C4.out.size))).err 62 (V2.out.below D2.out)).mono ?_
  rintro e z3 ⟨rfl, hb⟩
  have D3 := Bx.mk (D2.out.trans (hb.mono D2.out.size)); clear hb D2
  go_wp2_with fail
  refine (isAt_yes (HH.out.below (C4.out.trans (D3.out.mono C4.out.size))).err 64 (V3.out.below D3.out)).mono ?_
  rintro e z4 ⟨rfl, hb⟩
  have D4 := Bx.mk (D3.out.trans (hb.mono D3.out.size)); clear hb D3
  go_wp2_with fail
  refine (isAt_yes (HH.out.below (C4.out.trans (D4.out.mono C4.out.size))).err 63 (V4.out.below D4.out)).mono ?_
  rintro e z5 ⟨rfl, hb⟩
  have D5 := Bx.mk (D4.out.trans (hb.mono D4.out.size)); clear hb D4
  go_wp2_with fail
  go_ret
  exact ⟨rfl, C4.out.trans (D5.out.mono C4.out.size)⟩
end Go.Proofs.YtecdaokgnkhgiaaDoor
