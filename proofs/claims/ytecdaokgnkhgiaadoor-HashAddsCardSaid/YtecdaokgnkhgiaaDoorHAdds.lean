/- cartularylaw05.HashAdds walked. -/
import Derived.Test.YtecdaokgnkhgiaaDoorHf
import Derived.Test.YtecdaokgnkhgiaaDoorRowW
namespace Go.Proofs.YtecdaokgnkhgiaaDoor
set_option maxRecDepth 100000
open Go.RowKit
theorem nil_ne (w : World) : (binOp .neq 30 .nilIface .nilIface).run Tryd.prog w = .ok (.bool false) w := by kernel_rfl
set_option maxHeartbeats 3200000 in
theorem hashAdds_any (A : Nat → Addr) (w : World) (h : List UInt8) (hh : h.length = 32) (m n : Nat) (hm : m < 256) (hn : n < 256) (hH : Hs A w) :
    Calls Tryd.prog 5 #[hv h, .int .u8 (m : Int), .int .u8 (n : Int)] w fun e w' => e = .returned (.bool true) ∧ Below w.heap.size w w' := by
  have x0 := HashAt.new w h hh
  have kb := er_al (Below.refl w.heap.size w) (.cells (ocells h) 24)
  have HH := Bx.mk hH; have LH := Bx.mk hh
  clear hH hh
  unfold hv
  go_enter Tryd.func5, Tryd.ntmps5
  go_upto_region 1 with (fail)
  change Code.wp _ _ _ _ (w.alloc (.cells (ocells h) 24))
  generalize w.alloc (.cells (ocells h) 24) = W at x0 kb ⊢
  have X0 := Bx.mk x0; have KB := Bx.mk kb; clear x0 kb
  have c1 := chain_any W h LH.out m (by omega) (HH.out.below KB.out).tab
  rw [hv_agg h] at c1
  have C1 := Bx.mk c1; clear c1
  go_wp2_with (refine wpList_load_row rfl 24 (.tmp 3) rfl w.heap.size rfl _ _ _ _ X0.out.1 underH rfl (hszL LH.out) ?_)
  refine C1.out.mono ?_
  rintro e w1 ⟨rfl, hb⟩
  have B1 := Bx.mk (KB.out.trans (hb.mono KB.out.size)); have K1 := Bx.mk hb; clear hb
  have l1 := chainN_length LH.out m
  have L1 := Bx.mk l1; clear l1
  go_upto_region 2 with (refine wpList_store_row rfl 24 (.tmp 7) (.tmp 18) rfl w1.heap.size (ocells (chainN h m)) rfl rfl _ zeros32 (heap_alloc_new _ _) (hszL L1.out) (hsoL L1.out) (ocells_one _) ?_; rw [setRow_alloc_new _ _ _ _ _ rfl])
  have x1 := HashAt.new w1 (chainN h m) L1.out
  have b2 := er_al (Below.refl w1.heap.size w1) (.cells (ocells (chainN h m)) 24)
  generalize w1.alloc (.cells (ocells (chainN h m)) 24) = w2 at x1 b2 ⊢
  have x0 := (X0.out.below K1.out).below b2
  have b3 := B1.out.trans (b2.mono B1.out.size)
  generalize w1.heap.size = n1 at x1 ⊢
  have c2 := chain_any w2 (chainN h m) L1.out n (by omega) (HH.out.below b3).tab
  rw [chainN_add, hv_agg] at c2
  have X0' := Bx.mk x0; have X1 := Bx.mk x1; have B3 := Bx.mk b3; have C2 := Bx.mk c2
  clear x0 x1 b2 b3 c2 X0 K1 B1 C1
  go_wp2_with (refine wpList_load_row rfl 24 (.tmp 7) rfl n1 rfl _ _ _ _ X1.out.1 underH rfl (hszL L1.out) ?_)
  refine C2.out.mono ?_
  rintro e w3 ⟨rfl, hb⟩
  have l2 := chainN_length LH.out (m + n)
  have B4 := Bx.mk (B3.out.trans (hb.mono B3.out.size)); have K3 := Bx.mk hb; have L2 := Bx.mk l2; clear hb l2
  go_upto_region 3 with (refine wpList_store_row rfl 24 (.tmp 9) (.tmp 25) rfl w3.heap.size (ocells (chainN h (m + n))) rfl rfl _ zeros32 (heap_alloc_new _ _) (hszL L2.out) (hsoL L2.out) (ocells_one _) ?_; rw [setRow_alloc_new _ _ _ _ _ rfl])
  have x2 := HashAt.new w3 (chainN h (m + n)) L2.out
  have b4 := er_al (Below.refl w3.heap.size w3) (.cells (ocells (chainN h (m + n))) 24)
  generalize w3.alloc (.cells (ocells (chainN h (m + n))) 24) = w4 at x2 b4 ⊢
  have x0 := (X0'.out.below K3.out).below b4
  have b5 := B4.out.trans (b4.mono B4.out.size)
  generalize w3.heap.size = n2 at x2 ⊢
  have hadd : wrap64 ((m : Int) + (n : Int)) = ((m + n : Nat) : Int) := by unfold wrap64; push_cast; omega
  have X0 := Bx.mk x0; have X2 := Bx.mk x2; have B5 := Bx.mk b5
  clear x0 x2 b4 b5 X0' X1 K3 B4 B3 C2
  have c5 := fun u (k : Below w.heap.size w u) => lives_any A u (HH.out.below k)
  have C5 := Bx.mk c5; clear c5
  by_cases hgt : 255 < m + n
  · have c3 := chain_bad w4 h ((m : Int) + (n : Int)) (.inr (by omega)) A (HH.out.below B5.out).err
    rw [hv_agg, hv_agg] at c3
    have C3 := Bx.mk c3; clear c3
    have hgt' : (255 : Int) < (m : Int) + (n : Int) := by omega
    go_wp2_with (refine wpList_load_row rfl 24 (.tmp 3) rfl w.heap.size rfl _ _ _ _ X0.out.1 underH rfl (hszL LH.out) ?_)
    refine C3.out.mono ?_
    rintro e w5 ⟨rfl, hb⟩
    have B6 := Bx.mk (B5.out.trans (hb.mono B5.out.size)); clear hb
    go_upto_region 4 with (refine wpList_store_row rfl 24 (.tmp 11) (.tmp 35) rfl w5.heap.size (ocells zero32') rfl rfl _ zeros32 (heap_alloc_new _ _) (hszL zero32'_length) (hsoL zero32'_length) (ocells_one _) ?_; rw [setRow_alloc_new _ _ _ _ _ rfl])
    have x3 := HashAt.new w5 zero32' zero32'_length
    have b6 := er_al B6.out (.cells (ocells zero32') 24)
    generalize w5.alloc (.cells (ocells zero32') 24) = w6 at x3 b6 ⊢
    generalize w5.heap.size = n3 at x3 ⊢
    have ce := isE_any (HH.out.below b6).err (ErrV.plain 1 (by decide)) 2
    have CE := Bx.mk ce; have X3 := Bx.mk x3; have B7 := Bx.mk b6
    clear ce x3 b6 B6 C3
    have q1 : ∀ u : World, (binOp .eql 24 (.agg (ocells zero32')) (.agg #[.int .u8 0, .int .u8 0, .int .u8 0, .int .u8 0, .int .u8 0, .int .u8 0, .int .u8 0, .int .u8 0, .int .u8 0, .int .u8 0, .int .u8 0, .int .u8 0, .int .u8 0, .int .u8 0, .int .u8 0, .int .u8 0, .int .u8 0, .int .u8 0, .int .u8 0, .int .u8 0, .int .u8 0, .int .u8 0, .int .u8 0, .int .u8 0, .int .u8 0, .int .u8 0, .int .u8 0, .int .u8 0, .int .u8 0, .int .u8 0, .int .u8 0, .int .u8 0])).run Tryd.prog u = .ok (.bool true) u := fun u => (hv_eq u zero32' zero32' rfl rfl).trans (by simp)
    go_wp2_with fail
    refine CE.out.mono ?_
    rintro e w7 ⟨rfl, hb⟩
    have x3 := X3.out.below hb
    have B8 := Bx.mk (B7.out.trans (hb.mono B7.out.size)); have X3' := Bx.mk x3; clear hb x3
    go_wp2_with (refine wpList_load_row_w rfl 24 (.tmp 11) rfl n3 rfl _ _ _ _ X3'.out.1 underH rfl (hszL zero32'_length) ?_)
    refine (C5.out w7 B8.out).mono ?_
    rintro e w8 ⟨rfl, hb⟩
    have B9 := Bx.mk (B8.out.trans (hb.mono B8.out.size)); clear hb
    go_wp2_with fail
    go_ret
    exact ⟨rfl, B9.out⟩
  · have c3 := chain_any w4 h LH.out (m + n) (by omega) (HH.out.below B5.out).tab
    rw [hv_agg] at c3
    rw [show ((m + n : Nat) : Int) = (m : Int) + (n : Int) by push_cast; rfl] at c3
    have C3 := Bx.mk c3; clear c3
    have hgt' : ¬ (255 : Int) < (m : Int) + (n : Int) := by omega
    go_wp2_with (refine wpList_load_row rfl 24 (.tmp 3) rfl w.heap.size rfl _ _ _ _ X0.out.1 underH rfl (hszL LH.out) ?_)
    refine C3.out.mono ?_
    rintro e w5 ⟨rfl, hb⟩
    have x2 := X2.out.below hb
    have B6 := Bx.mk (B5.out.trans (hb.mono B5.out.size)); clear hb
    go_upto_region 4 with (refine wpList_store_row rfl 24 (.tmp 11) (.tmp 35) rfl w5.heap.size (ocells (chainN h (m + n))) rfl rfl _ zeros32 (heap_alloc_new _ _) (hszL L2.out) (hsoL L2.out) (ocells_one _) ?_; rw [setRow_alloc_new _ _ _ _ _ rfl])
    have x3 := HashAt.new w5 (chainN h (m + n)) L2.out
    have x2' := x2.below (er_al (Below.refl _ _) (.cells (ocells (chainN h (m + n))) 24))
    have b6 := er_al B6.out (.cells (ocells (chainN h (m + n))) 24)
    generalize w5.alloc (.cells (ocells (chainN h (m + n))) 24) = w6 at x3 x2' b6 ⊢
    generalize w5.heap.size = n3 at x3 ⊢
    have X3 := Bx.mk x3; have X2' := Bx.mk x2'; have B7 := Bx.mk b6
    clear x3 x2 x2' b6 B6 C3
    have q1 : ∀ u : World, (binOp .eql 24 (.agg (ocells (chainN h (m + n)))) (.agg (ocells (chainN h (m + n))))).run Tryd.prog u = .ok (.bool true) u := fun u => (hv_eq u (chainN h (m + n)) (chainN h (m + n)) L2.out L2.out).trans (by simp)
    go_wp2_with (first
      | refine wpList_load_row_w rfl 24 (.tmp 9) rfl n2 rfl _ _ _ _ X2'.out.1 underH rfl (hszL L2.out) ?_
      | refine wpList_load_row_w rfl 24 (.tmp 11) rfl n3 rfl _ _ _ _ X3.out.1 underH rfl (hszL L2.out) ?_)
    refine (C5.out w6 B7.out).mono ?_
    rintro e w8 ⟨rfl, hb⟩
    have B9 := Bx.mk (B7.out.trans (hb.mono B7.out.size)); clear hb
    go_wp2_with fail
    go_ret
    exact ⟨rfl, B9.out⟩
end Go.Proofs.YtecdaokgnkhgiaaDoor
