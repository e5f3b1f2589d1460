/- cartularylaw05.lives. -/
import Derived.Test.YtecdaokgnkhgiaaDoorHc
import Derived.Stop.BytesEq
namespace Go.Proofs.YtecdaokgnkhgiaaDoor
set_option maxRecDepth 100000
open Go.RowKit
set_option maxRecDepth 1000000 in
theorem sha_nil : sha [] = [227, 176, 196, 66, 152, 252, 28, 20, 154, 251, 244, 200, 153, 111, 185, 36, 39, 174, 65, 228, 100, 155, 147, 76, 164, 149, 153, 27, 120, 82, 184, 85] := by decide +kernel
set_option maxRecDepth 1000000 in
theorem sha_zero : sha [0] = [110, 52, 11, 156, 255, 179, 122, 152, 156, 165, 68, 230, 187, 120, 10, 44, 120, 144, 29, 63, 179, 55, 56, 118, 133, 17, 163, 6, 23, 175, 160, 29] := by decide +kernel
theorem hv_eq (w : World) (a b : List UInt8) (ha : a.length = 32) (hb : b.length = 32) : (binOp .eql 24 (hv a) (hv b)).run Tryd.prog w = .ok (.bool (a == b)) w :=
  run_eql_bytes w 24 5 32 underH (by kernel_rfl) (fun _ => by kernel_rfl) a b ha hb
theorem hv_agg (a : List UInt8) : hv a = .agg (ocells a) := rfl
/-- a row of a hash, new in memory -/
def HashAt (w : World) (n : Nat) (l : List UInt8) : Prop := w.heap[n]? = some (.cells (ocells l) 24 (0, 0)) ∧ l.length = 32
theorem HashAt.lt {w : World} {n : Nat} {l : List UInt8} (h : HashAt w n l) : n < w.heap.size := (Array.getElem?_eq_some_iff.1 h.1).1
theorem HashAt.below {w w' : World} {n : Nat} {l : List UInt8} (h : HashAt w n l) (k : Below w.heap.size w w') : HashAt w' n l := ⟨(k.block n h.lt).trans h.1, h.2⟩
theorem HashAt.new (w : World) (l : List UInt8) (hl : l.length = 32) : HashAt (w.alloc (.cells (ocells l) 24)) w.heap.size l := ⟨heap_alloc_new _ _, hl⟩
theorem HashAt.cell {w : World} {n : Nat} {l : List UInt8} (h : HashAt w n l) (i : Nat) (c : Int) (hc : (ocells l)[i]? = some (.int .u8 c)) : w.cell? ⟨n, i, none⟩ = some (.int .u8 c) := er_cellAt h.1 _ _ hc
/-- what a law of chapter 05 keeps of the world -/
structure Hs (A : Nat → Addr) (w : World) : Prop where
  tab : TabS w
  err : Errs w A
theorem Hs.below {A : Nat → Addr} {w w' : World} (h : Hs A w) (k : Below w.heap.size w w') : Hs A w' := ⟨h.tab.below k, h.err.below k⟩
set_option maxHeartbeats 3200000 in
theorem lives_any (A : Nat → Addr) (w : World) (hH : Hs A w) : Calls Tryd.prog 17 #[] w fun e w' => e = .returned (.bool true) ∧ Below w.heap.size w w' := by
  have HH := Bx.mk hH; clear hH
  have c1 := empty_any w HH.out.tab
  have C1 := Bx.mk c1; clear c1
  go_enter Tryd.func17, Tryd.ntmps17
  go_wp2_with fail
  refine C1.out.mono ?_
  rintro e w1 ⟨rfl, hb1⟩
  have HB1 := Bx.mk hb1; clear hb1
  go_upto_region 2 with (refine wpList_store_row rfl 24 (.tmp 1) (.tmp 5) rfl w1.heap.size (ocells (sha [])) rfl rfl _ zeros32 (heap_alloc_new _ _) (hszL (sha_length [])) (hsoL (sha_length [])) (ocells_one _) ?_; rw [setRow_alloc_new _ _ _ _ _ rfl])
  have x1 := HashAt.new w1 (sha []) (sha_length [])
  have b1 := er_al HB1.out (.cells (ocells (sha [])) 24)
  generalize w1.alloc (.cells (ocells (sha [])) 24) = w2 at x1 b1 ⊢
  generalize w1.heap.size = n1 at x1 ⊢
  have c2 := leaf_any w2 ⟨#[]⟩ (by decide) (HH.out.below b1).tab
  rw [show sb ⟨#[]⟩ = [] from rfl] at c2
  have X1 := Bx.mk x1; have B1 := Bx.mk b1; have C2 := Bx.mk c2; clear x1 b1 c2 HB1
  go_wp2_with fail
  refine C2.out.mono ?_
  rintro e w3 ⟨rfl, hb3⟩
  have HB3 := Bx.mk hb3; clear hb3
  go_upto_region 3 with (refine wpList_store_row rfl 24 (.tmp 2) (.tmp 6) rfl w3.heap.size (ocells (sha [0])) rfl rfl _ zeros32 (heap_alloc_new _ _) (hszL (sha_length [0])) (hsoL (sha_length [0])) (ocells_one _) ?_; rw [setRow_alloc_new _ _ _ _ _ rfl])
  have x2 := HashAt.new w3 (sha [0]) (sha_length [0])
  have b3 := er_al HB3.out (.cells (ocells (sha [0])) 24)
  generalize w3.alloc (.cells (ocells (sha [0])) 24) = w4 at x2 b3 ⊢
  generalize w3.heap.size = n2 at x2 ⊢
  have x1 := X1.out.below b3
  have b4 := B1.out.trans (b3.mono B1.out.size)
  have c3 := chain_bad w4 (sha []) 256 (.inr (by decide)) A (HH.out.below b4).err
  have X1' := Bx.mk x1; have X2 := Bx.mk x2; have B4 := Bx.mk b4; have C3 := Bx.mk c3; clear x1 x2 b3 b4 c3 X1 B1 HB3 C1 C2
  go_wp2_with (refine wpList_load_row rfl 24 (.tmp 1) rfl n1 rfl _ _ _ _ X1'.out.1 underH rfl (hszL (sha_length [])) ?_)
  refine C3.out.mono ?_
  rintro e w5 ⟨rfl, hb5⟩
  have HB5 := Bx.mk hb5; clear hb5
  go_upto_region 4 with (refine wpList_store_row rfl 24 (.tmp 3) (.tmp 10) rfl w5.heap.size (ocells zero32') rfl rfl _ zeros32 (heap_alloc_new _ _) (hszL zero32'_length) (hsoL zero32'_length) (ocells_one _) ?_; rw [setRow_alloc_new _ _ _ _ _ rfl])
  have b5 := er_al HB5.out (.cells (ocells zero32') 24)
  generalize w5.alloc (.cells (ocells zero32') 24) = w6 at b5 ⊢
  generalize w5.heap.size = n3
  have x1 := X1'.out.below b5
  have x2 := X2.out.below b5
  have b6 := B4.out.trans (b5.mono B4.out.size)
  have y0 := x1.cell 0 227 (by rw [sha_nil]; rfl)
  have y1 := x1.cell 1 176 (by rw [sha_nil]; rfl)
  have y2 := x1.cell 30 184 (by rw [sha_nil]; rfl)
  have y3 := x1.cell 31 85 (by rw [sha_nil]; rfl)
  have z0 := x2.cell 0 110 (by rw [sha_zero]; rfl)
  have z1 := x2.cell 1 52 (by rw [sha_zero]; rfl)
  have z2 := x2.cell 30 160 (by rw [sha_zero]; rfl)
  have z3 := x2.cell 31 29 (by rw [sha_zero]; rfl)
  have ce := isE_any (HH.out.below b6).err (ErrV.plain 1 (by decide)) 2
  have CE := Bx.mk ce; have B6 := Bx.mk b6
  clear b5 x1 x2 b6 ce X1' X2 B4 HB5 C3
  go_wp2_with fail
  refine CE.out.mono ?_
  rintro e w7 ⟨rfl, hb7⟩
  have b7 := B6.out.trans (hb7.mono B6.out.size)
  have B7 := Bx.mk b7; clear hb7 b7
  go_wp2_with fail
  go_ret
  exact ⟨rfl, B7.out⟩
end Go.Proofs.YtecdaokgnkhgiaaDoor
