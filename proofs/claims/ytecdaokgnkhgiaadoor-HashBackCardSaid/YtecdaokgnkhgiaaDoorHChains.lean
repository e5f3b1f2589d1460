/- cartularylaw05.HashChains walked. -/
import Derived.Test.YtecdaokgnkhgiaaDoorHi
namespace Go.Proofs.YtecdaokgnkhgiaaDoor
set_option maxRecDepth 100000
open Go.RowKit
theorem setRow_alloc2 (w : World) (X Y : Array Value) (T : TypeId) (o : Obj) (n : Nat) (hn : n = w.heap.size) : ((w.alloc (.cells X T)).alloc o).setRow n Y = (w.alloc (.cells Y T)).alloc o := by
  subst hn
  unfold World.setRow World.alloc
  congr 1
  apply Array.ext_getElem?
  intro k
  rw [Array.getElem?_modify]
  by_cases hk : k = w.heap.size
  · subst hk; simp [Array.getElem?_push]
  · by_cases hk2 : k = w.heap.size + 1
    · subst hk2
      rw [if_neg (by omega)]
      have e : ∀ x : Obj, ((w.heap.push x).push o)[w.heap.size + 1]? = some o := fun x => by rw [Array.getElem?_push, if_pos (by simp)]
      exact (e _).trans (e _).symm
    · simp [Array.getElem?_push, hk, hk2, Ne.symm hk]
set_option maxHeartbeats 3200000 in
theorem hashChains_gen (A : Nat → Addr) (w : World) (h : List UInt8) (hh : h.length = 32) (n : Int) (hH : Hs A w) (L : List UInt8) (hL : L.length = 32) (v : Value) (fc fa : Int)
    (C1 : Bx (∀ u, Hs A u → Calls Tryd.prog 18 #[.agg (ocells h), .int .i64 n] u fun e w' => e = .returned (.tuple #[.agg (ocells L), v]) ∧ Below u.heap.size u w'))
    (C2 : Bx (∀ u, Calls Tryd.prog 19 #[.agg (ocells h), .int .i64 n] u fun e w' => e = .returned (.tuple #[.agg (ocells L), .agg #[.int .i64 fc, .int .i64 fa]]) ∧ Below u.heap.size u w'))
    (C3 : Bx (∀ u, Hs A u → Calls Tryd.prog 20 #[v, .agg #[.int .i64 fc, .int .i64 fa]] u fun e w' => e = .returned (.bool true) ∧ Below u.heap.size u w')) :
    Calls Tryd.prog 4 #[hv h, .int .i64 n] w fun e w' => e = .returned (.bool true) ∧ Below w.heap.size w w' := by
  have x0 := HashAt.new w h hh
  have kb := er_al (Below.refl w.heap.size w) (.cells (ocells h) 24)
  have HH := Bx.mk hH; have LH := Bx.mk hh; have LL := Bx.mk hL
  clear hH hh hL
  unfold hv
  go_enter Tryd.func4, Tryd.ntmps4
  go_upto_region 1 with (fail)
  change Code.wp _ _ _ _ (w.alloc (.cells (ocells h) 24))
  generalize w.alloc (.cells (ocells h) 24) = W at x0 kb ⊢
  have X0 := Bx.mk x0; have KB := Bx.mk kb; clear x0 kb
  go_wp2_with (refine wpList_load_row rfl 24 (.tmp 2) rfl w.heap.size rfl _ _ _ _ X0.out.1 underH rfl (hszL LH.out) ?_)
  refine (C1.out W (HH.out.below KB.out)).mono ?_
  rintro e w1 ⟨rfl, hb⟩
  have B1 := Bx.mk (KB.out.trans (hb.mono KB.out.size)); have K1 := Bx.mk hb; clear hb
  go_upto_region 2 with (refine wpList_store_row rfl 24 (.tmp 5) (.tmp 13) rfl w1.heap.size (ocells L) rfl rfl _ zeros32 (heap_alloc_new _ _) (hszL LL.out) (hsoL LL.out) (ocells_one _) ?_; rw [setRow_alloc_new _ _ _ _ _ rfl])
  have x1 := HashAt.new w1 L LL.out
  have b2 := er_al (Below.refl w1.heap.size w1) (.cells (ocells L) 24)
  generalize w1.alloc (.cells (ocells L) 24) = w2 at x1 b2 ⊢
  generalize w1.heap.size = n1 at x1 ⊢
  have x0 := (X0.out.below K1.out).below b2
  have b3 := B1.out.trans (b2.mono B1.out.size)
  have X0' := Bx.mk x0; have X1 := Bx.mk x1; have B3 := Bx.mk b3; clear x0 x1 b2 b3
  go_wp2_with (refine wpList_load_row rfl 24 (.tmp 2) rfl w.heap.size rfl _ _ _ _ X0'.out.1 underH rfl (hszL LH.out) ?_)
  refine (C2.out w2).mono ?_
  rintro e w3 ⟨rfl, hb⟩
  have x1 := X1.out.below hb
  have B4 := Bx.mk (B3.out.trans (hb.mono B3.out.size)); clear hb
  have r7 : ((w3.alloc (.cells zeros32 24)).alloc (.cells fz 34)).heap[w3.heap.size]? = some (.cells zeros32 24 (0, 0)) := by
    rw [Below.heap_alloc _ _ _ (by simp)]; exact heap_alloc_new _ _
  go_upto_region 3 with (refine wpList_store_row rfl 24 (.tmp 7) (.tmp 19) rfl w3.heap.size (ocells L) rfl rfl _ zeros32 r7 (hszL LL.out) (hsoL LL.out) (ocells_one _) ?_; rw [setRow_alloc2 _ _ _ _ _ _ rfl])
  have x2 := (HashAt.new w3 L LL.out).below (er_al (Below.refl _ _) (.cells #[.int .i64 fc, .int .i64 fa] 34))
  have x1' := x1.below (er_al (er_al (Below.refl w3.heap.size w3) (.cells (ocells L) 24)) (.cells #[.int .i64 fc, .int .i64 fa] 34))
  have r8 : ((w3.alloc (.cells (ocells L) 24)).alloc (.cells #[.int .i64 fc, .int .i64 fa] 34)).heap[w3.heap.size + 1]? = some (.cells #[.int .i64 fc, .int .i64 fa] 34 (0, 0)) := by
    simpa using heap_alloc_new (w3.alloc (.cells (ocells L) 24)) (.cells #[.int .i64 fc, .int .i64 fa] 34)
  have b5 := er_al (er_al B4.out (.cells (ocells L) 24)) (.cells #[.int .i64 fc, .int .i64 fa] 34)
  generalize (w3.alloc (.cells (ocells L) 24)).alloc (.cells #[.int .i64 fc, .int .i64 fa] 34) = w4 at x2 x1' r8 b5 ⊢
  generalize w3.heap.size = n2 at x2 r8 ⊢
  have c0 := er_cellAt r8 0 _ rfl
  have c1 := er_cellAt r8 1 _ rfl
  have c5 := fun u (k : Below w.heap.size w u) => lives_any A u (HH.out.below k)
  have q1 : ∀ u : World, (binOp .eql 24 (.agg (ocells L)) (.agg (ocells L))).run Tryd.prog u = .ok (.bool true) u := fun u => (hv_eq u L L LL.out LL.out).trans (by simp)
  have X1' := Bx.mk x1'; have X2 := Bx.mk x2; have B5 := Bx.mk b5; have C5 := Bx.mk c5
  clear x1 x1' x2 r8 b5 c5 r7 B4
  go_wp2_with (first
    | refine wpList_load_row rfl 24 (.tmp 5) rfl n1 rfl _ _ _ _ X1'.out.1 underH rfl (hszL LL.out) ?_
    | refine wpList_load_row rfl 24 (.tmp 7) rfl n2 rfl _ _ _ _ X2.out.1 underH rfl (hszL LL.out) ?_)
  refine (C3.out w4 (HH.out.below B5.out)).mono ?_
  rintro e w5 ⟨rfl, hb⟩
  have B6 := Bx.mk (B5.out.trans (hb.mono B5.out.size)); clear hb
  go_wp2_with fail
  refine (C5.out w5 B6.out).mono ?_
  rintro e w6 ⟨rfl, hb⟩
  have B7 := Bx.mk (B6.out.trans (hb.mono B6.out.size)); clear hb
  go_wp2_with fail
  go_ret
  exact ⟨rfl, B7.out⟩
theorem hashChains_any (A : Nat → Addr) (w : World) (h : List UInt8) (hh : h.length = 32) (n : Int) (hH : Hs A w) :
    Calls Tryd.prog 4 #[hv h, .int .i64 n] w fun e w' => e = .returned (.bool true) ∧ Below w.heap.size w w' := by
  by_cases hn : 0 ≤ n ∧ n ≤ 255
  · obtain ⟨k, rfl⟩ : ∃ k : Nat, n = (k : Int) := ⟨n.toNat, by omega⟩
    refine hashChains_gen A w h hh k hH (chainN h k) (chainN_length hh k) .nilIface 0 0 ⟨fun u hu => ?_⟩ ⟨fun u => ?_⟩ ⟨fun u hu => ?_⟩
    · exact chain_any u h hh k (by omega) hu.tab
    · exact rchain_any u h hh k (by omega)
    · exact (same_err hu.err .no 0 0).mono fun e w' ⟨h1, h2⟩ => ⟨h1.trans (by simp), h2⟩
  · refine hashChains_gen A w h hh n hH zero32' zero32'_length (.iface 126 (.pointer (some (A 1)))) 2 (-1) ⟨fun u hu => ?_⟩ ⟨fun u => ?_⟩ ⟨fun u hu => ?_⟩
    · exact chain_bad u h n (by omega) A hu.err
    · exact rchain_bad u h n (by omega)
    · exact (same_err hu.err (.plain 1 (by decide)) 2 (-1)).mono fun e w' ⟨h1, h2⟩ => ⟨h1.trans (by simp), h2⟩
end Go.Proofs.YtecdaokgnkhgiaaDoor
