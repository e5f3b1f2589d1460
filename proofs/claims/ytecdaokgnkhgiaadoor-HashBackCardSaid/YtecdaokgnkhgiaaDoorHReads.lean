/- cartularylaw05.HashReads walked. -/
import Derived.Test.YtecdaokgnkhgiaaDoorHrH
import Derived.Test.YtecdaokgnkhgiaaDoorHChains
namespace Go.Proofs.YtecdaokgnkhgiaaDoor
set_option maxRecDepth 100000
open Go.RowKit
/-- what both Reads hand back, in one form -/
def Rd2 (A : Nat → Addr) (W : World) (l : List UInt8) (L : List UInt8) (v : Value) (fc fa : Int) : Prop :=
  L.length = 32 ∧ ∃ p, ReadAns l p ∧ RdOut l p = .tuple #[hv L, .agg #[.int .i64 fc, .int .i64 fa]] ∧ ((p = none ∧ v = .nilIface ∧ fc = 0 ∧ fa = 0) ∨ ∃ b : Nat, p = some b ∧ ErrV W A v 3 (some (b : Int)) ∧ fc = 3 ∧ fa = (b : Int))
theorem rd2_of {A : Nat → Addr} {W : World} {l : List UInt8} {e : Ending} (h : ∃ p, ReadAns l p ∧ RhOut A W l e p) : ∃ L v fc fa, e = .returned (.tuple #[.agg (ocells L), v]) ∧ Rd2 A W l L v fc fa := by
  obtain ⟨p, hp, ho⟩ := h
  cases p with
  | none => exact ⟨_, _, 0, 0, ho, rdN_length _ _, none, hp, rfl, .inl ⟨rfl, rfl, rfl, rfl⟩⟩
  | some b =>
    obtain ⟨v, he, hv⟩ := ho
    exact ⟨_, v, 3, b, he, zero32'_length, some b, hp, rfl, .inr ⟨b, rfl, hv, rfl, rfl⟩⟩
theorem Rd2.ref {A : Nat → Addr} {W : World} {l L : List UInt8} {v : Value} {fc fa : Int} (h : Rd2 A W l L v fc fa) {e : Ending} (h' : ∃ p, ReadAns l p ∧ e = .returned (RdOut l p)) : e = .returned (.tuple #[.agg (ocells L), .agg #[.int .i64 fc, .int .i64 fa]]) := by
  obtain ⟨_, p, hp, he, _⟩ := h
  obtain ⟨q, hq, rfl⟩ := h'
  rw [readAns_unique hq hp, he]
  rfl
theorem Rd2.same {A : Nat → Addr} {W : World} {l L : List UInt8} {v : Value} {fc fa : Int} (h : Rd2 A W l L v fc fa) {u : World} (hE : Errs u A) (k : Below W.heap.size W u) :
    Calls Tryd.prog 20 #[v, .agg #[.int .i64 fc, .int .i64 fa]] u fun e w' => e = .returned (.bool true) ∧ Below u.heap.size u w' := by
  obtain ⟨_, p, _, _, ⟨_, rfl, rfl, rfl⟩ | ⟨b, _, hv, rfl, rfl⟩⟩ := h
  · exact (same_err hE .no 0 0).mono fun e w' ⟨h1, h2⟩ => ⟨h1.trans (by simp), h2⟩
  · refine (same_err hE (hv.below k) 3 (b : Int)).mono fun e w' ⟨h1, h2⟩ => ⟨h1.trans ?_, h2⟩
    rw [if_neg (by omega), if_neg (by decide)]
    simp
set_option maxHeartbeats 3200000 in
theorem hashReads_any (A : Nat → Addr) (w : World) (s : ByteArray) (hs : s.size < 9223372036854775808) (hH : Hs A w) :
    Calls Tryd.prog 8 #[.string s] w fun e w' => e = .returned (.bool true) ∧ Below w.heap.size w w' := by
  have HH := Bx.mk hH
  have c1 := read_any A w s hs hH.err
  have c2 := fun u => rread_any u s hs
  have C1 := Bx.mk c1; have C2 := Bx.mk c2
  clear hH c1 c2
  go_enter Tryd.func8, Tryd.ntmps8
  go_wp2_with fail
  refine C1.out.mono ?_
  rintro e w1 ⟨ho, hb⟩
  obtain ⟨L, v, fc, fa, rfl, hrd⟩ := rd2_of ho
  have LL := Bx.mk hrd.1
  have RD := Bx.mk hrd
  have B1 := Bx.mk hb; clear hb ho hrd C1
  go_upto_region 2 with (refine wpList_store_row rfl 24 (.tmp 3) (.tmp 10) rfl w1.heap.size (ocells L) rfl rfl _ zeros32 (heap_alloc_new _ _) (hszL LL.out) (hsoL LL.out) (ocells_one _) ?_; rw [setRow_alloc_new _ _ _ _ _ rfl])
  have x1 := HashAt.new w1 L LL.out
  have b2 := er_al (Below.refl w1.heap.size w1) (.cells (ocells L) 24)
  generalize w1.alloc (.cells (ocells L) 24) = w2 at x1 b2 ⊢
  have b3 := B1.out.trans (b2.mono B1.out.size)
  have K1 := Bx.mk b2
  have X1 := Bx.mk x1; have B3 := Bx.mk b3; clear x1 b2 b3
  obtain ⟨n1, hn1⟩ : ∃ n1, n1 = w1.heap.size := ⟨_, rfl⟩
  rw [← hn1] at X1 ⊢
  have HN1 := Bx.mk hn1; clear hn1
  go_wp2_with fail
  refine (C2.out w2).mono ?_
  rintro e w3 ⟨ho, hb⟩
  obtain rfl := RD.out.ref ho
  have x1 := X1.out.below hb
  have k1 := K1.out.trans (hb.mono K1.out.size)
  have b4 := B3.out.trans (hb.mono B3.out.size)
  have B4 := Bx.mk b4; clear hb ho b4
  have r7 : ((w3.alloc (.cells zeros32 24)).alloc (.cells fz 34)).heap[w3.heap.size]? = some (.cells zeros32 24 (0, 0)) := by
    rw [Below.heap_alloc _ _ _ (by simp)]; exact heap_alloc_new _ _
  go_upto_region 3 with (refine wpList_store_row rfl 24 (.tmp 5) (.tmp 15) rfl w3.heap.size (ocells L) rfl rfl _ zeros32 r7 (hszL LL.out) (hsoL LL.out) (ocells_one _) ?_; rw [setRow_alloc2 _ _ _ _ _ _ rfl])
  have x2 := (HashAt.new w3 L LL.out).below (er_al (Below.refl _ _) (.cells #[.int .i64 fc, .int .i64 fa] 34))
  have x1' := x1.below (er_al (er_al (Below.refl w3.heap.size w3) (.cells (ocells L) 24)) (.cells #[.int .i64 fc, .int .i64 fa] 34))
  have r8 : ((w3.alloc (.cells (ocells L) 24)).alloc (.cells #[.int .i64 fc, .int .i64 fa] 34)).heap[w3.heap.size + 1]? = some (.cells #[.int .i64 fc, .int .i64 fa] 34 (0, 0)) := by
    simpa using heap_alloc_new (w3.alloc (.cells (ocells L) 24)) (.cells #[.int .i64 fc, .int .i64 fa] 34)
  have b5 := er_al (er_al B4.out (.cells (ocells L) 24)) (.cells #[.int .i64 fc, .int .i64 fa] 34)
  have k5 : Below w1.heap.size w1 _ := k1.trans ((er_al (er_al (Below.refl w3.heap.size w3) (.cells (ocells L) 24)) (.cells #[.int .i64 fc, .int .i64 fa] 34)).mono k1.size)
  generalize (w3.alloc (.cells (ocells L) 24)).alloc (.cells #[.int .i64 fc, .int .i64 fa] 34) = w4 at x2 x1' r8 b5 k5 ⊢
  generalize w3.heap.size = n2 at x2 r8 ⊢
  have c0 := er_cellAt r8 0 _ rfl
  have c1 := er_cellAt r8 1 _ rfl
  have c5 := fun u (k : Below w.heap.size w u) => lives_any A u (HH.out.below k)
  have c3 := RD.out.same (HH.out.below b5).err k5
  have q1 : ∀ u : World, (binOp .eql 24 (.agg (ocells L)) (.agg (ocells L))).run Tryd.prog u = .ok (.bool true) u := fun u => (hv_eq u L L LL.out LL.out).trans (by simp)
  have X1' := Bx.mk x1'; have X2 := Bx.mk x2; have B5 := Bx.mk b5; have C5 := Bx.mk c5; have C3 := Bx.mk c3
  clear x1 x1' x2 r8 b5 c5 r7 B4 c3 k1 k5
  go_wp2_with (first
    | refine wpList_load_row rfl 24 (.tmp 3) rfl n1 rfl _ _ _ _ X1'.out.1 underH rfl (hszL LL.out) ?_
    | refine wpList_load_row rfl 24 (.tmp 5) rfl n2 rfl _ _ _ _ X2.out.1 underH rfl (hszL LL.out) ?_)
  refine C3.out.mono ?_
  rintro e w5 ⟨rfl, hb⟩
  have B6 := Bx.mk (B5.out.trans (hb.mono B5.out.size)); clear hb
  go_wp2_with fail
  refine (C5.out w5 B6.out).mono ?_
  rintro e w6 ⟨rfl, hb⟩
  have B7 := Bx.mk (B6.out.trans (hb.mono B6.out.size)); clear hb
  go_wp2_with fail
  go_ret
  exact ⟨rfl, B7.out⟩
end Go.Proofs.YtecdaokgnkhgiaaDoor
