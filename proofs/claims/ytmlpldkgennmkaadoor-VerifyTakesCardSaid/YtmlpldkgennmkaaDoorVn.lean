/- verify.Inclusion, cartularyref18.Inclusion. -/
import Derived.Test.YtmlpldkgennmkaaDoorVm
namespace Go.Proofs.YtmlpldkgennmkaaDoor
set_option maxRecDepth 100000
open Go.RowKit
noncomputable def inclV (A : Nat → Addr) (i s : Nat) (leaf : List UInt8) (ps : List (List UInt8)) (root : List UInt8) : Value :=
  if 9223372036854775808 < s ∨ s ≤ i then errVal A 4
  else if ps.length = (hdirs i s).length then (if climb nd leaf (hdirs i s) ps = root then .nilIface else errVal A 9) else errVal A 9
noncomputable def rinclV (i s : Nat) (leaf : List UInt8) (ps : List (List UInt8)) (root : List UInt8) : Value :=
  if 9223372036854775808 < s ∨ s ≤ i then faultV 5 (-1)
  else if ps.length = (hdirs i s).length then (if climb nd leaf (hdirs i s) ps = root then faultV 0 0 else faultV 10 (-1)) else faultV 10 (-1)
/-- the three ways of Root -/
theorem root_ways (i s : Nat) (leaf : List UInt8) (hl : leaf.length = 32) (ps : List (List UInt8)) :
    (∃ k : Nat, (k = 4 ∨ k = 9) ∧ (∀ A, rootV A i s leaf ps = .tuple #[.agg (ocells zero32'), errVal A k]) ∧ rrootV i s leaf ps = .tuple #[.agg (ocells zero32'), .agg #[.int .i64 ((k : Int) + 1), .int .i64 (-1)]] ∧ ∀ root, (∀ A, inclV A i s leaf ps root = errVal A k) ∧ rinclV i s leaf ps root = .agg #[.int .i64 ((k : Int) + 1), .int .i64 (-1)]) ∨
    (∃ L : List UInt8, L.length = 32 ∧ (∀ A, rootV A i s leaf ps = .tuple #[.agg (ocells L), .nilIface]) ∧ rrootV i s leaf ps = .tuple #[.agg (ocells L), .agg #[.int .i64 0, .int .i64 0]] ∧ ∀ root, (∀ A, inclV A i s leaf ps root = if L = root then .nilIface else errVal A 9) ∧ rinclV i s leaf ps root = if L = root then .agg #[.int .i64 0, .int .i64 0] else .agg #[.int .i64 10, .int .i64 (-1)]) := by
  by_cases hb : 9223372036854775808 < s ∨ s ≤ i
  · refine .inl ⟨4, .inl rfl, fun A => ?_, ?_, fun root => ⟨fun A => ?_, ?_⟩⟩
    · unfold rootV; rw [if_pos hb]; rfl
    · unfold rrootV; rw [if_pos hb]; rfl
    · unfold inclV; rw [if_pos hb]
    · unfold rinclV; rw [if_pos hb]; rfl
  · by_cases hlen : ps.length = (hdirs i s).length
    · refine .inr ⟨climb nd leaf (hdirs i s) ps, climb_length hl _ _, fun A => ?_, ?_, fun root => ⟨fun A => ?_, ?_⟩⟩
      · unfold rootV; rw [if_neg hb, if_pos hlen]; rfl
      · unfold rrootV; rw [if_neg hb, if_pos hlen]; rfl
      · unfold inclV; rw [if_neg hb, if_pos hlen]
      · unfold rinclV; rw [if_neg hb, if_pos hlen]; rfl
    · refine .inl ⟨9, .inr rfl, fun A => ?_, ?_, fun root => ⟨fun A => ?_, ?_⟩⟩
      · unfold rootV; rw [if_neg hb, if_neg hlen]; rfl
      · unfold rrootV; rw [if_neg hb, if_neg hlen]; rfl
      · unfold inclV; rw [if_neg hb, if_neg hlen]
      · unfold rinclV; rw [if_neg hb, if_neg hlen]; rfl
set_option maxHeartbeats 3200000 in
theorem incl_any (A : Nat → Addr) (w : World) (i s : Nat) (hi : i < 18446744073709551616) (hs64 : s < 18446744073709551616) (leaf : List UInt8) (hl : leaf.length = 32) (ad : Option Addr) (n cap : Nat) (ps : List (List UInt8)) (hH : Hss w (.slice ad n cap) ps) (root : List UInt8) (hr : root.length = 32) (hT : Hs A w) :
    Calls Tryd.prog 14 #[.int .u64 (i : Int), .int .u64 (s : Int), hv leaf, .slice ad n cap, hv root] w fun e w' => e = .returned (inclV A i s leaf ps root) ∧ Below w.heap.size w w' := by
  have x0 := (HashAt.new w leaf hl).below (er_al (Below.refl _ _) (.cells (ocells root) 24))
  have x1 := HashAt.new (w.alloc (.cells (ocells leaf) 24)) root hr
  rw [show (w.alloc (.cells (ocells leaf) 24)).heap.size = w.heap.size + 1 by simp] at x1
  have kb : Below w.heap.size w ((w.alloc (.cells (ocells leaf) 24)).alloc (.cells (ocells root) 24)) := er_al (er_al (Below.refl _ _) _) _
  have HH := Bx.mk hT; have LL := Bx.mk hl; have RL := Bx.mk hr; have HHS := Bx.mk hH; have WAYS := Bx.mk (root_ways i s leaf hl ps)
  clear hT hl hr hH
  unfold hv
  go_enter Tryd.func14, Tryd.ntmps14
  go_upto_region 1 with (fail)
  change Code.wp _ _ _ _ ((w.alloc (.cells (ocells leaf) 24)).alloc (.cells (ocells root) 24))
  generalize (w.alloc (.cells (ocells leaf) 24)).alloc (.cells (ocells root) 24) = W at x0 x1 kb ⊢
  have cr := root_any A W i s hi hs64 leaf LL.out ad n cap ps (HHS.out.below kb) (HH.out.below kb)
  rw [hv_agg] at cr
  have X0 := Bx.mk x0; have X1 := Bx.mk x1; have KB := Bx.mk kb; have CR := Bx.mk cr; clear x0 x1 kb cr hi hs64
  go_wp2_with (guard_target =~ wpList _ _ _ (⟨some 16, _, _, _, _, _⟩ :: _) _ _; refine wpList_load_row rfl 24 (.tmp 7) rfl w.heap.size rfl _ _ _ _ X0.out.1 underH rfl (hszL LL.out) ?_)
  refine CR.out.mono ?_
  rintro e w1 ⟨rfl, hb⟩
  have B1 := Bx.mk (KB.out.trans (hb.mono KB.out.size)); have Y1 := Bx.mk (X1.out.below hb); clear hb
  rcases WAYS.out with ⟨k, hk, h1, _, h3⟩ | ⟨L, hL, h1, _, h3⟩
  · rw [h1 A]
    have h4 := (h3 root).1 A
    have H4 := Bx.mk h4
    clear h1 h3 h4
    unfold errVal
    go_upto_region 2 with (guard_target =~ wpList _ _ _ (⟨none, _, _, _, _, _⟩ :: _) _ _; refine wpList_store_row rfl 24 (.tmp 11) (.tmp 19) rfl w1.heap.size (ocells zero32') rfl rfl _ zeros32 (heap_alloc_new _ _) (hszL zero32'_length) (hsoL zero32'_length) (ocells_one _) ?_; rw [setRow_alloc_new _ _ _ _ _ rfl])
    have b2 := er_al (Below.refl w1.heap.size w1) (.cells (ocells zero32') 24)
    generalize w1.alloc (.cells (ocells zero32') 24) = w2 at b2 ⊢
    have B2 := Bx.mk (B1.out.trans (b2.mono B1.out.size)); clear b2
    generalize w1.heap.size = n1
    clear hk
    go_wp2_with fail
    go_ret
    exact ⟨by rw [H4.out]; rfl, B2.out⟩
  · rw [h1 A]
    have h4 := (h3 root).1 A
    have H4 := Bx.mk h4; have LLL := Bx.mk hL
    clear h1 h3 h4 hL
    go_upto_region 2 with (guard_target =~ wpList _ _ _ (⟨none, _, _, _, _, _⟩ :: _) _ _; refine wpList_store_row rfl 24 (.tmp 11) (.tmp 19) rfl w1.heap.size (ocells L) rfl rfl _ zeros32 (heap_alloc_new _ _) (hszL LLL.out) (hsoL LLL.out) (ocells_one _) ?_; rw [setRow_alloc_new _ _ _ _ _ rfl])
    have x2 := HashAt.new w1 L LLL.out
    have b2 := er_al (Below.refl w1.heap.size w1) (.cells (ocells L) 24)
    generalize w1.alloc (.cells (ocells L) 24) = w2 at x2 b2 ⊢
    generalize w1.heap.size = n1 at x2 ⊢
    have B2 := Bx.mk (B1.out.trans (b2.mono B1.out.size)); have Z1 := Bx.mk (Y1.out.below b2); have X2 := Bx.mk x2; clear b2 x2
    have q := fun u => hv_neq u L root LLL.out RL.out
    simp only [hv_agg] at q
    have g9 : w2.cell? ⟨1, 0, none⟩ = some (.iface 144 (.pointer (some (A 9)))) := (HH.out.below B2.out).err.glob 9 (by decide)
    by_cases hLr : L = root
    · rw [if_pos hLr] at H4
      have hq : (L == root) = true := by rw [hLr]; simp
      simp only [hq, Bool.not_true] at q
      clear hq hLr
      go_wp2_with (first
        | (guard_target =~ wpList _ _ _ (⟨some 24, _, _, _, _, _⟩ :: _) _ _; refine wpList_load_row rfl 24 (.tmp 11) rfl n1 rfl _ _ _ _ X2.out.1 underH rfl (hszL LLL.out) ?_)
        | (guard_target =~ wpList _ _ _ (⟨some 25, _, _, _, _, _⟩ :: _) _ _; refine wpList_load_row rfl 24 (.tmp 9) rfl (w.heap.size + 1) rfl _ _ _ _ Z1.out.1 underH rfl (hszL RL.out) ?_))
      go_ret
      exact ⟨by rw [H4.out]; rfl, B2.out⟩
    · rw [if_neg hLr] at H4
      have hq : (L == root) = false := beq_eq_false_iff_ne.2 hLr
      simp only [hq, Bool.not_false] at q
      clear hq hLr
      go_wp2_with (first
        | (guard_target =~ wpList _ _ _ (⟨some 24, _, _, _, _, _⟩ :: _) _ _; refine wpList_load_row rfl 24 (.tmp 11) rfl n1 rfl _ _ _ _ X2.out.1 underH rfl (hszL LLL.out) ?_)
        | (guard_target =~ wpList _ _ _ (⟨some 25, _, _, _, _, _⟩ :: _) _ _; refine wpList_load_row rfl 24 (.tmp 9) rfl (w.heap.size + 1) rfl _ _ _ _ Z1.out.1 underH rfl (hszL RL.out) ?_))
      go_ret
      exact ⟨by rw [H4.out]; rfl, B2.out⟩
theorem fault_ne (u : World) (k : Nat) (hk : k = 4 ∨ k = 9) : (binOp .neq 35 (.agg #[.int .i64 ((k : Int) + 1), .int .i64 (-1)]) (.agg #[.int .i64 0, .int .i64 0])).run Tryd.prog u = .ok (.bool true) u := by
  rcases hk with rfl | rfl <;> kernel_rfl
theorem fault_eq (u : World) : (binOp .neq 35 (.agg #[.int .i64 0, .int .i64 0]) (.agg #[.int .i64 0, .int .i64 0])).run Tryd.prog u = .ok (.bool false) u := by kernel_rfl
set_option maxHeartbeats 3200000 in
theorem rincl_any (w : World) (i s : Nat) (hi : i < 18446744073709551616) (hs64 : s < 18446744073709551616) (leaf : List UInt8) (hl : leaf.length = 32) (ad : Option Addr) (n cap : Nat) (ps : List (List UInt8)) (hH : Hss w (.slice ad n cap) ps) (root : List UInt8) (hr : root.length = 32) :
    Calls Tryd.prog 15 #[.int .u64 (i : Int), .int .u64 (s : Int), hv leaf, .slice ad n cap, hv root] w fun e w' => e = .returned (rinclV i s leaf ps root) ∧ Below w.heap.size w w' := by
  have x0 := ((HashAt.new w leaf hl).below (er_al (Below.refl _ _) (.cells (ocells root) 24))).below (er_al (Below.refl _ _) (.cells fz 35))
  have x1 := (HashAt.new (w.alloc (.cells (ocells leaf) 24)) root hr).below (er_al (Below.refl _ _) (.cells fz 35))
  rw [show (w.alloc (.cells (ocells leaf) 24)).heap.size = w.heap.size + 1 by simp] at x1
  have x2 : (((w.alloc (.cells (ocells leaf) 24)).alloc (.cells (ocells root) 24)).alloc (.cells fz 35)).heap[w.heap.size + 2]? = some (.cells fz 35 (0, 0)) := by
    simpa using heap_alloc_new ((w.alloc (.cells (ocells leaf) 24)).alloc (.cells (ocells root) 24)) (.cells fz 35)
  have kb : Below w.heap.size w (((w.alloc (.cells (ocells leaf) 24)).alloc (.cells (ocells root) 24)).alloc (.cells fz 35)) := er_al (er_al (er_al (Below.refl _ _) _) _) _
  have LL := Bx.mk hl; have RL := Bx.mk hr; have HHS := Bx.mk hH; have WAYS := Bx.mk (root_ways i s leaf hl ps)
  clear hl hr hH
  unfold hv
  go_enter Tryd.func15, Tryd.ntmps15
  go_upto_region 1 with (fail)
  change Code.wp _ _ _ _ (((w.alloc (.cells (ocells leaf) 24)).alloc (.cells (ocells root) 24)).alloc (.cells fz 35))
  generalize ((w.alloc (.cells (ocells leaf) 24)).alloc (.cells (ocells root) 24)).alloc (.cells fz 35) = W at x0 x1 x2 kb ⊢
  obtain ⟨N, hN⟩ : ∃ N, N = w.heap.size := ⟨_, rfl⟩
  have cr := rroot_any W i s hi hs64 leaf LL.out ad n cap ps (HHS.out.below kb)
  rw [hv_agg] at cr
  rw [← hN] at x0 x1 x2 kb ⊢
  have X0 := Bx.mk x0; have X1 := Bx.mk x1; have X2 := Bx.mk x2; have KB := Bx.mk kb; have CR := Bx.mk cr; have HN := Bx.mk hN; clear x0 x1 x2 kb cr hi hs64 hN
  go_wp2_with (guard_target =~ wpList _ _ _ (⟨some 16, _, _, _, _, _⟩ :: _) _ _; refine wpList_load_row rfl 24 (.tmp 7) rfl N rfl _ _ _ _ X0.out.1 underH rfl (hszL LL.out) ?_)
  refine CR.out.mono ?_
  rintro e w1 ⟨rfl, hb⟩
  have B1 := Bx.mk (btr HN.out KB.out hb); have Y1 := Bx.mk (X1.out.below hb); have Y2 := Bx.mk ((hb.block _ (Array.getElem?_eq_some_iff.1 X2.out).1).trans X2.out); clear hb
  have r7 : ((w1.alloc (.cells zeros32 24)).alloc (.cells fz 35)).heap[w1.heap.size]? = some (.cells zeros32 24 (0, 0)) := by
    rw [Below.heap_alloc _ _ _ (by simp)]; exact heap_alloc_new _ _
  rcases WAYS.out with ⟨k, hk, _, h1, h3⟩ | ⟨L, hL, _, h1, h3⟩
  · rw [h1]
    have h4 := (h3 root).2
    have fq := fun u => fault_ne u k hk
    have H4 := Bx.mk h4
    clear h1 h3 h4 hk
    go_upto_region 2 with (guard_target =~ wpList _ _ _ (⟨none, .store 24 _ _, _, _, _, _⟩ :: _) _ _; refine wpList_store_row rfl 24 (.tmp 11) (.tmp 19) rfl w1.heap.size (ocells zero32') rfl rfl _ zeros32 r7 (hszL zero32'_length) (hsoL zero32'_length) (ocells_one _) ?_; rw [setRow_alloc2 _ _ _ _ _ _ rfl])
    have x3 := (HashAt.new w1 zero32' zero32'_length).below (er_al (Below.refl _ _) (.cells #[.int .i64 ((k : Int) + 1), .int .i64 (-1)] 35))
    have x4 : ((w1.alloc (.cells (ocells zero32') 24)).alloc (.cells #[.int .i64 ((k : Int) + 1), .int .i64 (-1)] 35)).heap[w1.heap.size + 1]? = some (.cells #[.int .i64 ((k : Int) + 1), .int .i64 (-1)] 35 (0, 0)) := by
      simpa using heap_alloc_new (w1.alloc (.cells (ocells zero32') 24)) (.cells #[.int .i64 ((k : Int) + 1), .int .i64 (-1)] 35)
    have b2 : Below w1.heap.size w1 ((w1.alloc (.cells (ocells zero32') 24)).alloc (.cells #[.int .i64 ((k : Int) + 1), .int .i64 (-1)] 35)) := er_al (er_al (Below.refl _ _) _) _
    generalize (w1.alloc (.cells (ocells zero32') 24)).alloc (.cells #[.int .i64 ((k : Int) + 1), .int .i64 (-1)] 35) = w2 at x3 x4 b2 ⊢
    generalize w1.heap.size = n1 at x3 x4 r7 ⊢
    have B2 := Bx.mk (btr HN.out B1.out b2); have Z1 := Bx.mk (Y1.out.below b2); have z2 := (b2.block _ (Array.getElem?_eq_some_iff.1 Y2.out).1).trans Y2.out; have X3 := Bx.mk x3
    have c0 := er_cellAt x4 0 _ rfl
    have c1 := er_cellAt x4 1 _ rfl
    have d0 := er_cellAt z2 0 _ rfl
    have d1 := er_cellAt z2 1 _ rfl
    have f0 := er_frozen z2 0
    have f1 := er_frozen z2 1
    have Z2 := Bx.mk z2
    clear b2 x3 x4 r7 z2
    go_wp2_with fail
    have tw := two_set Z2.out (.int .i64 ((k : Int) + 1)) (.int .i64 (-1))
    exact bodyPost_ret (results_cell_row rfl _ _ (N + 2) _ #[.int .i64 ((k : Int) + 1), .int .i64 (-1)] _ _ rfl tw.1 Tryd.underlying35 rfl (by kernel_rfl)) rfl ⟨by rw [H4.out], HN.out ▸ (B2.out.setCell (show N ≤ N + 2 by omega) _).setCell (show N ≤ N + 2 by omega) _⟩
  · rw [h1]
    have h4 := (h3 root).2
    have fq := fault_eq
    have H4 := Bx.mk h4; have LLL := Bx.mk hL
    clear h1 h3 h4 hL
    go_upto_region 2 with (guard_target =~ wpList _ _ _ (⟨none, .store 24 _ _, _, _, _, _⟩ :: _) _ _; refine wpList_store_row rfl 24 (.tmp 11) (.tmp 19) rfl w1.heap.size (ocells L) rfl rfl _ zeros32 r7 (hszL LLL.out) (hsoL LLL.out) (ocells_one _) ?_; rw [setRow_alloc2 _ _ _ _ _ _ rfl])
    have x3 := (HashAt.new w1 L LLL.out).below (er_al (Below.refl _ _) (.cells #[.int .i64 0, .int .i64 0] 35))
    have x4 : ((w1.alloc (.cells (ocells L) 24)).alloc (.cells #[.int .i64 0, .int .i64 0] 35)).heap[w1.heap.size + 1]? = some (.cells #[.int .i64 0, .int .i64 0] 35 (0, 0)) := by
      simpa using heap_alloc_new (w1.alloc (.cells (ocells L) 24)) (.cells #[.int .i64 0, .int .i64 0] 35)
    have b2 : Below w1.heap.size w1 ((w1.alloc (.cells (ocells L) 24)).alloc (.cells #[.int .i64 0, .int .i64 0] 35)) := er_al (er_al (Below.refl _ _) _) _
    generalize (w1.alloc (.cells (ocells L) 24)).alloc (.cells #[.int .i64 0, .int .i64 0] 35) = w2 at x3 x4 b2 ⊢
    generalize w1.heap.size = n1 at x3 x4 r7 ⊢
    have B2 := Bx.mk (btr HN.out B1.out b2); have Z1 := Bx.mk (Y1.out.below b2); have z2 := (b2.block _ (Array.getElem?_eq_some_iff.1 Y2.out).1).trans Y2.out; have X3 := Bx.mk x3
    have c0 := er_cellAt x4 0 _ rfl
    have c1 := er_cellAt x4 1 _ rfl
    have d0 := er_cellAt z2 0 _ rfl
    have d1 := er_cellAt z2 1 _ rfl
    have f0 := er_frozen z2 0
    have f1 := er_frozen z2 1
    have Z2 := Bx.mk z2
    clear b2 x3 x4 r7 z2
    have q := fun u => hv_neq u L root LLL.out RL.out
    simp only [hv_agg] at q
    by_cases hLr : L = root
    · rw [if_pos hLr] at H4
      have hq : (L == root) = true := by rw [hLr]; simp
      simp only [hq, Bool.not_true] at q
      clear hq hLr
      go_wp2_with (first
        | (guard_target =~ wpList _ _ _ (⟨some 25, _, _, _, _, _⟩ :: _) _ _; refine wpList_load_row rfl 24 (.tmp 11) rfl n1 rfl _ _ _ _ X3.out.1 underH rfl (hszL LLL.out) ?_)
        | (guard_target =~ wpList _ _ _ (⟨some 26, _, _, _, _, _⟩ :: _) _ _; refine wpList_load_row rfl 24 (.tmp 9) rfl (N + 1) rfl _ _ _ _ Z1.out.1 underH rfl (hszL RL.out) ?_))
      have tw := two_set Z2.out (.int .i64 0) (.int .i64 0)
      exact bodyPost_ret (results_cell_row rfl _ _ (N + 2) _ #[.int .i64 0, .int .i64 0] _ _ rfl tw.1 Tryd.underlying35 rfl (by kernel_rfl)) rfl ⟨by rw [H4.out], HN.out ▸ (B2.out.setCell (show N ≤ N + 2 by omega) _).setCell (show N ≤ N + 2 by omega) _⟩
    · rw [if_neg hLr] at H4
      have hq : (L == root) = false := beq_eq_false_iff_ne.2 hLr
      simp only [hq, Bool.not_false] at q
      have cp := plain_any w2 10 (by decide)
      have CP := Bx.mk cp
      clear hq hLr cp
      go_wp2_with (first
        | (guard_target =~ wpList _ _ _ (⟨some 25, _, _, _, _, _⟩ :: _) _ _; refine wpList_load_row rfl 24 (.tmp 11) rfl n1 rfl _ _ _ _ X3.out.1 underH rfl (hszL LLL.out) ?_)
        | (guard_target =~ wpList _ _ _ (⟨some 26, _, _, _, _, _⟩ :: _) _ _; refine wpList_load_row rfl 24 (.tmp 9) rfl (N + 1) rfl _ _ _ _ Z1.out.1 underH rfl (hszL RL.out) ?_))
      refine CP.out.mono ?_
      rintro e w3 ⟨rfl, hb⟩
      have z3 := (hb.block _ (Array.getElem?_eq_some_iff.1 Z2.out).1).trans Z2.out
      have B3 := Bx.mk (btr HN.out B2.out hb); have Z3 := Bx.mk z3
      clear c0 c1 d0 d1 f0 f1
      have d0 := er_cellAt z3 0 _ rfl
      have d1 := er_cellAt z3 1 _ rfl
      have f0 := er_frozen z3 0
      have f1 := er_frozen z3 1
      clear hb z3
      go_wp2_with fail
      have tw := two_set Z3.out (.int .i64 10) (.int .i64 (-1))
      exact bodyPost_ret (results_cell_row rfl _ _ (N + 2) _ #[.int .i64 10, .int .i64 (-1)] _ _ rfl tw.1 Tryd.underlying35 rfl (by kernel_rfl)) rfl ⟨by rw [H4.out], HN.out ▸ (B3.out.setCell (show N ≤ N + 2 by omega) _).setCell (show N ≤ N + 2 by omega) _⟩
end Go.Proofs.YtmlpldkgennmkaaDoor
