/- cartularylaw18.alive. -/
import Derived.Test.YtmlpldkgennmkaaDoorVn
import Derived.Test.YtmlpldkgennmkaaDoorVq
import Derived.Test.YtmlpldkgennmkaaDoorVs
import Derived.Test.YtmlpldkgennmkaaDoorG6
import Derived.Test.YtmlpldkgennmkaaDoorG8
namespace Go.Proofs.YtmlpldkgennmkaaDoor
set_option maxRecDepth 100000
open Go.RowKit
def hA : List UInt8 := [1, 0, 0, 0, 0, 0, 0, 0, 0, 0, 0, 0, 0, 0, 0, 0, 0, 0, 0, 0, 0, 0, 0, 0, 0, 0, 0, 0, 0, 0, 0, 0]
def hB : List UInt8 := [2, 0, 0, 0, 0, 0, 0, 0, 0, 0, 0, 0, 0, 0, 0, 0, 0, 0, 0, 0, 0, 0, 0, 0, 0, 0, 0, 0, 0, 0, 0, 0]
def hC : List UInt8 := [3, 0, 0, 0, 0, 0, 0, 0, 0, 0, 0, 0, 0, 0, 0, 0, 0, 0, 0, 0, 0, 0, 0, 0, 0, 0, 0, 0, 0, 0, 0, 0]
theorem hA_l : hA.length = 32 := rfl
theorem hB_l : hB.length = 32 := rfl
theorem hC_l : hC.length = 32 := rfl
theorem built_A : Tryd.prog.built 24 [(0, .int .u8 1)] = some (ocells hA) := by kernel_rfl
theorem built_B : Tryd.prog.built 24 [(0, .int .u8 2)] = some (ocells hB) := by kernel_rfl
theorem built_C : Tryd.prog.built 24 [(0, .int .u8 3)] = some (ocells hC) := by kernel_rfl
set_option maxRecDepth 1000000 in
theorem nd_BC : nd hB hC ≠ hA := by decide +kernel
theorem half2 : half 2 = 1 := half_of (m := 0) ⟨by decide, by decide⟩
theorem half3 : half 3 = 2 := half_of (m := 1) ⟨by decide, by decide⟩
theorem hdirs03 : hdirs 0 3 = [false, false] := by
  rw [hdirs_lt (by decide) (by rw [half3]; decide), half3, hdirs_lt (by decide) (by rw [half2]; decide), half2, hdirs_small (by decide)]; rfl
theorem hdirs23 : hdirs 2 3 = [true] := by
  rw [hdirs_ge (by decide) (by rw [half3]; decide), half3, hdirs_small (by decide)]; rfl
theorem hsdirs23 : hsdirs 2 3 = [false] := by
  rw [hsdirs_le (by decide) (by decide) (by rw [half3]; decide), half3, hsdirs_same (by decide)]; rfl
theorem v_root (A : Nat → Addr) : rootV A 0 3 hA [hB, hC] = .tuple #[.agg (ocells (nd (nd hA hB) hC)), .nilIface] := by
  unfold rootV; rw [if_neg (by decide), hdirs03, if_pos (show [hB, hC].length = [false, false].length from rfl)]; rfl
theorem v_incl (A : Nat → Addr) : inclV A 2 3 hC [hB] hA = errVal A 9 := by
  unfold inclV; rw [if_neg (by decide), hdirs23, if_pos (show [hB].length = [true].length from rfl), if_neg (show ¬ climb nd hC [true] [hB] = hA from nd_BC)]
theorem v_cons (A : Nat → Addr) : consV A 2 3 (nd hA hB) (nd (nd hA hB) hC) [hC] = .nilIface := by
  unfold consV; rw [if_neg (by decide), if_neg (by decide), hsdirs23, if_pos]
  simp [conOk, conS, climbO, climb, climb1]
theorem v_cons0 (A : Nat → Addr) (x y : List UInt8) (ps : List (List UInt8)) : consV A 0 3 x y ps = errVal A 4 := by
  unfold consV; rw [if_pos (by decide)]
theorem shows_mid {P : Program} {Q : Exit → Act → World → Prop} {V : Nat → Value → World → Prop} {o : Oper} {a : Act} {w : World} {d' : Nat} (hdst : o.dst = some d') (ty : TypeId) (x : Operand) (ho : o.op = .load ty x)
    (g q : Nat) (hx : a.eval x = .pointer (some ⟨g, q, none⟩)) (cs : List Value) {d : TypeDesc} (hg : w.rangeAt g q cs)
    (hu : P.underlying ty = some d) (hd : d.isRow = true) (hi : (P.info? ty).map (·.size) = some cs.length) (hv : V d' (.agg cs.toArray) w) : Shows P Q V o a w := by
  intro K hK
  exact wp_load_mid ty x ho g q hx cs d hg hu hd hi (hK _ _ (fun d'' h => by rw [hdst] at h; cases h; exact hv) (Below.refl _ _))
def VAl (A : Nat → Addr) (n : Nat) (v : Value) (w : World) : Prop :=
  match n with
  | 21 => v = .nilIface
  | 22 => v = .bool true
  | 23 => v = .bool true
  | 24 => v = .agg (ocells (nd (nd hA hB) hC))
  | 25 => v = .agg (ocells (nd hA hB))
  | 26 => v = .agg (ocells (hC))
  | 27 => v = .agg (ocells (nd (nd hA hB) hC))
  | 28 => v = .bool true
  | 29 => v = .bool true
  | 30 => v = .bool true
  | 31 => v = .agg (ocells (hC))
  | 32 => v = .agg (ocells (hB))
  | 33 => HssN w v [hB]
  | 34 => v = .agg (ocells (hA))
  | 35 => v = errVal A 9
  | 36 => v = .bool true
  | 37 => v = .bool true
  | 38 => v = .bool true
  | 39 => v = .agg (ocells (nd hA hB))
  | 40 => v = .agg (ocells (nd (nd hA hB) hC))
  | 41 => v = .agg (ocells (hC))
  | 42 => HssN w v [hC]
  | 43 => v = .nilIface
  | 44 => v = .bool true
  | 45 => v = .bool true
  | 46 => v = .bool true
  | 47 => v = .agg (ocells (nd hA hB))
  | 48 => v = .agg (ocells (nd (nd hA hB) hC))
  | 49 => v = errVal A 4
  | 50 => v = .bool true
  | 51 => v = .bool true
  | 0 => v = .bool true
  | _ => True
theorem VAl_mono (A : Nat → Addr) (n : Nat) (v : Value) (w w' : World) (h : VAl A n v w) (k : Below w.heap.size w w') : VAl A n v w' := by
  unfold VAl at h ⊢
  split at h
  · exact h
  · exact h
  · exact h
  · exact h
  · exact h
  · exact h
  · exact h
  · exact h
  · exact h
  · exact h
  · exact h
  · exact h
  · exact h.below k
  · exact h
  · exact h
  · exact h
  · exact h
  · exact h
  · exact h
  · exact h
  · exact h
  · exact h.below k
  · exact h
  · exact h
  · exact h
  · exact h
  · exact h
  · exact h
  · exact h
  · exact h
  · exact h
  · exact h
  · trivial

set_option maxHeartbeats 6400000 in
theorem alive_any (A : Nat → Addr) (w : World) (hT : Hs A w) : Calls Tryd.prog 16 #[] w fun e w' => e = .returned (.bool true) ∧ Below w.heap.size w w' := by
  have HH := Bx.mk hT
  have q1 := built_A
  have q2 := built_B
  have q3 := built_C
  clear hT
  go_enter Tryd.func16, Tryd.ntmps16
  go_upto_region 2 with (guard_target =~ wpList _ _ _ (⟨none, _, _, _, _, _⟩ :: _) _ _; refine wpList_store_row rfl 24 (.tmp 1) (.tmp 7) rfl w.heap.size (ocells hA) rfl rfl _ zeros32 (heap_alloc_new _ _) (hszL hA_l) (hsoL hA_l) (ocells_one _) ?_; rw [setRow_alloc_new _ _ _ _ _ rfl])
  have x1 := HashAt.new w (hA) hA_l
  have b1 := er_al (Below.refl w.heap.size w) (.cells (ocells (hA)) 24)
  generalize w.alloc (.cells (ocells (hA)) 24) = W1 at x1 b1 ⊢
  generalize w.heap.size = n1 at x1 ⊢
  have X1 := Bx.mk x1; have B1 := Bx.mk b1; clear x1 b1 q1
  go_upto_region 3 with (guard_target =~ wpList _ _ _ (⟨none, _, _, _, _, _⟩ :: _) _ _; refine wpList_store_row rfl 24 (.tmp 2) (.tmp 8) rfl W1.heap.size (ocells hB) rfl rfl _ zeros32 (heap_alloc_new _ _) (hszL hB_l) (hsoL hB_l) (ocells_one _) ?_; rw [setRow_alloc_new _ _ _ _ _ rfl])
  have x2 := HashAt.new W1 (hB) hB_l
  have b2 := er_al (Below.refl W1.heap.size W1) (.cells (ocells (hB)) 24)
  generalize W1.alloc (.cells (ocells (hB)) 24) = W2 at x2 b2 ⊢
  generalize W1.heap.size = n2 at x2 ⊢
  have Y1 := Bx.mk (X1.out.below b2); have X2 := Bx.mk x2; have B2 := Bx.mk (B1.out.trans (b2.mono B1.out.size)); clear x2 b2 q2 X1 B1
  go_upto_region 4 with (guard_target =~ wpList _ _ _ (⟨none, _, _, _, _, _⟩ :: _) _ _; refine wpList_store_row rfl 24 (.tmp 3) (.tmp 9) rfl W2.heap.size (ocells hC) rfl rfl _ zeros32 (heap_alloc_new _ _) (hszL hC_l) (hsoL hC_l) (ocells_one _) ?_; rw [setRow_alloc_new _ _ _ _ _ rfl])
  have x3 := HashAt.new W2 (hC) hC_l
  have b3 := er_al (Below.refl W2.heap.size W2) (.cells (ocells (hC)) 24)
  generalize W2.alloc (.cells (ocells (hC)) 24) = W3 at x3 b3 ⊢
  generalize W2.heap.size = n3 at x3 ⊢
  have X1 := Bx.mk (Y1.out.below b3); have Y2 := Bx.mk (X2.out.below b3); have X3 := Bx.mk x3; have B3 := Bx.mk (B2.out.trans (b3.mono B2.out.size)); clear x3 b3 q3 X2 B2 Y1
  go_wp2_with (first
    | (guard_target =~ wpList _ _ _ (⟨some 10, _, _, _, _, _⟩ :: _) _ _; refine wpList_load_row rfl 24 (.tmp 1) rfl n1 rfl _ _ _ _ X1.out.1 underH rfl (hszL hA_l) ?_)
    | (guard_target =~ wpList _ _ _ (⟨some 11, _, _, _, _, _⟩ :: _) _ _; refine wpList_load_row rfl 24 (.tmp 2) rfl n2 rfl _ _ _ _ Y2.out.1 underH rfl (hszL hB_l) ?_))
  have c4 := node_any W3 hA hB hA_l hB_l (HH.out.below B3.out).tab
  rw [hv_agg, hv_agg, hv_agg, show sha (1 :: (hA ++ hB)) = nd hA hB from rfl] at c4
  refine c4.mono ?_
  clear c4
  rintro e w4 ⟨rfl, hb⟩
  have Y1 := Bx.mk (X1.out.below hb); have X2 := Bx.mk (Y2.out.below hb); have Y3 := Bx.mk (X3.out.below hb); have B4 := Bx.mk (B3.out.trans (hb.mono B3.out.size)); clear hb X1 Y2 X3 B3
  go_upto_region 5 with (guard_target =~ wpList _ _ _ (⟨none, _, _, _, _, _⟩ :: _) _ _; refine wpList_store_row rfl 24 (.tmp 4) (.tmp 12) rfl w4.heap.size (ocells (nd hA hB)) rfl rfl _ zeros32 (heap_alloc_new _ _) (hszL (nd_length _ _)) (hsoL (nd_length _ _)) (ocells_one _) ?_; rw [setRow_alloc_new _ _ _ _ _ rfl])
  have x4 := HashAt.new w4 (nd hA hB) (nd_length _ _)
  have b4 := er_al (Below.refl w4.heap.size w4) (.cells (ocells (nd hA hB)) 24)
  generalize w4.alloc (.cells (ocells (nd hA hB)) 24) = W4 at x4 b4 ⊢
  generalize w4.heap.size = n4 at x4 ⊢
  have X1 := Bx.mk (Y1.out.below b4); have Y2 := Bx.mk (X2.out.below b4); have X3 := Bx.mk (Y3.out.below b4); have X4 := Bx.mk x4; have B5 := Bx.mk (B4.out.trans (b4.mono B4.out.size)); clear x4 b4 Y1 X2 Y3 B4
  go_wp2_with (first
    | (guard_target =~ wpList _ _ _ (⟨some 14, _, _, _, _, _⟩ :: _) _ _; refine wpList_load_row rfl 24 (.tmp 1) rfl n1 rfl _ _ _ _ X1.out.1 underH rfl (hszL hA_l) ?_)
    | (guard_target =~ wpList _ _ _ (⟨some 15, _, _, _, _, _⟩ :: _) _ _; refine wpList_load_row rfl 24 (.tmp 2) rfl n2 rfl _ _ _ _ Y2.out.1 underH rfl (hszL hB_l) ?_)
    | (guard_target =~ wpList _ _ _ (⟨some 16, _, _, _, _, _⟩ :: _) _ _; refine wpList_load_row rfl 24 (.tmp 3) rfl n3 rfl _ _ _ _ X3.out.1 underH rfl (hszL hC_l) ?_)
    | (guard_target =~ wpList _ _ _ (⟨some 17, _, _, _, _, _⟩ :: _) _ _; refine wpList_bs_two rfl (.tmp 15) (.tmp 16) rfl hB hC hB_l hC_l rfl rfl ?_))
  have hs := hssN_two W4 hB hC hB_l hC_l
  have b5 := er_al (Below.refl W4.heap.size W4) (.cells (ocells hB ++ ocells hC) 24)
  generalize W4.alloc (.cells (ocells hB ++ ocells hC) 24) = W5 at hs b5 ⊢
  obtain ⟨Bs, e5, hs⟩ := hs
  obtain rfl : Bs = W4.heap.size := by cases e5; rfl
  have Y1 := Bx.mk (X1.out.below b5); have X2 := Bx.mk (Y2.out.below b5); have Y3 := Bx.mk (X3.out.below b5); have Y4 := Bx.mk (X4.out.below b5); have B6 := Bx.mk (B5.out.trans (b5.mono B5.out.size)); clear b5 X1 Y2 X3 X4 B5 e5
  have c5 := root_any A W5 0 3 (by decide) (by decide) hA hA_l _ _ _ [hB, hC] hs (HH.out.below B6.out)
  rw [hv_agg, v_root] at c5
  refine c5.mono ?_
  clear c5 hs
  rintro e w6 ⟨rfl, hb⟩
  have X1 := Bx.mk (Y1.out.below hb); have Y2 := Bx.mk (X2.out.below hb); have X3 := Bx.mk (Y3.out.below hb); have X4 := Bx.mk (Y4.out.below hb); have B7 := Bx.mk (B6.out.trans (hb.mono B6.out.size)); clear hb Y1 X2 Y3 Y4 B6
  generalize W4.heap.size = nbs
  go_upto_region 6 with (guard_target =~ wpList _ _ _ (⟨none, _, _, _, _, _⟩ :: _) _ _; refine wpList_store_row rfl 24 (.tmp 5) (.tmp 19) rfl w6.heap.size (ocells (nd (nd hA hB) hC)) rfl rfl _ zeros32 (heap_alloc_new _ _) (hszL (nd_length _ _)) (hsoL (nd_length _ _)) (ocells_one _) ?_; rw [setRow_alloc_new _ _ _ _ _ rfl])
  have x5 := HashAt.new w6 (nd (nd hA hB) hC) (nd_length _ _)
  have b5 := er_al (Below.refl w6.heap.size w6) (.cells (ocells (nd (nd hA hB) hC)) 24)
  generalize w6.alloc (.cells (ocells (nd (nd hA hB) hC)) 24) = W7 at x5 b5 ⊢
  generalize w6.heap.size = n5 at x5 ⊢
  have Y1 := Bx.mk (X1.out.below b5); have X2 := Bx.mk (Y2.out.below b5); have Y3 := Bx.mk (X3.out.below b5); have Y4 := Bx.mk (X4.out.below b5); have X5 := Bx.mk x5; have B6 := Bx.mk (B7.out.trans (b5.mono B7.out.size)); clear b5 X1 Y2 X3 X4 x5
  have X1 := Y1; have X3 := Y3; have X4 := Y4
  clear Y1 Y3 Y4 B7
  refine wp_region_inv (n := 52) (VAl A) (by kernel_rfl) (by kernel_rfl) rfl (VAl_mono A) ?_ ?_
  · intro i o hi f u hsame hbel hdep
    have hu := HH.out.below (B6.out.trans (hbel.mono B6.out.size))
    match i, hi with
    | 0, hi =>
      cases (show some _ = some o from hi)
      have e6 : f.tmps.getD 6 undef = .nilIface := hsame.slot 6 (fun i o h => invB_not (n := 52) (by kernel_rfl) 6 (by kernel_rfl) h)
      clear hdep hsame hi
      exact ⟨wanted_none rfl, shows_move rfl _ rfl e6⟩
    | 1, hi =>
      cases (show some _ = some o from hi)
      have e21 : f.tmps.getD 21 undef = .nilIface := dep_of (V := (VAl A)) hdep 0 21 (by kernel_rfl) (by kernel_rfl)
      clear hdep hsame hi
      exact ⟨wanted_none rfl, shows_run rfl (.bool true) (by simp only [execOp, Act.eval]; go_simp) (Below.refl _ _) rfl⟩
    | 2, hi =>
      cases (show some _ = some o from hi)
      have e22 : f.tmps.getD 22 undef = .bool true := dep_of (V := (VAl A)) hdep 1 22 (by kernel_rfl) (by kernel_rfl)
      clear hdep hsame hi
      exact ⟨wanted_none rfl, shows_move rfl _ rfl e22⟩
    | 3, hi =>
      cases (show some _ = some o from hi)
      have e5 : f.tmps.getD 5 undef = .pointer (some ⟨n5, 0, none⟩) := hsame.slot 5 (fun i o h => invB_not (n := 52) (by kernel_rfl) 5 (by kernel_rfl) h)
      have eg : f.tmps.getD 23 undef = .bool true := dep_of (V := (VAl A)) hdep 2 23 (by kernel_rfl) (by kernel_rfl)
      clear hdep hsame hi
      exact ⟨wanted_of 2 rfl eg (by kernel_rfl), shows_row rfl 24 (.tmp 5) rfl n5 e5 (ocells (nd (nd hA hB) hC)) (X5.out.below hbel).1 underH rfl (hszL (nd_length _ _)) rfl⟩
    | 4, hi =>
      cases (show some _ = some o from hi)
      have e4 : f.tmps.getD 4 undef = .pointer (some ⟨n4, 0, none⟩) := hsame.slot 4 (fun i o h => invB_not (n := 52) (by kernel_rfl) 4 (by kernel_rfl) h)
      have eg : f.tmps.getD 23 undef = .bool true := dep_of (V := (VAl A)) hdep 2 23 (by kernel_rfl) (by kernel_rfl)
      clear hdep hsame hi
      exact ⟨wanted_of 2 rfl eg (by kernel_rfl), shows_row rfl 24 (.tmp 4) rfl n4 e4 (ocells (nd hA hB)) (X4.out.below hbel).1 underH rfl (hszL (nd_length _ _)) rfl⟩
    | 5, hi =>
      cases (show some _ = some o from hi)
      have e3 : f.tmps.getD 3 undef = .pointer (some ⟨n3, 0, none⟩) := hsame.slot 3 (fun i o h => invB_not (n := 52) (by kernel_rfl) 3 (by kernel_rfl) h)
      have eg : f.tmps.getD 23 undef = .bool true := dep_of (V := (VAl A)) hdep 2 23 (by kernel_rfl) (by kernel_rfl)
      clear hdep hsame hi
      exact ⟨wanted_of 2 rfl eg (by kernel_rfl), shows_row rfl 24 (.tmp 3) rfl n3 e3 (ocells (hC)) (X3.out.below hbel).1 underH rfl (hszL hC_l) rfl⟩
    | 6, hi =>
      cases (show some _ = some o from hi)
      have e25 : f.tmps.getD 25 undef = .agg (ocells (nd hA hB)) := dep_of (V := (VAl A)) hdep 4 25 (by kernel_rfl) (by kernel_rfl)
      have e26 : f.tmps.getD 26 undef = .agg (ocells (hC)) := dep_of (V := (VAl A)) hdep 5 26 (by kernel_rfl) (by kernel_rfl)
      have eg : f.tmps.getD 23 undef = .bool true := dep_of (V := (VAl A)) hdep 2 23 (by kernel_rfl) (by kernel_rfl)
      clear hdep hsame hi
      have c := node_any u (nd hA hB) hC (nd_length _ _) hC_l hu.tab
      rw [hv_agg, hv_agg, hv_agg] at c
      exact ⟨wanted_of 2 rfl eg (by kernel_rfl), shows_call rfl 21 #[.agg (ocells (nd hA hB)), .agg (ocells (hC))] (by simp only [execOp, Act.eval]; go_simp) (c) (fun _ => rfl)⟩
    | 7, hi =>
      cases (show some _ = some o from hi)
      have e24 : f.tmps.getD 24 undef = .agg (ocells (nd (nd hA hB) hC)) := dep_of (V := (VAl A)) hdep 3 24 (by kernel_rfl) (by kernel_rfl)
      have e27 : f.tmps.getD 27 undef = .agg (ocells (nd (nd hA hB) hC)) := dep_of (V := (VAl A)) hdep 6 27 (by kernel_rfl) (by kernel_rfl)
      have eg : f.tmps.getD 23 undef = .bool true := dep_of (V := (VAl A)) hdep 2 23 (by kernel_rfl) (by kernel_rfl)
      clear hdep hsame hi
      have q := fun u => hv_eq u (nd (nd hA hB) hC) (nd (nd hA hB) hC) (nd_length _ _) (nd_length _ _)
      simp only [beq_self_eq_true, hv_agg] at q
      exact ⟨wanted_of 2 rfl eg (by kernel_rfl), shows_run rfl (.bool true) (by simp only [execOp, Act.eval]; go_simp) (Below.refl _ _) rfl⟩
    | 8, hi =>
      cases (show some _ = some o from hi)
      have e23 : f.tmps.getD 23 undef = .bool true := dep_of (V := (VAl A)) hdep 2 23 (by kernel_rfl) (by kernel_rfl)
      have e28 : f.tmps.getD 28 undef = .bool true := dep_of (V := (VAl A)) hdep 7 28 (by kernel_rfl) (by kernel_rfl)
      clear hdep hsame hi
      exact ⟨wanted_none rfl, shows_run rfl (.bool true) (by simp only [execOp, Act.eval]; go_simp) (Below.refl _ _) rfl⟩
    | 9, hi =>
      cases (show some _ = some o from hi)
      have e29 : f.tmps.getD 29 undef = .bool true := dep_of (V := (VAl A)) hdep 8 29 (by kernel_rfl) (by kernel_rfl)
      clear hdep hsame hi
      exact ⟨wanted_none rfl, shows_move rfl _ rfl e29⟩
    | 10, hi =>
      cases (show some _ = some o from hi)
      have e3 : f.tmps.getD 3 undef = .pointer (some ⟨n3, 0, none⟩) := hsame.slot 3 (fun i o h => invB_not (n := 52) (by kernel_rfl) 3 (by kernel_rfl) h)
      have eg : f.tmps.getD 30 undef = .bool true := dep_of (V := (VAl A)) hdep 9 30 (by kernel_rfl) (by kernel_rfl)
      clear hdep hsame hi
      exact ⟨wanted_of 9 rfl eg (by kernel_rfl), shows_row rfl 24 (.tmp 3) rfl n3 e3 (ocells (hC)) (X3.out.below hbel).1 underH rfl (hszL hC_l) rfl⟩
    | 11, hi =>
      cases (show some _ = some o from hi)
      have e2 : f.tmps.getD 2 undef = .pointer (some ⟨n2, 0, none⟩) := hsame.slot 2 (fun i o h => invB_not (n := 52) (by kernel_rfl) 2 (by kernel_rfl) h)
      have eg : f.tmps.getD 30 undef = .bool true := dep_of (V := (VAl A)) hdep 9 30 (by kernel_rfl) (by kernel_rfl)
      clear hdep hsame hi
      exact ⟨wanted_of 9 rfl eg (by kernel_rfl), shows_row rfl 24 (.tmp 2) rfl n2 e2 (ocells (hB)) (X2.out.below hbel).1 underH rfl (hszL hB_l) rfl⟩
    | 12, hi =>
      cases (show some _ = some o from hi)
      have e32 : f.tmps.getD 32 undef = .agg (ocells (hB)) := dep_of (V := (VAl A)) hdep 11 32 (by kernel_rfl) (by kernel_rfl)
      have eg : f.tmps.getD 30 undef = .bool true := dep_of (V := (VAl A)) hdep 9 30 (by kernel_rfl) (by kernel_rfl)
      clear hdep hsame hi
      exact ⟨wanted_of 9 rfl eg (by kernel_rfl), shows_run rfl (.slice (some ⟨u.heap.size, 0, none⟩) 1 1) (w' := u.alloc (.cells (ocells hB) 24)) (run_bs_one u (.tmp 32) rfl hB hB_l e32) (er_al (Below.refl _ _) _) (hssN_one u hB hB_l)⟩
    | 13, hi =>
      cases (show some _ = some o from hi)
      have e1 : f.tmps.getD 1 undef = .pointer (some ⟨n1, 0, none⟩) := hsame.slot 1 (fun i o h => invB_not (n := 52) (by kernel_rfl) 1 (by kernel_rfl) h)
      have eg : f.tmps.getD 30 undef = .bool true := dep_of (V := (VAl A)) hdep 9 30 (by kernel_rfl) (by kernel_rfl)
      clear hdep hsame hi
      exact ⟨wanted_of 9 rfl eg (by kernel_rfl), shows_row rfl 24 (.tmp 1) rfl n1 e1 (ocells (hA)) (X1.out.below hbel).1 underH rfl (hszL hA_l) rfl⟩
    | 14, hi =>
      cases (show some _ = some o from hi)
      have e31 : f.tmps.getD 31 undef = .agg (ocells (hC)) := dep_of (V := (VAl A)) hdep 10 31 (by kernel_rfl) (by kernel_rfl)
      have e33 : HssN u (f.tmps.getD 33 undef) [hB] := dep_of (V := (VAl A)) hdep 12 33 (by kernel_rfl) (by kernel_rfl)
      have e34 : f.tmps.getD 34 undef = .agg (ocells (hA)) := dep_of (V := (VAl A)) hdep 13 34 (by kernel_rfl) (by kernel_rfl)
      have eg : f.tmps.getD 30 undef = .bool true := dep_of (V := (VAl A)) hdep 9 30 (by kernel_rfl) (by kernel_rfl)
      clear hdep hsame hi
      obtain ⟨B, e33, hs⟩ := e33
      have c := incl_any A u 2 3 (by decide) (by decide) hC hC_l _ _ _ [hB] hs hA hA_l hu
      rw [hv_agg, hv_agg, v_incl] at c
      exact ⟨wanted_of 9 rfl eg (by kernel_rfl), shows_call rfl 14 #[.int .u64 2, .int .u64 3, .agg (ocells (hC)), .slice (some ⟨B, 0, none⟩) 1 1, .agg (ocells (hA))] (by simp only [execOp, Act.eval]; go_simp) (c) (fun _ => rfl)⟩
    | 15, hi =>
      cases (show some _ = some o from hi)
      have e35 : f.tmps.getD 35 undef = errVal A 9 := dep_of (V := (VAl A)) hdep 14 35 (by kernel_rfl) (by kernel_rfl)
      have eg : f.tmps.getD 30 undef = .bool true := dep_of (V := (VAl A)) hdep 9 30 (by kernel_rfl) (by kernel_rfl)
      clear hdep hsame hi
      have c := isE_any hu.err (ErrV.plain 9 (by decide)) 10
      exact ⟨wanted_of 9 rfl eg (by kernel_rfl), shows_call rfl 27 #[errVal A 9, .int .i64 10] (by simp only [execOp, Act.eval]; go_simp) (c) (fun _ => rfl)⟩
    | 16, hi =>
      cases (show some _ = some o from hi)
      have e30 : f.tmps.getD 30 undef = .bool true := dep_of (V := (VAl A)) hdep 9 30 (by kernel_rfl) (by kernel_rfl)
      have e36 : f.tmps.getD 36 undef = .bool true := dep_of (V := (VAl A)) hdep 15 36 (by kernel_rfl) (by kernel_rfl)
      clear hdep hsame hi
      exact ⟨wanted_none rfl, shows_run rfl (.bool true) (by simp only [execOp, Act.eval]; go_simp) (Below.refl _ _) rfl⟩
    | 17, hi =>
      cases (show some _ = some o from hi)
      have e37 : f.tmps.getD 37 undef = .bool true := dep_of (V := (VAl A)) hdep 16 37 (by kernel_rfl) (by kernel_rfl)
      clear hdep hsame hi
      exact ⟨wanted_none rfl, shows_move rfl _ rfl e37⟩
    | 18, hi =>
      cases (show some _ = some o from hi)
      have e4 : f.tmps.getD 4 undef = .pointer (some ⟨n4, 0, none⟩) := hsame.slot 4 (fun i o h => invB_not (n := 52) (by kernel_rfl) 4 (by kernel_rfl) h)
      have eg : f.tmps.getD 38 undef = .bool true := dep_of (V := (VAl A)) hdep 17 38 (by kernel_rfl) (by kernel_rfl)
      clear hdep hsame hi
      exact ⟨wanted_of 17 rfl eg (by kernel_rfl), shows_row rfl 24 (.tmp 4) rfl n4 e4 (ocells (nd hA hB)) (X4.out.below hbel).1 underH rfl (hszL (nd_length _ _)) rfl⟩
    | 19, hi =>
      cases (show some _ = some o from hi)
      have e5 : f.tmps.getD 5 undef = .pointer (some ⟨n5, 0, none⟩) := hsame.slot 5 (fun i o h => invB_not (n := 52) (by kernel_rfl) 5 (by kernel_rfl) h)
      have eg : f.tmps.getD 38 undef = .bool true := dep_of (V := (VAl A)) hdep 17 38 (by kernel_rfl) (by kernel_rfl)
      clear hdep hsame hi
      exact ⟨wanted_of 17 rfl eg (by kernel_rfl), shows_row rfl 24 (.tmp 5) rfl n5 e5 (ocells (nd (nd hA hB) hC)) (X5.out.below hbel).1 underH rfl (hszL (nd_length _ _)) rfl⟩
    | 20, hi =>
      cases (show some _ = some o from hi)
      have e3 : f.tmps.getD 3 undef = .pointer (some ⟨n3, 0, none⟩) := hsame.slot 3 (fun i o h => invB_not (n := 52) (by kernel_rfl) 3 (by kernel_rfl) h)
      have eg : f.tmps.getD 38 undef = .bool true := dep_of (V := (VAl A)) hdep 17 38 (by kernel_rfl) (by kernel_rfl)
      clear hdep hsame hi
      exact ⟨wanted_of 17 rfl eg (by kernel_rfl), shows_row rfl 24 (.tmp 3) rfl n3 e3 (ocells (hC)) (X3.out.below hbel).1 underH rfl (hszL hC_l) rfl⟩
    | 21, hi =>
      cases (show some _ = some o from hi)
      have e41 : f.tmps.getD 41 undef = .agg (ocells (hC)) := dep_of (V := (VAl A)) hdep 20 41 (by kernel_rfl) (by kernel_rfl)
      have eg : f.tmps.getD 38 undef = .bool true := dep_of (V := (VAl A)) hdep 17 38 (by kernel_rfl) (by kernel_rfl)
      clear hdep hsame hi
      exact ⟨wanted_of 17 rfl eg (by kernel_rfl), shows_run rfl (.slice (some ⟨u.heap.size, 0, none⟩) 1 1) (w' := u.alloc (.cells (ocells hC) 24)) (run_bs_one u (.tmp 41) rfl hC hC_l e41) (er_al (Below.refl _ _) _) (hssN_one u hC hC_l)⟩
    | 22, hi =>
      cases (show some _ = some o from hi)
      have e39 : f.tmps.getD 39 undef = .agg (ocells (nd hA hB)) := dep_of (V := (VAl A)) hdep 18 39 (by kernel_rfl) (by kernel_rfl)
      have e40 : f.tmps.getD 40 undef = .agg (ocells (nd (nd hA hB) hC)) := dep_of (V := (VAl A)) hdep 19 40 (by kernel_rfl) (by kernel_rfl)
      have e42 : HssN u (f.tmps.getD 42 undef) [hC] := dep_of (V := (VAl A)) hdep 21 42 (by kernel_rfl) (by kernel_rfl)
      have eg : f.tmps.getD 38 undef = .bool true := dep_of (V := (VAl A)) hdep 17 38 (by kernel_rfl) (by kernel_rfl)
      clear hdep hsame hi
      obtain ⟨B, e42, hs⟩ := e42
      have c := cons_any A u 2 3 (by decide) (by decide) (nd hA hB) (nd (nd hA hB) hC) (nd_length _ _) (nd_length _ _) _ _ _ [hC] hs hu
      rw [hv_agg, hv_agg, v_cons] at c
      exact ⟨wanted_of 17 rfl eg (by kernel_rfl), shows_call rfl 17 #[.int .u64 2, .int .u64 3, .agg (ocells (nd hA hB)), .agg (ocells (nd (nd hA hB) hC)), .slice (some ⟨B, 0, none⟩) 1 1] (by simp only [execOp, Act.eval]; go_simp) (c) (fun _ => rfl)⟩
    | 23, hi =>
      cases (show some _ = some o from hi)
      have e43 : f.tmps.getD 43 undef = .nilIface := dep_of (V := (VAl A)) hdep 22 43 (by kernel_rfl) (by kernel_rfl)
      have eg : f.tmps.getD 38 undef = .bool true := dep_of (V := (VAl A)) hdep 17 38 (by kernel_rfl) (by kernel_rfl)
      clear hdep hsame hi
      exact ⟨wanted_of 17 rfl eg (by kernel_rfl), shows_run rfl (.bool true) (by simp only [execOp, Act.eval]; go_simp) (Below.refl _ _) rfl⟩
    | 24, hi =>
      cases (show some _ = some o from hi)
      have e38 : f.tmps.getD 38 undef = .bool true := dep_of (V := (VAl A)) hdep 17 38 (by kernel_rfl) (by kernel_rfl)
      have e44 : f.tmps.getD 44 undef = .bool true := dep_of (V := (VAl A)) hdep 23 44 (by kernel_rfl) (by kernel_rfl)
      clear hdep hsame hi
      exact ⟨wanted_none rfl, shows_run rfl (.bool true) (by simp only [execOp, Act.eval]; go_simp) (Below.refl _ _) rfl⟩
    | 25, hi =>
      cases (show some _ = some o from hi)
      have e45 : f.tmps.getD 45 undef = .bool true := dep_of (V := (VAl A)) hdep 24 45 (by kernel_rfl) (by kernel_rfl)
      clear hdep hsame hi
      exact ⟨wanted_none rfl, shows_move rfl _ rfl e45⟩
    | 26, hi =>
      cases (show some _ = some o from hi)
      have e4 : f.tmps.getD 4 undef = .pointer (some ⟨n4, 0, none⟩) := hsame.slot 4 (fun i o h => invB_not (n := 52) (by kernel_rfl) 4 (by kernel_rfl) h)
      have eg : f.tmps.getD 46 undef = .bool true := dep_of (V := (VAl A)) hdep 25 46 (by kernel_rfl) (by kernel_rfl)
      clear hdep hsame hi
      exact ⟨wanted_of 25 rfl eg (by kernel_rfl), shows_row rfl 24 (.tmp 4) rfl n4 e4 (ocells (nd hA hB)) (X4.out.below hbel).1 underH rfl (hszL (nd_length _ _)) rfl⟩
    | 27, hi =>
      cases (show some _ = some o from hi)
      have e5 : f.tmps.getD 5 undef = .pointer (some ⟨n5, 0, none⟩) := hsame.slot 5 (fun i o h => invB_not (n := 52) (by kernel_rfl) 5 (by kernel_rfl) h)
      have eg : f.tmps.getD 46 undef = .bool true := dep_of (V := (VAl A)) hdep 25 46 (by kernel_rfl) (by kernel_rfl)
      clear hdep hsame hi
      exact ⟨wanted_of 25 rfl eg (by kernel_rfl), shows_row rfl 24 (.tmp 5) rfl n5 e5 (ocells (nd (nd hA hB) hC)) (X5.out.below hbel).1 underH rfl (hszL (nd_length _ _)) rfl⟩
    | 28, hi =>
      cases (show some _ = some o from hi)
      have e47 : f.tmps.getD 47 undef = .agg (ocells (nd hA hB)) := dep_of (V := (VAl A)) hdep 26 47 (by kernel_rfl) (by kernel_rfl)
      have e48 : f.tmps.getD 48 undef = .agg (ocells (nd (nd hA hB) hC)) := dep_of (V := (VAl A)) hdep 27 48 (by kernel_rfl) (by kernel_rfl)
      have eg : f.tmps.getD 46 undef = .bool true := dep_of (V := (VAl A)) hdep 25 46 (by kernel_rfl) (by kernel_rfl)
      clear hdep hsame hi
      have c := cons_any A u 0 3 (by decide) (by decide) (nd hA hB) (nd (nd hA hB) hC) (nd_length _ _) (nd_length _ _) _ _ _ [] (hss_nil u) hu
      rw [hv_agg, hv_agg, v_cons0] at c
      exact ⟨wanted_of 25 rfl eg (by kernel_rfl), shows_call rfl 17 #[.int .u64 0, .int .u64 3, .agg (ocells (nd hA hB)), .agg (ocells (nd (nd hA hB) hC)), .slice none 0 0] (by simp only [execOp, Act.eval]; go_simp) (c) (fun _ => rfl)⟩
    | 29, hi =>
      cases (show some _ = some o from hi)
      have e49 : f.tmps.getD 49 undef = errVal A 4 := dep_of (V := (VAl A)) hdep 28 49 (by kernel_rfl) (by kernel_rfl)
      have eg : f.tmps.getD 46 undef = .bool true := dep_of (V := (VAl A)) hdep 25 46 (by kernel_rfl) (by kernel_rfl)
      clear hdep hsame hi
      have c := isE_any hu.err (ErrV.plain 4 (by decide)) 5
      exact ⟨wanted_of 25 rfl eg (by kernel_rfl), shows_call rfl 27 #[errVal A 4, .int .i64 5] (by simp only [execOp, Act.eval]; go_simp) (c) (fun _ => rfl)⟩
    | 30, hi =>
      cases (show some _ = some o from hi)
      have e46 : f.tmps.getD 46 undef = .bool true := dep_of (V := (VAl A)) hdep 25 46 (by kernel_rfl) (by kernel_rfl)
      have e50 : f.tmps.getD 50 undef = .bool true := dep_of (V := (VAl A)) hdep 29 50 (by kernel_rfl) (by kernel_rfl)
      clear hdep hsame hi
      exact ⟨wanted_none rfl, shows_run rfl (.bool true) (by simp only [execOp, Act.eval]; go_simp) (Below.refl _ _) rfl⟩
    | 31, hi =>
      cases (show some _ = some o from hi)
      have e51 : f.tmps.getD 51 undef = .bool true := dep_of (V := (VAl A)) hdep 30 51 (by kernel_rfl) (by kernel_rfl)
      clear hdep hsame hi
      exact ⟨wanted_none rfl, shows_assign rfl _ rfl e51⟩
    | n + 32, hi => exact absurd hi (by simp)
  · intro f u hsame hbel hall
    have e0 : f.tmps.getD 0 undef = .bool true := hall 31 _ 0 rfl rfl
    have hd : f.defers = [] := hsame.defers
    refine ‹∀ (a : Act) (w : World), Code.wp _ Code.ret _ a w → _› f u ?_
    exact wp_ret (bodyPost_ret (results_tmp rfl _ _ _) hd ⟨by rw [e0], B6.out.trans (hbel.mono B6.out.size)⟩)
end Go.Proofs.YtmlpldkgennmkaaDoor
