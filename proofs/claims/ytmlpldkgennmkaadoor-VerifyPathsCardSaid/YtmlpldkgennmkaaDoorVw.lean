/- cartularylaw18.VerifyPaths walked. -/
import Derived.Test.YtmlpldkgennmkaaDoorVu
namespace Go.Proofs.YtmlpldkgennmkaaDoor
set_option maxRecDepth 100000
open Go.RowKit
def VP8 (A : Nat → Addr) (i s : Nat) (leaf root _X : List UInt8) (_ev : Value) (_fc _fa : Int) (n1 : Nat) (ad : Option Addr) (n cap B m : Nat) (ps : List (List UInt8)) (sl : Nat) (v : Value) (_w : World) : Prop :=
  match sl with
  | 55 => v = .pointer (some ⟨n1, 0, none⟩)
  | 56 => v = .int .u64 (i : Int)
  | 57 => v = .pointer (some ⟨n1, 1, none⟩)
  | 58 => v = .int .u64 (s : Int)
  | 59 => v = .pointer (some ⟨n1, 2, none⟩)
  | 60 => v = .agg (ocells leaf)
  | 61 => v = .slice (some ⟨B, 0, none⟩) m (m + 1)
  | 62 => v = .pointer (some ⟨n1, 34, none⟩)
  | 63 => v = .agg (ocells root)
  | 64 => v = inclV A i s leaf ps root
  | 65 => v = .pointer (some ⟨n1, 0, none⟩)
  | 66 => v = .int .u64 (i : Int)
  | 67 => v = .pointer (some ⟨n1, 1, none⟩)
  | 68 => v = .int .u64 (s : Int)
  | 69 => v = .pointer (some ⟨n1, 2, none⟩)
  | 70 => v = .agg (ocells leaf)
  | 71 => v = .pointer (some ⟨n1, 66, none⟩)
  | 72 => v = .slice ad n cap
  | 73 => v = .pointer (some ⟨n1, 34, none⟩)
  | 74 => v = .agg (ocells root)
  | 75 => v = rinclV i s leaf ps root
  | 76 => v = .bool true
  | 77 => v = .bool false
  | _ => True
theorem VP8_mono (A : Nat → Addr) (i s : Nat) (leaf root X : List UInt8) (ev : Value) (fc fa : Int) (n1 : Nat) (ad : Option Addr) (n cap B m : Nat) (ps : List (List UInt8)) (sl : Nat) (v : Value) (w w' : World) (h : VP8 A i s leaf root X ev fc fa n1 ad n cap B m ps sl v w) (_k : Below w.heap.size w w') : VP8 A i s leaf root X ev fc fa n1 ad n cap B m ps sl v w' := by
  unfold VP8 at h ⊢
  split at h
  · exact h
  · exact h
  · exact h
  · exact h
  · exact h
  · exact h
  · exact h
  · exact h
  · exact h
  · exact h
  · exact h
  · exact h
  · exact h
  · exact h
  · exact h
  · exact h
  · exact h
  · exact h
  · exact h
  · exact h
  · exact h
  · exact h
  · exact h
  · trivial

def VP10 (A : Nat → Addr) (i s : Nat) (leaf _root X : List UInt8) (_ev : Value) (fc fa : Int) (n1 : Nat) (ad : Option Addr) (n cap B m : Nat) (ps : List (List UInt8)) (sl : Nat) (v : Value) (_w : World) : Prop :=
  match sl with
  | 78 => v = .pointer (some ⟨n1, 0, none⟩)
  | 79 => v = .int .u64 (i : Int)
  | 80 => v = .pointer (some ⟨n1, 1, none⟩)
  | 81 => v = .int .u64 (s : Int)
  | 82 => v = .pointer (some ⟨n1, 2, none⟩)
  | 83 => v = .agg (ocells leaf)
  | 84 => v = .slice (some ⟨B, 0, none⟩) m (m + 1)
  | 85 => v = .agg (ocells X)
  | 86 => v = inclV A i s leaf ps X
  | 87 => v = .agg #[.int .i64 fc, .int .i64 fa]
  | 88 => v = .bool true
  | 89 => v = .bool true
  | 90 => v = .slice (some ⟨B, 0, none⟩) m (m + 1)
  | 91 => v = .pointer (some ⟨n1, 66, none⟩)
  | 92 => v = .slice ad n cap
  | 93 => v = .bool true
  | 94 => v = .bool true
  | 95 => v = .bool true
  | 96 => v = .bool true
  | 97 => v = .bool true
  | 2 => v = .bool true
  | _ => True
theorem VP10_mono (A : Nat → Addr) (i s : Nat) (leaf root X : List UInt8) (ev : Value) (fc fa : Int) (n1 : Nat) (ad : Option Addr) (n cap B m : Nat) (ps : List (List UInt8)) (sl : Nat) (v : Value) (w w' : World) (h : VP10 A i s leaf root X ev fc fa n1 ad n cap B m ps sl v w) (_k : Below w.heap.size w w') : VP10 A i s leaf root X ev fc fa n1 ad n cap B m ps sl v w' := by
  unfold VP10 at h ⊢
  split at h
  · exact h
  · exact h
  · exact h
  · exact h
  · exact h
  · exact h
  · exact h
  · exact h
  · exact h
  · exact h
  · exact h
  · exact h
  · exact h
  · exact h
  · exact h
  · exact h
  · exact h
  · exact h
  · exact h
  · exact h
  · exact h
  · trivial

set_option maxHeartbeats 6400000 in
theorem paths_any (A : Nat → Addr) (w : World) (i s : Nat) (hi : i < 18446744073709551616) (hs64 : s < 18446744073709551616) (leaf root : List UInt8) (hl : leaf.length = 32) (hr : root.length = 32) (ad : Option Addr) (n cap : Nat) (ps : List (List UInt8)) (hH : Hss w (.slice ad n cap) ps) (hT : Hs A w) :
    Calls Tryd.prog 3 #[.agg (pcells i s leaf root (.slice ad n cap))] w fun e w' => e = .returned (.bool true) ∧ Below w.heap.size w w' := by
  have pa := PathAt.new w i s (.slice ad n cap) hl hr
  have kb := er_al (Below.refl w.heap.size w) (.cells (pcells i s leaf root (.slice ad n cap)) 27)
  obtain ⟨_, c', e1, hc1, hc2⟩ := hH.len
  have hcc : cap = c' := by cases e1; rfl
  subst hcc
  have hn : n = ps.length := by cases e1; rfl
  have LL := Bx.mk hl; have RL := Bx.mk hr; have HH := Bx.mk hT; have HHS := Bx.mk hH; have I64 := Bx.mk hi; have S64 := Bx.mk hs64; have HN := Bx.mk hn
  have WAYS := Bx.mk (path_ways A i s leaf hl ps)
  have hn1 : n ≤ cap := by omega
  clear hl hr hT hH hi hs64 e1 hn hc1
  generalize hpc : pcells i s leaf root (.slice ad n cap) = pc at pa kb ⊢
  have HPC := Bx.mk hpc; clear hpc
  go_enter Tryd.func3, Tryd.ntmps3
  go_upto_region 1 with (fail)
  change Code.wp _ _ _ _ (w.alloc (.cells pc 27))
  generalize w.alloc (.cells pc 27) = W at pa kb ⊢
  obtain ⟨n1, hn1'⟩ : ∃ n1, n1 = w.heap.size := ⟨_, rfl⟩
  rw [← hn1'] at pa ⊢
  have hcl := pa.cellL
  have hbe := beyond_any (W.alloc (.cells #[.int .i64 (n : Int)] 3)) (.slice (some ⟨W.heap.size, 0, none⟩) 1 1) [n] (ints_one _ _ _ rfl) (by simp; omega)
  have kb2 := er_al (Below.refl W.heap.size W) (.cells #[.int .i64 (n : Int)] 3)
  have PA := Bx.mk pa; have KB := Bx.mk kb; have HBE := Bx.mk hbe; have KB2 := Bx.mk kb2; have N1 := Bx.mk hn1'
  clear pa kb hbe kb2 hn1'
  go_wp2_with fail
  refine HBE.out.mono ?_
  rintro e w1 ⟨rfl, hw1⟩
  rw [hw1] at KB2
  rw [show ([n].sum : Nat) = n by simp]
  clear hw1 HBE hcl
  have PA1 := Bx.mk (PA.out.below KB2.out); have K1 := Bx.mk (KB.out.trans (KB2.out.mono KB.out.size)); clear KB2 PA KB
  by_cases hgt : 1048576 < n
  · rw [decide_eq_true hgt]
    go_wp2_with fail
    go_ret
    exact ⟨rfl, K1.out⟩
  · rw [decide_eq_false hgt]
    have hm : ps.length ≤ 1048576 := by have := HN.out; omega
    have HM := Bx.mk hm
    clear hgt hm
    have hcl := PA1.out.cellL
    go_wp2_with fail
    refine (twin_any w1 ad n cap ps (HHS.out.below K1.out) HM.out).mono ?_
    rintro e w2 ⟨vt, rfl, ht, hb⟩
    clear hcl
    have PA2 := Bx.mk (PA1.out.below hb); have K2 := Bx.mk (K1.out.trans (hb.mono K1.out.size)); clear hb PA1 K1
    obtain ⟨B, rfl⟩ : ∃ B, vt = .slice (some ⟨B, 0, none⟩) ps.length (ps.length + 1) := by obtain ⟨_, B, e, _⟩ := ht; exact ⟨B, e⟩
    obtain ⟨m, hm⟩ : ∃ m, m = ps.length := ⟨_, rfl⟩
    rw [← hm] at ht ⊢
    have T2 := Bx.mk ht; have HMM := Bx.mk hm; clear ht hm
    obtain ⟨X, ev, fc, fa, hX, hv1, hv2, wy⟩ := WAYS.out
    have XL := Bx.mk hX; have HV1 := Bx.mk hv1; have HV2 := Bx.mk hv2; have WY := Bx.mk wy
    clear hX hv1 hv2 wy WAYS
    have c0 := PA2.out.cell0
    have c1 := PA2.out.cell1
    go_wp2_with (guard_target =~ wpList _ _ _ (⟨some 22, _, _, _, _, _⟩ :: _) _ _; refine wpList_load_mid rfl 24 (.tmp 21) rfl n1 2 rfl (bcells leaf) _ PA2.out.leafAt underH rfl (hszB' LL.out) ?_)
    have cr := root_any A w2 i s I64.out S64.out leaf LL.out _ _ _ ps T2.out.1 (HH.out.below K2.out)
    rw [hv_agg, HV1.out] at cr
    refine cr.mono ?_
    clear cr c0 c1
    rintro e w3 ⟨rfl, hb⟩
    have PA3 := Bx.mk (PA2.out.below hb); have T3 := Bx.mk (T2.out.below hb); have K3 := Bx.mk (K2.out.trans (hb.mono K2.out.size)); clear hb PA2 T2 K2
    go_upto_region 5 with (guard_target =~ wpList _ _ _ (⟨none, _, _, _, _, _⟩ :: _) _ _; refine wpList_store_row rfl 24 (.tmp 4) (.tmp 25) rfl w3.heap.size (ocells X) rfl rfl _ zeros32 (heap_alloc_new _ _) (hszL XL.out) (hsoL XL.out) (ocells_one _) ?_; rw [setRow_alloc_new _ _ _ _ _ rfl])
    have x4 := HashAt.new w3 X XL.out
    have b4 := er_al (Below.refl w3.heap.size w3) (.cells (ocells X) 24)
    generalize w3.alloc (.cells (ocells X) 24) = w4 at x4 b4 ⊢
    generalize w3.heap.size = n4 at x4 ⊢
    have PA4 := Bx.mk (PA3.out.below b4); have T4 := Bx.mk (T3.out.below b4); have X4 := Bx.mk x4; have K4 := Bx.mk (K3.out.trans (b4.mono K3.out.size)); clear b4 x4 PA3 T3 K3
    have c0 := PA4.out.cell0
    have c1 := PA4.out.cell1
    have cl := PA4.out.cellL
    go_wp2_with (guard_target =~ wpList _ _ _ (⟨some 33, _, _, _, _, _⟩ :: _) _ _; refine wpList_load_mid rfl 24 (.tmp 32) rfl n1 2 rfl (bcells leaf) _ PA4.out.leafAt underH rfl (hszB' LL.out) ?_)
    have cr := rroot_any w4 i s I64.out S64.out leaf LL.out _ _ _ ps (HHS.out.below K4.out)
    rw [hv_agg, HV2.out] at cr
    refine cr.mono ?_
    clear cr c0 c1 cl
    rintro e w5 ⟨rfl, hb⟩
    have PA5 := Bx.mk (PA4.out.below hb); have T5 := Bx.mk (T4.out.below hb); have X5 := Bx.mk (X4.out.below hb); have K5 := Bx.mk (K4.out.trans (hb.mono K4.out.size)); clear hb PA4 T4 K4 X4
    have r7 : ((w5.alloc (.cells zeros32 24)).alloc (.cells fz 35)).heap[w5.heap.size]? = some (.cells zeros32 24 (0, 0)) := by
      rw [Below.heap_alloc _ _ _ (by simp)]; exact heap_alloc_new _ _
    go_upto_region 6 with (guard_target =~ wpList _ _ _ (⟨none, .store 24 _ _, _, _, _, _⟩ :: _) _ _; refine wpList_store_row rfl 24 (.tmp 6) (.tmp 37) rfl w5.heap.size (ocells X) rfl rfl _ zeros32 r7 (hszL XL.out) (hsoL XL.out) (ocells_one _) ?_; rw [setRow_alloc2 _ _ _ _ _ _ rfl])
    have x6 := (HashAt.new w5 X XL.out).below (er_al (Below.refl _ _) (.cells #[.int .i64 fc, .int .i64 fa] 35))
    have x7 : ((w5.alloc (.cells (ocells X) 24)).alloc (.cells #[.int .i64 fc, .int .i64 fa] 35)).heap[w5.heap.size + 1]? = some (.cells #[.int .i64 fc, .int .i64 fa] 35 (0, 0)) := by
      simpa using heap_alloc_new (w5.alloc (.cells (ocells X) 24)) (.cells #[.int .i64 fc, .int .i64 fa] 35)
    have b6 : Below w5.heap.size w5 ((w5.alloc (.cells (ocells X) 24)).alloc (.cells #[.int .i64 fc, .int .i64 fa] 35)) := er_al (er_al (Below.refl _ _) _) _
    generalize (w5.alloc (.cells (ocells X) 24)).alloc (.cells #[.int .i64 fc, .int .i64 fa] 35) = w6 at x6 x7 b6 ⊢
    obtain ⟨n7, hn7⟩ : ∃ n7, n7 = w5.heap.size + 1 := ⟨_, rfl⟩
    rw [← hn7] at x7 ⊢
    generalize w5.heap.size = n6 at x6 r7 ⊢
    have PA := Bx.mk (PA5.out.below b6); have TW := Bx.mk (T5.out.below b6); have X4 := Bx.mk (X5.out.below b6); have KB := Bx.mk (K5.out.trans (b6.mono K5.out.size)); have X6 := Bx.mk x6; have X7 := Bx.mk x7
    clear b6 x6 x7 r7 hn7 PA5 T5 X5 K5
    have nq : ∀ u : World, (binOp .neq 24 (.agg (ocells X)) (.agg (ocells X))).run Tryd.prog u = .ok (.bool false) u := fun u => (hv_neq u X X XL.out XL.out).trans (by simp)
    go_wp2_with (first
      | (guard_target =~ wpList _ _ _ (⟨some 39, _, _, _, _, _⟩ :: _) _ _; refine wpList_load_row rfl 24 (.tmp 4) rfl n4 rfl _ _ _ _ X4.out.1 underH rfl (hszL XL.out) ?_)
      | (guard_target =~ wpList _ _ _ (⟨some 40, _, _, _, _, _⟩ :: _) _ _; refine wpList_load_row rfl 24 (.tmp 6) rfl n6 rfl _ _ _ _ X6.out.1 underH rfl (hszL XL.out) ?_)
      | (guard_target =~ wpList _ _ _ (⟨some 44, _, _, _, _, _⟩ :: _) _ _; refine wpList_load_row_w rfl 35 (.tmp 7) rfl n7 rfl _ _ _ _ X7.out Tryd.underlying35 rfl (by kernel_rfl) ?_))
    clear nq
    refine (WY.out.1 w6 (HH.out.below KB.out).err).mono ?_
    rintro e w7 ⟨rfl, hb⟩
    have PA1 := Bx.mk (PA.out.below hb); have T1 := Bx.mk (TW.out.below hb); have X61 := Bx.mk (X6.out.below hb); have X71 := Bx.mk ((hb.block _ (Array.getElem?_eq_some_iff.1 X7.out).1).trans X7.out); have K1 := Bx.mk (KB.out.trans (hb.mono KB.out.size)); clear hb PA TW X4 X6 X7 KB
    have cl := PA1.out.cellL
    go_wp2_with fail
    clear cl
    refine (left_any w7 _ ps ad n cap T1.out (HHS.out.below K1.out) HM.out).mono ?_
    rintro e w8 ⟨rfl, hb⟩
    have PA := Bx.mk (PA1.out.below hb); have TW := Bx.mk (T1.out.below hb); have X6 := Bx.mk (X61.out.below hb); have X7 := Bx.mk ((hb.block _ (Array.getElem?_eq_some_iff.1 X71.out).1).trans X71.out); have KB := Bx.mk (K1.out.trans (hb.mono K1.out.size)); clear hb PA1 T1 X61 X71 K1
    go_upto_region 8 with (fail)
    refine wp_region_inv (n := 98) (VP8 A i s leaf root X ev fc fa n1 ad n cap B m ps) (by kernel_rfl) (by kernel_rfl) rfl (VP8_mono A i s leaf root X ev fc fa n1 ad n cap B m ps) ?_ ?_
    · intro oi o hi f u hsame hbel hdep
      have hbw := KB.out.trans (hbel.mono KB.out.size)
      have hu := HH.out.below hbw
      have hh := HHS.out.below hbw
      have ht := TW.out.below hbel
      have hp := PA.out.below hbel
      match oi, hi with
      | 0, hi =>
        cases (show some _ = some o from hi)
        have e1 : f.tmps.getD 1 undef = .pointer (some ⟨n1, 0, none⟩) := hsame.slot 1 (fun _ _ h => invB_not (n := 98) (by kernel_rfl) 1 (by kernel_rfl) h)
        clear hdep hsame hi
        exact ⟨wanted_none rfl, shows_run rfl (.pointer (some ⟨n1, 0, none⟩)) (by simp only [execOp, Act.eval]; go_simp) (Below.refl _ _) rfl⟩
      | 1, hi =>
        cases (show some _ = some o from hi)
        have e55 : f.tmps.getD 55 undef = .pointer (some ⟨n1, 0, none⟩) := dep_of (V := (VP8 A i s leaf root X ev fc fa n1 ad n cap B m ps)) hdep 0 55 (by kernel_rfl) (by kernel_rfl)
        clear hdep hsame hi
        have hc := hp.cell0
        exact ⟨wanted_none rfl, shows_run rfl (.int .u64 (i : Int)) (by simp only [execOp, Act.eval]; go_simp) (Below.refl _ _) rfl⟩
      | 2, hi =>
        cases (show some _ = some o from hi)
        have e1 : f.tmps.getD 1 undef = .pointer (some ⟨n1, 0, none⟩) := hsame.slot 1 (fun _ _ h => invB_not (n := 98) (by kernel_rfl) 1 (by kernel_rfl) h)
        clear hdep hsame hi
        exact ⟨wanted_none rfl, shows_run rfl (.pointer (some ⟨n1, 1, none⟩)) (by simp only [execOp, Act.eval]; go_simp) (Below.refl _ _) rfl⟩
      | 3, hi =>
        cases (show some _ = some o from hi)
        have e57 : f.tmps.getD 57 undef = .pointer (some ⟨n1, 1, none⟩) := dep_of (V := (VP8 A i s leaf root X ev fc fa n1 ad n cap B m ps)) hdep 2 57 (by kernel_rfl) (by kernel_rfl)
        clear hdep hsame hi
        have hc := hp.cell1
        exact ⟨wanted_none rfl, shows_run rfl (.int .u64 (s : Int)) (by simp only [execOp, Act.eval]; go_simp) (Below.refl _ _) rfl⟩
      | 4, hi =>
        cases (show some _ = some o from hi)
        have e1 : f.tmps.getD 1 undef = .pointer (some ⟨n1, 0, none⟩) := hsame.slot 1 (fun _ _ h => invB_not (n := 98) (by kernel_rfl) 1 (by kernel_rfl) h)
        clear hdep hsame hi
        exact ⟨wanted_none rfl, shows_run rfl (.pointer (some ⟨n1, 2, none⟩)) (by simp only [execOp, Act.eval]; go_simp) (Below.refl _ _) rfl⟩
      | 5, hi =>
        cases (show some _ = some o from hi)
        have e59 : f.tmps.getD 59 undef = .pointer (some ⟨n1, 2, none⟩) := dep_of (V := (VP8 A i s leaf root X ev fc fa n1 ad n cap B m ps)) hdep 4 59 (by kernel_rfl) (by kernel_rfl)
        clear hdep hsame hi
        exact ⟨wanted_none rfl, shows_mid rfl 24 (.tmp 59) rfl n1 (2) e59 (bcells leaf) hp.leafAt underH rfl (hszB' LL.out) rfl⟩
      | 6, hi =>
        cases (show some _ = some o from hi)
        have e3 : f.tmps.getD 3 undef = .slice (some ⟨B, 0, none⟩) m (m + 1) := hsame.slot 3 (fun _ _ h => invB_not (n := 98) (by kernel_rfl) 3 (by kernel_rfl) h)
        clear hdep hsame hi
        exact ⟨wanted_none rfl, shows_move rfl _ rfl e3⟩
      | 7, hi =>
        cases (show some _ = some o from hi)
        have e1 : f.tmps.getD 1 undef = .pointer (some ⟨n1, 0, none⟩) := hsame.slot 1 (fun _ _ h => invB_not (n := 98) (by kernel_rfl) 1 (by kernel_rfl) h)
        clear hdep hsame hi
        exact ⟨wanted_none rfl, shows_run rfl (.pointer (some ⟨n1, 34, none⟩)) (by simp only [execOp, Act.eval]; go_simp) (Below.refl _ _) rfl⟩
      | 8, hi =>
        cases (show some _ = some o from hi)
        have e62 : f.tmps.getD 62 undef = .pointer (some ⟨n1, 34, none⟩) := dep_of (V := (VP8 A i s leaf root X ev fc fa n1 ad n cap B m ps)) hdep 7 62 (by kernel_rfl) (by kernel_rfl)
        clear hdep hsame hi
        exact ⟨wanted_none rfl, shows_mid rfl 24 (.tmp 62) rfl n1 (34) e62 (bcells root) hp.rootAt underH rfl (hszB' RL.out) rfl⟩
      | 9, hi =>
        cases (show some _ = some o from hi)
        have e56 : f.tmps.getD 56 undef = .int .u64 (i : Int) := dep_of (V := (VP8 A i s leaf root X ev fc fa n1 ad n cap B m ps)) hdep 1 56 (by kernel_rfl) (by kernel_rfl)
        have e58 : f.tmps.getD 58 undef = .int .u64 (s : Int) := dep_of (V := (VP8 A i s leaf root X ev fc fa n1 ad n cap B m ps)) hdep 3 58 (by kernel_rfl) (by kernel_rfl)
        have e60 : f.tmps.getD 60 undef = .agg (ocells leaf) := dep_of (V := (VP8 A i s leaf root X ev fc fa n1 ad n cap B m ps)) hdep 5 60 (by kernel_rfl) (by kernel_rfl)
        have e61 : f.tmps.getD 61 undef = .slice (some ⟨B, 0, none⟩) m (m + 1) := dep_of (V := (VP8 A i s leaf root X ev fc fa n1 ad n cap B m ps)) hdep 6 61 (by kernel_rfl) (by kernel_rfl)
        have e63 : f.tmps.getD 63 undef = .agg (ocells root) := dep_of (V := (VP8 A i s leaf root X ev fc fa n1 ad n cap B m ps)) hdep 8 63 (by kernel_rfl) (by kernel_rfl)
        clear hdep hsame hi
        have c := incl_any A u i s I64.out S64.out leaf LL.out _ _ _ ps ht.1 root RL.out hu
        rw [hv_agg, hv_agg] at c
        exact ⟨wanted_none rfl, shows_call rfl 14 #[.int .u64 (i : Int), .int .u64 (s : Int), .agg (ocells leaf), .slice (some ⟨B, 0, none⟩) m (m + 1), .agg (ocells root)] (by simp only [execOp, Act.eval]; go_simp) (c) (fun _ => rfl)⟩
      | 10, hi =>
        cases (show some _ = some o from hi)
        have e1 : f.tmps.getD 1 undef = .pointer (some ⟨n1, 0, none⟩) := hsame.slot 1 (fun _ _ h => invB_not (n := 98) (by kernel_rfl) 1 (by kernel_rfl) h)
        clear hdep hsame hi
        exact ⟨wanted_none rfl, shows_run rfl (.pointer (some ⟨n1, 0, none⟩)) (by simp only [execOp, Act.eval]; go_simp) (Below.refl _ _) rfl⟩
      | 11, hi =>
        cases (show some _ = some o from hi)
        have e65 : f.tmps.getD 65 undef = .pointer (some ⟨n1, 0, none⟩) := dep_of (V := (VP8 A i s leaf root X ev fc fa n1 ad n cap B m ps)) hdep 10 65 (by kernel_rfl) (by kernel_rfl)
        clear hdep hsame hi
        have hc := hp.cell0
        exact ⟨wanted_none rfl, shows_run rfl (.int .u64 (i : Int)) (by simp only [execOp, Act.eval]; go_simp) (Below.refl _ _) rfl⟩
      | 12, hi =>
        cases (show some _ = some o from hi)
        have e1 : f.tmps.getD 1 undef = .pointer (some ⟨n1, 0, none⟩) := hsame.slot 1 (fun _ _ h => invB_not (n := 98) (by kernel_rfl) 1 (by kernel_rfl) h)
        clear hdep hsame hi
        exact ⟨wanted_none rfl, shows_run rfl (.pointer (some ⟨n1, 1, none⟩)) (by simp only [execOp, Act.eval]; go_simp) (Below.refl _ _) rfl⟩
      | 13, hi =>
        cases (show some _ = some o from hi)
        have e67 : f.tmps.getD 67 undef = .pointer (some ⟨n1, 1, none⟩) := dep_of (V := (VP8 A i s leaf root X ev fc fa n1 ad n cap B m ps)) hdep 12 67 (by kernel_rfl) (by kernel_rfl)
        clear hdep hsame hi
        have hc := hp.cell1
        exact ⟨wanted_none rfl, shows_run rfl (.int .u64 (s : Int)) (by simp only [execOp, Act.eval]; go_simp) (Below.refl _ _) rfl⟩
      | 14, hi =>
        cases (show some _ = some o from hi)
        have e1 : f.tmps.getD 1 undef = .pointer (some ⟨n1, 0, none⟩) := hsame.slot 1 (fun _ _ h => invB_not (n := 98) (by kernel_rfl) 1 (by kernel_rfl) h)
        clear hdep hsame hi
        exact ⟨wanted_none rfl, shows_run rfl (.pointer (some ⟨n1, 2, none⟩)) (by simp only [execOp, Act.eval]; go_simp) (Below.refl _ _) rfl⟩
      | 15, hi =>
        cases (show some _ = some o from hi)
        have e69 : f.tmps.getD 69 undef = .pointer (some ⟨n1, 2, none⟩) := dep_of (V := (VP8 A i s leaf root X ev fc fa n1 ad n cap B m ps)) hdep 14 69 (by kernel_rfl) (by kernel_rfl)
        clear hdep hsame hi
        exact ⟨wanted_none rfl, shows_mid rfl 24 (.tmp 69) rfl n1 (2) e69 (bcells leaf) hp.leafAt underH rfl (hszB' LL.out) rfl⟩
      | 16, hi =>
        cases (show some _ = some o from hi)
        have e1 : f.tmps.getD 1 undef = .pointer (some ⟨n1, 0, none⟩) := hsame.slot 1 (fun _ _ h => invB_not (n := 98) (by kernel_rfl) 1 (by kernel_rfl) h)
        clear hdep hsame hi
        exact ⟨wanted_none rfl, shows_run rfl (.pointer (some ⟨n1, 66, none⟩)) (by simp only [execOp, Act.eval]; go_simp) (Below.refl _ _) rfl⟩
      | 17, hi =>
        cases (show some _ = some o from hi)
        have e71 : f.tmps.getD 71 undef = .pointer (some ⟨n1, 66, none⟩) := dep_of (V := (VP8 A i s leaf root X ev fc fa n1 ad n cap B m ps)) hdep 16 71 (by kernel_rfl) (by kernel_rfl)
        clear hdep hsame hi
        have hc := hp.cellL
        exact ⟨wanted_none rfl, shows_run rfl (.slice ad n cap) (by simp only [execOp, Act.eval]; go_simp) (Below.refl _ _) rfl⟩
      | 18, hi =>
        cases (show some _ = some o from hi)
        have e1 : f.tmps.getD 1 undef = .pointer (some ⟨n1, 0, none⟩) := hsame.slot 1 (fun _ _ h => invB_not (n := 98) (by kernel_rfl) 1 (by kernel_rfl) h)
        clear hdep hsame hi
        exact ⟨wanted_none rfl, shows_run rfl (.pointer (some ⟨n1, 34, none⟩)) (by simp only [execOp, Act.eval]; go_simp) (Below.refl _ _) rfl⟩
      | 19, hi =>
        cases (show some _ = some o from hi)
        have e73 : f.tmps.getD 73 undef = .pointer (some ⟨n1, 34, none⟩) := dep_of (V := (VP8 A i s leaf root X ev fc fa n1 ad n cap B m ps)) hdep 18 73 (by kernel_rfl) (by kernel_rfl)
        clear hdep hsame hi
        exact ⟨wanted_none rfl, shows_mid rfl 24 (.tmp 73) rfl n1 (34) e73 (bcells root) hp.rootAt underH rfl (hszB' RL.out) rfl⟩
      | 20, hi =>
        cases (show some _ = some o from hi)
        have e66 : f.tmps.getD 66 undef = .int .u64 (i : Int) := dep_of (V := (VP8 A i s leaf root X ev fc fa n1 ad n cap B m ps)) hdep 11 66 (by kernel_rfl) (by kernel_rfl)
        have e68 : f.tmps.getD 68 undef = .int .u64 (s : Int) := dep_of (V := (VP8 A i s leaf root X ev fc fa n1 ad n cap B m ps)) hdep 13 68 (by kernel_rfl) (by kernel_rfl)
        have e70 : f.tmps.getD 70 undef = .agg (ocells leaf) := dep_of (V := (VP8 A i s leaf root X ev fc fa n1 ad n cap B m ps)) hdep 15 70 (by kernel_rfl) (by kernel_rfl)
        have e72 : f.tmps.getD 72 undef = .slice ad n cap := dep_of (V := (VP8 A i s leaf root X ev fc fa n1 ad n cap B m ps)) hdep 17 72 (by kernel_rfl) (by kernel_rfl)
        have e74 : f.tmps.getD 74 undef = .agg (ocells root) := dep_of (V := (VP8 A i s leaf root X ev fc fa n1 ad n cap B m ps)) hdep 19 74 (by kernel_rfl) (by kernel_rfl)
        clear hdep hsame hi
        have c := rincl_any u i s I64.out S64.out leaf LL.out _ _ _ ps hh root RL.out
        rw [hv_agg, hv_agg] at c
        exact ⟨wanted_none rfl, shows_call rfl 15 #[.int .u64 (i : Int), .int .u64 (s : Int), .agg (ocells leaf), .slice ad n cap, .agg (ocells root)] (by simp only [execOp, Act.eval]; go_simp) (c) (fun _ => rfl)⟩
      | 21, hi =>
        cases (show some _ = some o from hi)
        have e64 : f.tmps.getD 64 undef = inclV A i s leaf ps root := dep_of (V := (VP8 A i s leaf root X ev fc fa n1 ad n cap B m ps)) hdep 9 64 (by kernel_rfl) (by kernel_rfl)
        have e75 : f.tmps.getD 75 undef = rinclV i s leaf ps root := dep_of (V := (VP8 A i s leaf root X ev fc fa n1 ad n cap B m ps)) hdep 20 75 (by kernel_rfl) (by kernel_rfl)
        clear hdep hsame hi
        have c := WY.out.2.2 root u hu.err
        exact ⟨wanted_none rfl, shows_call rfl 12 #[inclV A i s leaf ps root, rinclV i s leaf ps root] (by simp only [execOp, Act.eval]; go_simp) (c) (fun _ => rfl)⟩
      | 22, hi =>
        cases (show some _ = some o from hi)
        have e76 : f.tmps.getD 76 undef = .bool true := dep_of (V := (VP8 A i s leaf root X ev fc fa n1 ad n cap B m ps)) hdep 21 76 (by kernel_rfl) (by kernel_rfl)
        clear hdep hsame hi
        exact ⟨wanted_none rfl, shows_run rfl (.bool false) (by simp only [execOp, Act.eval]; go_simp) (Below.refl _ _) rfl⟩
      | n + 23, hi => exact absurd hi (by simp)
    · intro f u hsame hbel hall
      have q55 : f.tmps.getD 55 undef = .pointer (some ⟨n1, 0, none⟩) := hall 0 _ 55 rfl rfl
      have q56 : f.tmps.getD 56 undef = .int .u64 (i : Int) := hall 1 _ 56 rfl rfl
      have q57 : f.tmps.getD 57 undef = .pointer (some ⟨n1, 1, none⟩) := hall 2 _ 57 rfl rfl
      have q58 : f.tmps.getD 58 undef = .int .u64 (s : Int) := hall 3 _ 58 rfl rfl
      have q59 : f.tmps.getD 59 undef = .pointer (some ⟨n1, 2, none⟩) := hall 4 _ 59 rfl rfl
      have q60 : f.tmps.getD 60 undef = .agg (ocells leaf) := hall 5 _ 60 rfl rfl
      have q61 : f.tmps.getD 61 undef = .slice (some ⟨B, 0, none⟩) m (m + 1) := hall 6 _ 61 rfl rfl
      have q62 : f.tmps.getD 62 undef = .pointer (some ⟨n1, 34, none⟩) := hall 7 _ 62 rfl rfl
      have q63 : f.tmps.getD 63 undef = .agg (ocells root) := hall 8 _ 63 rfl rfl
      have q64 : f.tmps.getD 64 undef = inclV A i s leaf ps root := hall 9 _ 64 rfl rfl
      have q65 : f.tmps.getD 65 undef = .pointer (some ⟨n1, 0, none⟩) := hall 10 _ 65 rfl rfl
      have q66 : f.tmps.getD 66 undef = .int .u64 (i : Int) := hall 11 _ 66 rfl rfl
      have q67 : f.tmps.getD 67 undef = .pointer (some ⟨n1, 1, none⟩) := hall 12 _ 67 rfl rfl
      have q68 : f.tmps.getD 68 undef = .int .u64 (s : Int) := hall 13 _ 68 rfl rfl
      have q69 : f.tmps.getD 69 undef = .pointer (some ⟨n1, 2, none⟩) := hall 14 _ 69 rfl rfl
      have q70 : f.tmps.getD 70 undef = .agg (ocells leaf) := hall 15 _ 70 rfl rfl
      have q71 : f.tmps.getD 71 undef = .pointer (some ⟨n1, 66, none⟩) := hall 16 _ 71 rfl rfl
      have q72 : f.tmps.getD 72 undef = .slice ad n cap := hall 17 _ 72 rfl rfl
      have q73 : f.tmps.getD 73 undef = .pointer (some ⟨n1, 34, none⟩) := hall 18 _ 73 rfl rfl
      have q74 : f.tmps.getD 74 undef = .agg (ocells root) := hall 19 _ 74 rfl rfl
      have q75 : f.tmps.getD 75 undef = rinclV i s leaf ps root := hall 20 _ 75 rfl rfl
      have q76 : f.tmps.getD 76 undef = .bool true := hall 21 _ 76 rfl rfl
      have q77 : f.tmps.getD 77 undef = .bool false := hall 22 _ 77 rfl rfl
      obtain rfl := frame_eq hsame [(55, .pointer (some ⟨n1, 0, none⟩)), (56, .int .u64 (i : Int)), (57, .pointer (some ⟨n1, 1, none⟩)), (58, .int .u64 (s : Int)), (59, .pointer (some ⟨n1, 2, none⟩)), (60, .agg (ocells leaf)), (61, .slice (some ⟨B, 0, none⟩) m (m + 1)), (62, .pointer (some ⟨n1, 34, none⟩)), (63, .agg (ocells root)), (64, inclV A i s leaf ps root), (65, .pointer (some ⟨n1, 0, none⟩)), (66, .int .u64 (i : Int)), (67, .pointer (some ⟨n1, 1, none⟩)), (68, .int .u64 (s : Int)), (69, .pointer (some ⟨n1, 2, none⟩)), (70, .agg (ocells leaf)), (71, .pointer (some ⟨n1, 66, none⟩)), (72, .slice ad n cap), (73, .pointer (some ⟨n1, 34, none⟩)), (74, .agg (ocells root)), (75, rinclV i s leaf ps root), (76, .bool true), (77, .bool false)] (by kernel_rfl) ⟨q55, q56, q57, q58, q59, q60, q61, q62, q63, q64, q65, q66, q67, q68, q69, q70, q71, q72, q73, q74, q75, q76, q77, trivial⟩
      clear hall hsame q55 q56 q57 q58 q59 q60 q61 q62 q63 q64 q65 q66 q67 q68 q69 q70 q71 q72 q73 q74 q75 q76 q77
      simp only [List.foldl, List.setIfInBounds_toArray, List.set_cons_succ, List.set_cons_zero]
      have hb := hbel
      have PA1 := Bx.mk (PA.out.below hb); have T1 := Bx.mk (TW.out.below hb); have X61 := Bx.mk (X6.out.below hb); have X71 := Bx.mk ((hb.block _ (Array.getElem?_eq_some_iff.1 X7.out).1).trans X7.out); have K1 := Bx.mk (KB.out.trans (hb.mono KB.out.size)); clear hb hbel PA TW X6 X7 KB
      have PA := PA1; have TW := T1; have X6 := X61; have X7 := X71; have KB := K1
      clear PA1 T1 X61 X71 K1
      go_upto_region 10 with (fail)
      refine wp_region_inv (n := 98) (VP10 A i s leaf root X ev fc fa n1 ad n cap B m ps) (by kernel_rfl) (by kernel_rfl) rfl (VP10_mono A i s leaf root X ev fc fa n1 ad n cap B m ps) ?_ ?_
      · intro oi o hi f u hsame hbel hdep
        have hbw := KB.out.trans (hbel.mono KB.out.size)
        have hu := HH.out.below hbw
        have hh := HHS.out.below hbw
        have ht := TW.out.below hbel
        have hp := PA.out.below hbel
        match oi, hi with
        | 0, hi =>
          cases (show some _ = some o from hi)
          have e1 : f.tmps.getD 1 undef = .pointer (some ⟨n1, 0, none⟩) := hsame.slot 1 (fun _ _ h => invB_not (n := 98) (by kernel_rfl) 1 (by kernel_rfl) h)
          clear hdep hsame hi
          exact ⟨wanted_none rfl, shows_run rfl (.pointer (some ⟨n1, 0, none⟩)) (by simp only [execOp, Act.eval]; go_simp) (Below.refl _ _) rfl⟩
        | 1, hi =>
          cases (show some _ = some o from hi)
          have e78 : f.tmps.getD 78 undef = .pointer (some ⟨n1, 0, none⟩) := dep_of (V := (VP10 A i s leaf root X ev fc fa n1 ad n cap B m ps)) hdep 0 78 (by kernel_rfl) (by kernel_rfl)
          clear hdep hsame hi
          have hc := hp.cell0
          exact ⟨wanted_none rfl, shows_run rfl (.int .u64 (i : Int)) (by simp only [execOp, Act.eval]; go_simp) (Below.refl _ _) rfl⟩
        | 2, hi =>
          cases (show some _ = some o from hi)
          have e1 : f.tmps.getD 1 undef = .pointer (some ⟨n1, 0, none⟩) := hsame.slot 1 (fun _ _ h => invB_not (n := 98) (by kernel_rfl) 1 (by kernel_rfl) h)
          clear hdep hsame hi
          exact ⟨wanted_none rfl, shows_run rfl (.pointer (some ⟨n1, 1, none⟩)) (by simp only [execOp, Act.eval]; go_simp) (Below.refl _ _) rfl⟩
        | 3, hi =>
          cases (show some _ = some o from hi)
          have e80 : f.tmps.getD 80 undef = .pointer (some ⟨n1, 1, none⟩) := dep_of (V := (VP10 A i s leaf root X ev fc fa n1 ad n cap B m ps)) hdep 2 80 (by kernel_rfl) (by kernel_rfl)
          clear hdep hsame hi
          have hc := hp.cell1
          exact ⟨wanted_none rfl, shows_run rfl (.int .u64 (s : Int)) (by simp only [execOp, Act.eval]; go_simp) (Below.refl _ _) rfl⟩
        | 4, hi =>
          cases (show some _ = some o from hi)
          have e1 : f.tmps.getD 1 undef = .pointer (some ⟨n1, 0, none⟩) := hsame.slot 1 (fun _ _ h => invB_not (n := 98) (by kernel_rfl) 1 (by kernel_rfl) h)
          clear hdep hsame hi
          exact ⟨wanted_none rfl, shows_run rfl (.pointer (some ⟨n1, 2, none⟩)) (by simp only [execOp, Act.eval]; go_simp) (Below.refl _ _) rfl⟩
        | 5, hi =>
          cases (show some _ = some o from hi)
          have e82 : f.tmps.getD 82 undef = .pointer (some ⟨n1, 2, none⟩) := dep_of (V := (VP10 A i s leaf root X ev fc fa n1 ad n cap B m ps)) hdep 4 82 (by kernel_rfl) (by kernel_rfl)
          clear hdep hsame hi
          exact ⟨wanted_none rfl, shows_mid rfl 24 (.tmp 82) rfl n1 (2) e82 (bcells leaf) hp.leafAt underH rfl (hszB' LL.out) rfl⟩
        | 6, hi =>
          cases (show some _ = some o from hi)
          have e3 : f.tmps.getD 3 undef = .slice (some ⟨B, 0, none⟩) m (m + 1) := hsame.slot 3 (fun _ _ h => invB_not (n := 98) (by kernel_rfl) 3 (by kernel_rfl) h)
          clear hdep hsame hi
          exact ⟨wanted_none rfl, shows_move rfl _ rfl e3⟩
        | 7, hi =>
          cases (show some _ = some o from hi)
          have e6 : f.tmps.getD 6 undef = .pointer (some ⟨n6, 0, none⟩) := hsame.slot 6 (fun _ _ h => invB_not (n := 98) (by kernel_rfl) 6 (by kernel_rfl) h)
          clear hdep hsame hi
          exact ⟨wanted_none rfl, shows_row rfl 24 (.tmp 6) rfl n6 e6 (ocells X) (X6.out.below hbel).1 underH rfl (hszL XL.out) rfl⟩
        | 8, hi =>
          cases (show some _ = some o from hi)
          have e79 : f.tmps.getD 79 undef = .int .u64 (i : Int) := dep_of (V := (VP10 A i s leaf root X ev fc fa n1 ad n cap B m ps)) hdep 1 79 (by kernel_rfl) (by kernel_rfl)
          have e81 : f.tmps.getD 81 undef = .int .u64 (s : Int) := dep_of (V := (VP10 A i s leaf root X ev fc fa n1 ad n cap B m ps)) hdep 3 81 (by kernel_rfl) (by kernel_rfl)
          have e83 : f.tmps.getD 83 undef = .agg (ocells leaf) := dep_of (V := (VP10 A i s leaf root X ev fc fa n1 ad n cap B m ps)) hdep 5 83 (by kernel_rfl) (by kernel_rfl)
          have e84 : f.tmps.getD 84 undef = .slice (some ⟨B, 0, none⟩) m (m + 1) := dep_of (V := (VP10 A i s leaf root X ev fc fa n1 ad n cap B m ps)) hdep 6 84 (by kernel_rfl) (by kernel_rfl)
          have e85 : f.tmps.getD 85 undef = .agg (ocells X) := dep_of (V := (VP10 A i s leaf root X ev fc fa n1 ad n cap B m ps)) hdep 7 85 (by kernel_rfl) (by kernel_rfl)
          clear hdep hsame hi
          have c := incl_any A u i s I64.out S64.out leaf LL.out _ _ _ ps ht.1 X XL.out hu
          rw [hv_agg, hv_agg] at c
          exact ⟨wanted_none rfl, shows_call rfl 14 #[.int .u64 (i : Int), .int .u64 (s : Int), .agg (ocells leaf), .slice (some ⟨B, 0, none⟩) m (m + 1), .agg (ocells X)] (by simp only [execOp, Act.eval]; go_simp) (c) (fun _ => rfl)⟩
        | 9, hi =>
          cases (show some _ = some o from hi)
          have e7 : f.tmps.getD 7 undef = .pointer (some ⟨n7, 0, none⟩) := hsame.slot 7 (fun _ _ h => invB_not (n := 98) (by kernel_rfl) 7 (by kernel_rfl) h)
          clear hdep hsame hi
          exact ⟨wanted_none rfl, shows_row rfl 35 (.tmp 7) rfl n7 e7 #[.int .i64 fc, .int .i64 fa] ((hbel.block _ (Array.getElem?_eq_some_iff.1 X7.out).1).trans X7.out) Tryd.underlying35 rfl (by kernel_rfl) rfl⟩
        | 10, hi =>
          cases (show some _ = some o from hi)
          have e86 : f.tmps.getD 86 undef = inclV A i s leaf ps X := dep_of (V := (VP10 A i s leaf root X ev fc fa n1 ad n cap B m ps)) hdep 8 86 (by kernel_rfl) (by kernel_rfl)
          have e87 : f.tmps.getD 87 undef = .agg #[.int .i64 fc, .int .i64 fa] := dep_of (V := (VP10 A i s leaf root X ev fc fa n1 ad n cap B m ps)) hdep 9 87 (by kernel_rfl) (by kernel_rfl)
          clear hdep hsame hi
          have c := WY.out.2.1 u hu.err
          exact ⟨wanted_none rfl, shows_call rfl 12 #[inclV A i s leaf ps X, .agg #[.int .i64 fc, .int .i64 fa]] (by simp only [execOp, Act.eval]; go_simp) (c) (fun _ => rfl)⟩
        | 11, hi =>
          cases (show some _ = some o from hi)
          have e88 : f.tmps.getD 88 undef = .bool true := dep_of (V := (VP10 A i s leaf root X ev fc fa n1 ad n cap B m ps)) hdep 10 88 (by kernel_rfl) (by kernel_rfl)
          clear hdep hsame hi
          exact ⟨wanted_none rfl, shows_move rfl _ rfl e88⟩
        | 12, hi =>
          cases (show some _ = some o from hi)
          have e3 : f.tmps.getD 3 undef = .slice (some ⟨B, 0, none⟩) m (m + 1) := hsame.slot 3 (fun _ _ h => invB_not (n := 98) (by kernel_rfl) 3 (by kernel_rfl) h)
          have eg : f.tmps.getD 89 undef = .bool true := dep_of (V := (VP10 A i s leaf root X ev fc fa n1 ad n cap B m ps)) hdep 11 89 (by kernel_rfl) (by kernel_rfl)
          clear hdep hsame hi
          exact ⟨wanted_of 11 rfl eg (by kernel_rfl), shows_move rfl _ rfl e3⟩
        | 13, hi =>
          cases (show some _ = some o from hi)
          have e1 : f.tmps.getD 1 undef = .pointer (some ⟨n1, 0, none⟩) := hsame.slot 1 (fun _ _ h => invB_not (n := 98) (by kernel_rfl) 1 (by kernel_rfl) h)
          have eg : f.tmps.getD 89 undef = .bool true := dep_of (V := (VP10 A i s leaf root X ev fc fa n1 ad n cap B m ps)) hdep 11 89 (by kernel_rfl) (by kernel_rfl)
          clear hdep hsame hi
          exact ⟨wanted_of 11 rfl eg (by kernel_rfl), shows_run rfl (.pointer (some ⟨n1, 66, none⟩)) (by simp only [execOp, Act.eval]; go_simp) (Below.refl _ _) rfl⟩
        | 14, hi =>
          cases (show some _ = some o from hi)
          have e91 : f.tmps.getD 91 undef = .pointer (some ⟨n1, 66, none⟩) := dep_of (V := (VP10 A i s leaf root X ev fc fa n1 ad n cap B m ps)) hdep 13 91 (by kernel_rfl) (by kernel_rfl)
          have eg : f.tmps.getD 89 undef = .bool true := dep_of (V := (VP10 A i s leaf root X ev fc fa n1 ad n cap B m ps)) hdep 11 89 (by kernel_rfl) (by kernel_rfl)
          clear hdep hsame hi
          have hc := hp.cellL
          exact ⟨wanted_of 11 rfl eg (by kernel_rfl), shows_run rfl (.slice ad n cap) (by simp only [execOp, Act.eval]; go_simp) (Below.refl _ _) rfl⟩
        | 15, hi =>
          cases (show some _ = some o from hi)
          have e90 : f.tmps.getD 90 undef = .slice (some ⟨B, 0, none⟩) m (m + 1) := dep_of (V := (VP10 A i s leaf root X ev fc fa n1 ad n cap B m ps)) hdep 12 90 (by kernel_rfl) (by kernel_rfl)
          have e92 : f.tmps.getD 92 undef = .slice ad n cap := dep_of (V := (VP10 A i s leaf root X ev fc fa n1 ad n cap B m ps)) hdep 14 92 (by kernel_rfl) (by kernel_rfl)
          have eg : f.tmps.getD 89 undef = .bool true := dep_of (V := (VP10 A i s leaf root X ev fc fa n1 ad n cap B m ps)) hdep 11 89 (by kernel_rfl) (by kernel_rfl)
          clear hdep hsame hi
          have c := left_any u _ ps ad n cap ht hh HM.out
          exact ⟨wanted_of 11 rfl eg (by kernel_rfl), shows_call rfl 13 #[.slice (some ⟨B, 0, none⟩) m (m + 1), .slice ad n cap] (by simp only [execOp, Act.eval]; go_simp) (c) (fun _ => rfl)⟩
        | 16, hi =>
          cases (show some _ = some o from hi)
          have e89 : f.tmps.getD 89 undef = .bool true := dep_of (V := (VP10 A i s leaf root X ev fc fa n1 ad n cap B m ps)) hdep 11 89 (by kernel_rfl) (by kernel_rfl)
          have e93 : f.tmps.getD 93 undef = .bool true := dep_of (V := (VP10 A i s leaf root X ev fc fa n1 ad n cap B m ps)) hdep 15 93 (by kernel_rfl) (by kernel_rfl)
          clear hdep hsame hi
          exact ⟨wanted_none rfl, shows_run rfl (.bool true) (by simp only [execOp, Act.eval]; go_simp) (Below.refl _ _) rfl⟩
        | 17, hi =>
          cases (show some _ = some o from hi)
          have e94 : f.tmps.getD 94 undef = .bool true := dep_of (V := (VP10 A i s leaf root X ev fc fa n1 ad n cap B m ps)) hdep 16 94 (by kernel_rfl) (by kernel_rfl)
          clear hdep hsame hi
          exact ⟨wanted_none rfl, shows_move rfl _ rfl e94⟩
        | 18, hi =>
          cases (show some _ = some o from hi)
          have eg : f.tmps.getD 95 undef = .bool true := dep_of (V := (VP10 A i s leaf root X ev fc fa n1 ad n cap B m ps)) hdep 17 95 (by kernel_rfl) (by kernel_rfl)
          clear hdep hsame hi
          have c := alive_any A u hu
          exact ⟨wanted_of 17 rfl eg (by kernel_rfl), shows_call rfl 16 #[] (by simp only [execOp, Act.eval]; go_simp) (c) (fun _ => rfl)⟩
        | 19, hi =>
          cases (show some _ = some o from hi)
          have e95 : f.tmps.getD 95 undef = .bool true := dep_of (V := (VP10 A i s leaf root X ev fc fa n1 ad n cap B m ps)) hdep 17 95 (by kernel_rfl) (by kernel_rfl)
          have e96 : f.tmps.getD 96 undef = .bool true := dep_of (V := (VP10 A i s leaf root X ev fc fa n1 ad n cap B m ps)) hdep 18 96 (by kernel_rfl) (by kernel_rfl)
          clear hdep hsame hi
          exact ⟨wanted_none rfl, shows_run rfl (.bool true) (by simp only [execOp, Act.eval]; go_simp) (Below.refl _ _) rfl⟩
        | 20, hi =>
          cases (show some _ = some o from hi)
          have e97 : f.tmps.getD 97 undef = .bool true := dep_of (V := (VP10 A i s leaf root X ev fc fa n1 ad n cap B m ps)) hdep 19 97 (by kernel_rfl) (by kernel_rfl)
          clear hdep hsame hi
          exact ⟨wanted_none rfl, shows_assign rfl _ rfl e97⟩
        | n + 21, hi => exact absurd hi (by simp)
      · intro f u hsame hbel hall
        have e0 : f.tmps.getD 2 undef = .bool true := hall 20 _ 2 rfl rfl
        have hd : f.defers = [] := hsame.defers
        refine ‹∀ (a : Act) (w : World), Code.wp _ Code.ret _ a w → _› f u ?_
        exact wp_ret (bodyPost_ret (results_tmp rfl _ _ _) hd ⟨by rw [e0], KB.out.trans (hbel.mono KB.out.size)⟩)
end Go.Proofs.YtmlpldkgennmkaaDoor
