/- cartularylaw18.VerifyBinds walked. -/
import Derived.Test.YtmlpldkgennmkaaDoorBnd
import Derived.Test.YtmlpldkgennmkaaDoorVu
namespace Go.Proofs.YtmlpldkgennmkaaDoor
set_option maxRecDepth 100000
open Go.RowKit
theorem incl_cases (A : Nat → Addr) (i s : Nat) (leaf : List UInt8) (ps : List (List UInt8)) (root : List UInt8) : (∃ k, inclV A i s leaf ps root = errVal A k) ∨
    (inclV A i s leaf ps root = .nilIface ∧ i < s ∧ s ≤ 9223372036854775808 ∧ ps.length = (hdirs i s).length ∧ climb nd leaf (hdirs i s) ps = root) := by
  unfold inclV
  by_cases h1 : 9223372036854775808 < s ∨ s ≤ i
  · rw [if_pos h1]; exact .inl ⟨_, rfl⟩
  · rw [if_neg h1]
    by_cases h2 : ps.length = (hdirs i s).length
    · rw [if_pos h2]
      by_cases h3 : climb nd leaf (hdirs i s) ps = root
      · rw [if_pos h3]; exact .inr ⟨rfl, by omega, by omega, h2, h3⟩
      · rw [if_neg h3]; exact .inl ⟨_, rfl⟩
    · rw [if_neg h2]; exact .inl ⟨_, rfl⟩
def VBi12 (g8 c8 L : Nat) (ax ay root : List UInt8) (oi : Nat) (v : Value) (own : Nat → Option Nat) (w : World) : Prop :=
  match oi with
  | 0 => v = .slice (some ⟨g8, 0, none⟩) L c8
  | 1 => v = .slice (some ⟨g8, 0, none⟩) L c8
  | 2 => v = .int .i64 (L : Int)
  | 3 => v = .int .i64 ((L - 1 : Nat) : Int)
  | 4 => v = .pointer (some ⟨g8, (L - 1) * 64, none⟩)
  | 5 => v = .pointer (some ⟨g8, (L - 1) * 64, none⟩)
  | 6 => v = .agg (ocells (ax))
  | 7 => v = .slice (some ⟨g8, 0, none⟩) L c8
  | 8 => v = .slice (some ⟨g8, 0, none⟩) L c8
  | 9 => v = .int .i64 (L : Int)
  | 10 => v = .int .i64 ((L - 1 : Nat) : Int)
  | 11 => v = .pointer (some ⟨g8, (L - 1) * 64, none⟩)
  | 12 => v = .pointer (some ⟨g8, (L - 1) * 64 + 32, none⟩)
  | 13 => v = .agg (ocells (ay))
  | 14 => v = .agg (ocells (root))
  | 15 => AllocV own w v 16 24 32
  | 16 => StoredV own w 16 24 (ocells root)
  | _ => True
def VBi12mk : Nat → Option Nat := fun j => match j with | 16 => some 15 | _ => none
theorem VBi12_mono (g8 c8 L : Nat) (ax ay root : List UInt8) (oi oj : Nat) (v : Value) (own : Nat → Option Nat) (w : World) (own' : Nat → Option Nat) (w' : World) (hij : oi ≠ oj)  (h : VBi12 g8 c8 L ax ay root oj v own w) (r : Rel VBi12mk oi own w own' w') : VBi12 g8 c8 L ax ay root oj v own' w' := by
  unfold VBi12 at h ⊢
  split at h
  · exact h
  · exact h
  · exact h
  · exact h
  · exact h
  · exact h
  · exact h
  · exact h
  · exact h
  · exact h
  · exact h
  · exact h
  · exact h
  · exact h
  · exact h
  · exact h.stable r rfl hij
  · exact h.stable r hij
  · trivial

def VBi13 (g9 c9 L : Nat) (bx bz root : List UInt8) (oi : Nat) (v : Value) (own : Nat → Option Nat) (w : World) : Prop :=
  match oi with
  | 0 => v = .slice (some ⟨g9, 0, none⟩) L c9
  | 1 => v = .slice (some ⟨g9, 0, none⟩) L c9
  | 2 => v = .int .i64 (L : Int)
  | 3 => v = .int .i64 ((L - 1 : Nat) : Int)
  | 4 => v = .pointer (some ⟨g9, (L - 1) * 64, none⟩)
  | 5 => v = .pointer (some ⟨g9, (L - 1) * 64, none⟩)
  | 6 => v = .agg (ocells (bx))
  | 7 => v = .slice (some ⟨g9, 0, none⟩) L c9
  | 8 => v = .slice (some ⟨g9, 0, none⟩) L c9
  | 9 => v = .int .i64 (L : Int)
  | 10 => v = .int .i64 ((L - 1 : Nat) : Int)
  | 11 => v = .pointer (some ⟨g9, (L - 1) * 64, none⟩)
  | 12 => v = .pointer (some ⟨g9, (L - 1) * 64 + 32, none⟩)
  | 13 => v = .agg (ocells (bz))
  | 14 => v = .agg (ocells (root))
  | 15 => AllocV own w v 16 24 32
  | 16 => StoredV own w 16 24 (ocells root)
  | _ => True
def VBi13mk : Nat → Option Nat := fun j => match j with | 16 => some 15 | _ => none
theorem VBi13_mono (g9 c9 L : Nat) (bx bz root : List UInt8) (oi oj : Nat) (v : Value) (own : Nat → Option Nat) (w : World) (own' : Nat → Option Nat) (w' : World) (hij : oi ≠ oj)  (h : VBi13 g9 c9 L bx bz root oj v own w) (r : Rel VBi13mk oi own w own' w') : VBi13 g9 c9 L bx bz root oj v own' w' := by
  unfold VBi13 at h ⊢
  split at h
  · exact h
  · exact h
  · exact h
  · exact h
  · exact h
  · exact h
  · exact h
  · exact h
  · exact h
  · exact h
  · exact h
  · exact h
  · exact h
  · exact h
  · exact h
  · exact h.stable r rfl hij
  · exact h.stable r hij
  · trivial

set_option maxHeartbeats 6400000 in
theorem binds_any (A : Nat → Addr) (w : World) (i s : Nat) (hi : i < 18446744073709551616) (hs64 : s < 18446744073709551616) (leaf root other : List UInt8) (hl : leaf.length = 32) (hr : root.length = 32) (ho : other.length = 32) (ad : Option Addr) (n cap : Nat) (ps : List (List UInt8)) (hH : Hss w (.slice ad n cap) ps) (ad2 : Option Addr) (n2 cap2 : Nat) (qs : List (List UInt8)) (hQ : Hss w (.slice ad2 n2 cap2) qs) (hT : Hs A w) :
    Calls Tryd.prog 5 #[.agg (pcells i s leaf root (.slice ad n cap)), hv other, .slice ad2 n2 cap2] w fun e w' => e = .returned (.bool true) ∧ Below w.heap.size w w' := by
  have pa := (PathAt.new w i s (.slice ad n cap) hl hr).below (er_al (Below.refl _ _) (.cells (ocells other) 24))
  have oh := HashAt.new (w.alloc (.cells (pcells i s leaf root (.slice ad n cap)) 27)) other ho
  rw [show (w.alloc (.cells (pcells i s leaf root (.slice ad n cap)) 27)).heap.size = w.heap.size + 1 by simp] at oh
  have kb := er_al (er_al (Below.refl w.heap.size w) (.cells (pcells i s leaf root (.slice ad n cap)) 27)) (.cells (ocells other) 24)
  have hn : n = ps.length := by obtain ⟨_, _, e1, _⟩ := hH.len; cases e1; rfl
  have hn2 : n2 = qs.length := by obtain ⟨_, _, e1, _⟩ := hQ.len; cases e1; rfl
  have LL := Bx.mk hl; have RL := Bx.mk hr; have OL := Bx.mk ho; have HT := Bx.mk hT; have HHS := Bx.mk hH; have HQS := Bx.mk hQ; have I64 := Bx.mk hi; have S64 := Bx.mk hs64; have HN := Bx.mk hn; have HN2 := Bx.mk hn2
  clear hl hr ho hT hH hQ hi hs64 hn hn2
  generalize hpc : pcells i s leaf root (.slice ad n cap) = pc at pa oh kb ⊢
  clear hpc
  unfold hv
  go_enter Tryd.func5, Tryd.ntmps5
  go_upto_region 1 with (fail)
  change Code.wp _ _ _ _ ((w.alloc (.cells pc 27)).alloc (.cells (ocells other) 24))
  generalize (w.alloc (.cells pc 27)).alloc (.cells (ocells other) 24) = W at pa oh kb ⊢
  obtain ⟨n4, hn4⟩ : ∃ n4, n4 = w.heap.size + 1 := ⟨_, rfl⟩
  rw [← hn4] at oh ⊢
  obtain ⟨n3, hn3⟩ : ∃ n3, n3 = w.heap.size := ⟨_, rfl⟩
  rw [← hn3] at pa ⊢
  have PA0 := Bx.mk pa; have OH0 := Bx.mk oh; have K0 := Bx.mk kb
  clear pa oh kb hn3 hn4
  have c0 := PA0.out.cell0; have c1 := PA0.out.cell1; have cL := PA0.out.cellL
  have ci := incl_any A W i s I64.out S64.out leaf LL.out ad n cap ps (HHS.out.below K0.out) root RL.out (HT.out.below K0.out)
  rw [hv_agg, hv_agg] at ci
  have CI := Bx.mk ci
  clear ci
  go_wp2_with (first | (guard_target =~ wpList _ _ _ (⟨some 17, _, _, _, _, _⟩ :: _) _ _; refine wpList_load_mid_w (by simp [Region.wanted]) 24 (.tmp 16) rfl n3 2 rfl (bcells leaf) _ PA0.out.leafAt underH rfl (hszB' LL.out) ?_; change wpList _ _ _ _ (Act.put _ _ (.agg (ocells leaf))) _) | (guard_target =~ wpList _ _ _ (⟨some 21, _, _, _, _, _⟩ :: _) _ _; refine wpList_load_mid_w (by simp [Region.wanted]) 24 (.tmp 20) rfl n3 34 rfl (bcells root) _ PA0.out.rootAt underH rfl (hszB' RL.out) ?_; change wpList _ _ _ _ (Act.put _ _ (.agg (ocells root))) _))
  refine CI.out.mono ?_
  rintro e w1 ⟨rfl, hb⟩
  clear CI c0 c1 cL
  have PA1 := Bx.mk (PA0.out.below hb); have OH1 := Bx.mk (OH0.out.below hb); have K1 := Bx.mk (K0.out.trans (hb.mono K0.out.size))
  clear hb PA0 OH0 K0
  rcases incl_cases A i s leaf ps root with ⟨k, hk⟩ | ⟨hk, his, hss, hpl, hcl⟩
  · rw [hk]
    unfold errVal
    go_wp2_with fail
    refine (alive_any A _ (HT.out.below K1.out)).mono ?_
    rintro e wz ⟨rfl, hb⟩
    have KE := Bx.mk (K1.out.trans (hb.mono K1.out.size))
    clear hb
    go_wp2_with fail
    exact bodyPost_ret (results_tmp rfl _ _ _) rfl ⟨rfl, KE.out⟩
  · rw [hk]
    have c0 := PA1.out.cell0; have c1 := PA1.out.cell1; have cL := PA1.out.cellL
    have ci := incl_any A w1 i s I64.out S64.out other OL.out ad2 n2 cap2 qs (HQS.out.below K1.out) root RL.out (HT.out.below K1.out)
    rw [hv_agg, hv_agg] at ci
    have CI := Bx.mk ci
    have HPL := Bx.mk hpl; have HCL := Bx.mk hcl
    clear ci hpl hcl
    go_wp2_with (first | (guard_target =~ wpList _ _ _ (⟨some 29, _, _, _, _, _⟩ :: _) _ _; refine wpList_load_row_w (by simp [Region.wanted, yielded]) 24 (.tmp 4) rfl n4 rfl _ _ _ _ OH1.out.1 underH rfl (hszL OL.out) ?_) | (guard_target =~ wpList _ _ _ (⟨some 32, _, _, _, _, _⟩ :: _) _ _; refine wpList_load_mid_w (by simp [Region.wanted, yielded]) 24 (.tmp 31) rfl n3 34 rfl (bcells root) _ PA1.out.rootAt underH rfl (hszB' RL.out) ?_; change wpList _ _ _ _ (Act.put _ _ (.agg (ocells root))) _))
    refine CI.out.mono ?_
    rintro e w2 ⟨rfl, hb⟩
    clear CI c0 c1 cL
    have PA2 := Bx.mk (PA1.out.below hb); have OH2 := Bx.mk (OH1.out.below hb); have K2 := Bx.mk (K1.out.trans (hb.mono K1.out.size))
    clear hb PA1 OH1 K1
    rcases incl_cases A i s other qs root with ⟨k, hk⟩ | ⟨hk, _, _, hpl2, hcl2⟩
    · rw [hk]
      unfold errVal
      go_wp2_with fail
      refine (alive_any A _ (HT.out.below K2.out)).mono ?_
      rintro e wz ⟨rfl, hb⟩
      have KE := Bx.mk (K2.out.trans (hb.mono K2.out.size))
      clear hb
      go_wp2_with fail
      exact bodyPost_ret (results_tmp rfl _ _ _) rfl ⟨rfl, KE.out⟩
    · rw [hk]
      have HPL2 := Bx.mk hpl2; have HCL2 := Bx.mk hcl2
      have h0 : ¬ (s : Int) = 0 := by omega
      have h1 : (i : Int) < (s : Int) := by omega
      have h2 : ¬ (9223372036854775808 : Int) < (s : Int) := by omega
      have hb0 : ((s : Int) == 0) = false := by simpa using h0
      have hb1 : decide (s ≤ i) = false := decide_eq_false (by omega)
      have hb2 : decide ((9223372036854775808 : Int) < (s : Int)) = false := decide_eq_false (by omega)
      have c0 := PA2.out.cell0; have c1 := PA2.out.cell1; have cL := PA2.out.cellL
      clear hpl2 hcl2 hk
      go_upto_region 5 with (fail)
      clear h0 h1 h2 hb0 hb1 hb2
      have cs := sides_any w2 i s his hss
      have hdl := hdirs_len 63 i s hss
      obtain ⟨D, hD⟩ : ∃ D, D = hdirs i s := ⟨_, rfl⟩
      rw [← hD] at cs hdl HPL HCL HPL2 HCL2
      clear hD his hss
      go_wp2_with fail
      refine cs.mono ?_
      clear cs c0 c1 cL
      rintro e w3 ⟨v7, rfl, hod, hb⟩
      have PA3 := Bx.mk (PA2.out.below hb); have OH3 := Bx.mk (OH2.out.below hb); have K3 := Bx.mk (K2.out.trans (hb.mono K2.out.size))
      clear hb PA2 OH2 K2
      obtain ⟨L, hL⟩ : ∃ L, L = D.length := ⟨_, rfl⟩
      rw [← hL] at hod hdl
      obtain rfl : L = n := by rw [HN.out, HPL.out, hL]
      obtain rfl : L = n2 := by rw [HN2.out, HPL2.out, hL]
      obtain ⟨a7, c7, rfl, q1, q2, q3⟩ := own_shape hod
      have OD0 := Bx.mk hod; have DL := Bx.mk hdl; have HL := Bx.mk hL
      clear hod hdl hL q1 q2 q3
      have c0 := PA3.out.cell0; have c1 := PA3.out.cell1; have cL := PA3.out.cellL
      by_cases h0 : L = 0
      · have hD0 : D = [] := List.length_eq_zero_iff.1 (by rw [← HL.out]; exact h0)
        have e1 : leaf = root := by have h := HCL.out; rw [hD0] at h; exact h
        have e2 : other = root := by have h := HCL2.out; rw [hD0] at h; exact h
        have q1 := fun u => hv_eq u leaf root LL.out RL.out
        have q2 := fun u => hv_eq u other root OL.out RL.out
        rw [show (leaf == root) = true by simp [e1]] at q1
        rw [show (other == root) = true by simp [e2]] at q2
        simp only [hv_agg] at q1 q2
        have h0' : (L : Int) = 0 := by omega
        clear e1 e2 hD0
        go_wp2_with (first | (guard_target =~ wpList _ _ _ (⟨some 74, _, _, _, _, _⟩ :: _) _ _; refine wpList_load_mid_w (by simp [Region.wanted]) 24 (.tmp 73) rfl n3 2 rfl (bcells leaf) _ PA3.out.leafAt underH rfl (hszB' LL.out) ?_; change wpList _ _ _ _ (Act.put _ _ (.agg (ocells leaf))) _) | (guard_target =~ wpList _ _ _ (⟨some 76, _, _, _, _, _⟩ :: _) _ _; refine wpList_load_mid_w (by simp [Region.wanted]) 24 (.tmp 75) rfl n3 34 rfl (bcells root) _ PA3.out.rootAt underH rfl (hszB' RL.out) ?_; change wpList _ _ _ _ (Act.put _ _ (.agg (ocells root))) _) | (guard_target =~ wpList _ _ _ (⟨some 79, _, _, _, _, _⟩ :: _) _ _; refine wpList_load_row_w (by simp [Region.wanted, yielded]) 24 (.tmp 4) rfl n4 rfl _ _ _ _ OH3.out.1 underH rfl (hszL OL.out) ?_) | (guard_target =~ wpList _ _ _ (⟨some 81, _, _, _, _, _⟩ :: _) _ _; refine wpList_load_mid_w (by simp [Region.wanted, yielded]) 24 (.tmp 80) rfl n3 34 rfl (bcells root) _ PA3.out.rootAt underH rfl (hszB' RL.out) ?_; change wpList _ _ _ _ (Act.put _ _ (.agg (ocells root))) _))
        refine (alive_any A _ (HT.out.below K3.out)).mono ?_
        rintro e wz ⟨rfl, hb⟩
        have KE := Bx.mk (K3.out.trans (hb.mono K3.out.size))
        clear hb
        go_wp2_with fail
        exact bodyPost_ret (results_tmp rfl _ _ _) rfl ⟨rfl, KE.out⟩
      · have h0' : ¬ (L : Int) = 0 := by omega
        have LP := Bx.mk (show 1 ≤ L by omega)
        have cc := climbs_any w3 leaf LL.out ad L cap ps (HHS.out.below K3.out) _ D w2.heap.size (by rw [← HL.out]; exact OD0.out) HPL.out.symm (by have := DL.out; rw [HPL.out, ← HL.out]; omega) (HT.out.below K3.out).tab
        rw [← HL.out, hv_agg] at cc
        have CC := Bx.mk cc
        clear cc
        go_wp2_with (first | (guard_target =~ wpList _ _ _ (⟨some 88, _, _, _, _, _⟩ :: _) _ _; refine wpList_load_mid_w (by simp [Region.wanted]) 24 (.tmp 87) rfl n3 2 rfl (bcells leaf) _ PA3.out.leafAt underH rfl (hszB' LL.out) ?_; change wpList _ _ _ _ (Act.put _ _ (.agg (ocells leaf))) _))
        refine CC.out.mono ?_
        clear CC c0 c1 cL
        rintro e w4 ⟨v8, rfl, hra, hb⟩
        have PA4 := Bx.mk (PA3.out.below hb); have OH4 := Bx.mk (OH3.out.below hb); have K4 := Bx.mk (K3.out.trans (hb.mono K3.out.size)); have OD1 := Bx.mk (own_keep OD0.out (Keep.of_below hb (fun _ => False)) (fun _ _ h => h))
        clear hb PA3 OH3 K3 OD0
        have RA0 := Bx.mk hra
        clear hra
        have cc := climbs_any w4 other OL.out ad2 L cap2 qs (HQS.out.below K4.out) _ D w2.heap.size (by rw [← HL.out]; exact OD1.out) HPL2.out.symm (by have := DL.out; rw [HPL2.out, ← HL.out]; omega) (HT.out.below K4.out).tab
        rw [← HL.out, hv_agg] at cc
        have CC := Bx.mk cc
        clear cc
        go_wp2_with (first | (guard_target =~ wpList _ _ _ (⟨some 93, _, _, _, _, _⟩ :: _) _ _; refine wpList_load_row_w (by simp [Region.wanted]) 24 (.tmp 4) rfl n4 rfl _ _ _ _ OH4.out.1 underH rfl (hszL OL.out) ?_))
        refine CC.out.mono ?_
        clear CC
        rintro e w5 ⟨v9, rfl, hrb, hb⟩
        have PA5 := Bx.mk (PA4.out.below hb); have OH5 := Bx.mk (OH4.out.below hb); have K5 := Bx.mk (K4.out.trans (hb.mono K4.out.size)); have OD2 := Bx.mk (own_keep OD1.out (Keep.of_below hb (fun _ => False)) (fun _ _ h => h)); have RA1 := Bx.mk (own_keep RA0.out (Keep.of_below hb (fun _ => False)) (fun _ _ h => h))
        clear hb PA4 OH4 K4 OD1 RA0
        have RB0 := Bx.mk hrb
        clear hrb
        have k1 := climbsP_32 D leaf ps LL.out HHS.out.1
        have k2 := climbsP_32 D other qs OL.out HQS.out.1
        have z1 := climbsP_length nd leaf D ps HPL.out.symm
        have z2 := climbsP_length nd other D qs HPL2.out.symm
        have y1 := fun (h : L - 1 < (climbsP nd leaf D ps).length) => climbsP_last nd D leaf ps (L - 1) h HPL.out.symm (by have := LP.out; rw [← HL.out]; omega)
        have y2 := fun (h : L - 1 < (climbsP nd other D qs).length) => climbsP_last nd D other qs (L - 1) h HPL2.out.symm (by have := LP.out; rw [← HL.out]; omega)
        rw [HCL.out] at y1
        rw [HCL2.out] at y2
        rw [← HL.out] at z1 z2
        have hbk : ¬ (leaf = other ∧ ps = qs) → brokenB (climbsP nd leaf D ps) (climbsP nd other D qs) = true := fun hn => by
          rcases binds_plain nd D leaf other ps qs HPL.out.symm HPL2.out.symm (HCL.out.trans HCL2.out.symm) with h | h
          · exact absurd h hn
          · exact brokenB_of h
        have HBK := Bx.mk hbk
        clear hbk
        generalize climbsP nd leaf D ps = la at RA1 k1 z1 y1 HBK
        generalize climbsP nd other D qs = lb at RB0 k2 z2 y2 HBK
        have hi1 : L - 1 < la.length := by have := LP.out; omega
        have hi2 : L - 1 < lb.length := by have := LP.out; omega
        obtain ⟨g8, c8, e, _, hg8, hzz1, ra1, ra2⟩ := pairs_at RA1.out k1 z1.symm (L - 1) hi1
        subst e
        obtain ⟨g9, c9, e, _, hg9, hzz2, rb1, rb2⟩ := pairs_at RB0.out k2 z2.symm (L - 1) hi2
        subst e
        clear hzz1 hzz2
        have p1 := k1 _ (List.getElem_mem hi1)
        have p2 := k2 _ (List.getElem_mem hi2)
        have y1 := y1 hi1
        have y2 := y2 hi2
        generalize la[L - 1] = pa at ra1 ra2 p1 y1
        generalize lb[L - 1] = pb at rb1 rb2 p2 y2
        obtain ⟨ax, ay⟩ := pa
        obtain ⟨bx, bz⟩ := pb
        simp only at ra1 ra2 p1 y1 rb1 rb2 p2 y2
        have AXL := Bx.mk p1.1; have AYL := Bx.mk p1.2; have BXL := Bx.mk p2.1; have BZL := Bx.mk p2.2; have ND12 := Bx.mk y1; have ND13 := Bx.mk y2
        have LB := Bx.mk (show 1 ≤ L ∧ L ≤ 63 from ⟨LP.out, DL.out⟩)
        have K1' := Bx.mk k1; have K2' := Bx.mk k2; have ZL1 := Bx.mk z1; have ZL2 := Bx.mk z2
        have Rax := Bx.mk (fun u (hu : Below w5.heap.size w5 u) => rangeAt_below ra1 hg8 hu)
        have Ray := Bx.mk (fun u (hu : Below w5.heap.size w5 u) => rangeAt_below ra2 hg8 hu)
        have SB1 := Bx.mk rb1; have SB2 := Bx.mk rb2; have SBL := Bx.mk hg9
        have KQ12 := K5
        clear k1 k2 z1 z2 y1 y2 hi1 hi2 p1 p2 ra1 ra2 rb1 rb2 hg8 hg9
        go_upto_region 12 with (fail)
        refine wp_region_own4 (n := 155) VBi12mk (fun _ => none) (VBi12 g8 c8 L ax ay root) (by kernel_rfl) (by kernel_rfl) rfl (fun _ _ => rfl) (fun _ _ _ _ h => by cases h) ?_ ?_ ?_
        · exact fun oi oj v own w own' w' hij _ h r => VBi12_mono g8 c8 L ax ay root oi oj v own w own' w' hij h r
        · intro oi o hi f u own hsame hsn hfr hlate hkeep hdep
          have hb6 := hsn.below (B := w5.heap.size) (fun _ _ => rfl) (Nat.le_refl _)
          match oi, hi with
          | 0, hi =>
            cases (show some _ = some o from hi)
            have e8 : f.tmps.getD 8 undef = .slice (some ⟨g8, 0, none⟩) L c8 := hsame.slot 8 (fun i o h => invB2_not 8 (by kernel_rfl) h)
            clear hdep hsame hi hlate hfr hkeep
            exact .inl ⟨wanted_none rfl, showsO_move hsn rfl _ rfl e8⟩
          | 1, hi =>
            cases (show some _ = some o from hi)
            have e8 : f.tmps.getD 8 undef = .slice (some ⟨g8, 0, none⟩) L c8 := hsame.slot 8 (fun i o h => invB2_not 8 (by kernel_rfl) h)
            clear hdep hsame hi hlate hfr hkeep
            exact .inl ⟨wanted_none rfl, showsO_move hsn rfl _ rfl e8⟩
          | 2, hi =>
            cases (show some _ = some o from hi)
            have e98 : (f.tmps.getD 98 undef) = .slice (some ⟨g8, 0, none⟩) L c8 := depO (V := (VBi12 g8 c8 L ax ay root)) hdep 1 98 (by kernel_rfl) (by kernel_rfl)
            clear hdep hsame hi hlate hfr hkeep
            exact .inl ⟨wanted_none rfl, showsO_pure hsn rfl (.int .i64 (L : Int)) (by simp only [execOp, Act.eval]; go_simp) rfl⟩
          | 3, hi =>
            cases (show some _ = some o from hi)
            have e99 : (f.tmps.getD 99 undef) = .int .i64 (L : Int) := depO (V := (VBi12 g8 c8 L ax ay root)) hdep 2 99 (by kernel_rfl) (by kernel_rfl)
            clear hdep hsame hi hlate hfr hkeep
            have hl := LB.out
            exact .inl ⟨wanted_none rfl, showsO_pure hsn rfl (.int .i64 ((L - 1 : Nat) : Int)) (by simp only [execOp, Act.eval]; go_simp; simp [IntKind.wrap, IntKind.bits, IntKind.signed]; omega) rfl⟩
          | 4, hi =>
            cases (show some _ = some o from hi)
            have e97 : (f.tmps.getD 97 undef) = .slice (some ⟨g8, 0, none⟩) L c8 := depO (V := (VBi12 g8 c8 L ax ay root)) hdep 0 97 (by kernel_rfl) (by kernel_rfl)
            have e100 : (f.tmps.getD 100 undef) = .int .i64 ((L - 1 : Nat) : Int) := depO (V := (VBi12 g8 c8 L ax ay root)) hdep 3 100 (by kernel_rfl) (by kernel_rfl)
            clear hdep hsame hi hlate hfr hkeep
            have hl := LB.out
            have hl2 : ¬ L ≤ L - 1 := by omega
            exact .inl ⟨wanted_none rfl, showsO_pure hsn rfl (.pointer (some ⟨g8, (L - 1) * 64, none⟩)) (by simp only [execOp, Act.eval]; go_simp) rfl⟩
          | 5, hi =>
            cases (show some _ = some o from hi)
            have e101 : (f.tmps.getD 101 undef) = .pointer (some ⟨g8, (L - 1) * 64, none⟩) := depO (V := (VBi12 g8 c8 L ax ay root)) hdep 4 101 (by kernel_rfl) (by kernel_rfl)
            clear hdep hsame hi hlate hfr hkeep
            exact .inl ⟨wanted_none rfl, showsO_pure hsn rfl (.pointer (some ⟨g8, (L - 1) * 64, none⟩)) (by simp only [execOp, Act.eval]; go_simp) rfl⟩
          | 6, hi =>
            cases (show some _ = some o from hi)
            have e102 : (f.tmps.getD 102 undef) = .pointer (some ⟨g8, (L - 1) * 64, none⟩) := depO (V := (VBi12 g8 c8 L ax ay root)) hdep 5 102 (by kernel_rfl) (by kernel_rfl)
            clear hdep hsame hi hlate hfr hkeep
            exact .inl ⟨wanted_none rfl, showsO_mid hsn rfl 24 (.tmp 102) rfl g8 ((L - 1) * 64) e102 (bcells ax) (Rax.out u hb6) underH rfl (hszB' AXL.out) rfl⟩
          | 7, hi =>
            cases (show some _ = some o from hi)
            have e8 : f.tmps.getD 8 undef = .slice (some ⟨g8, 0, none⟩) L c8 := hsame.slot 8 (fun i o h => invB2_not 8 (by kernel_rfl) h)
            clear hdep hsame hi hlate hfr hkeep
            exact .inl ⟨wanted_none rfl, showsO_move hsn rfl _ rfl e8⟩
          | 8, hi =>
            cases (show some _ = some o from hi)
            have e8 : f.tmps.getD 8 undef = .slice (some ⟨g8, 0, none⟩) L c8 := hsame.slot 8 (fun i o h => invB2_not 8 (by kernel_rfl) h)
            clear hdep hsame hi hlate hfr hkeep
            exact .inl ⟨wanted_none rfl, showsO_move hsn rfl _ rfl e8⟩
          | 9, hi =>
            cases (show some _ = some o from hi)
            have e105 : (f.tmps.getD 105 undef) = .slice (some ⟨g8, 0, none⟩) L c8 := depO (V := (VBi12 g8 c8 L ax ay root)) hdep 8 105 (by kernel_rfl) (by kernel_rfl)
            clear hdep hsame hi hlate hfr hkeep
            exact .inl ⟨wanted_none rfl, showsO_pure hsn rfl (.int .i64 (L : Int)) (by simp only [execOp, Act.eval]; go_simp) rfl⟩
          | 10, hi =>
            cases (show some _ = some o from hi)
            have e106 : (f.tmps.getD 106 undef) = .int .i64 (L : Int) := depO (V := (VBi12 g8 c8 L ax ay root)) hdep 9 106 (by kernel_rfl) (by kernel_rfl)
            clear hdep hsame hi hlate hfr hkeep
            have hl := LB.out
            exact .inl ⟨wanted_none rfl, showsO_pure hsn rfl (.int .i64 ((L - 1 : Nat) : Int)) (by simp only [execOp, Act.eval]; go_simp; simp [IntKind.wrap, IntKind.bits, IntKind.signed]; omega) rfl⟩
          | 11, hi =>
            cases (show some _ = some o from hi)
            have e104 : (f.tmps.getD 104 undef) = .slice (some ⟨g8, 0, none⟩) L c8 := depO (V := (VBi12 g8 c8 L ax ay root)) hdep 7 104 (by kernel_rfl) (by kernel_rfl)
            have e107 : (f.tmps.getD 107 undef) = .int .i64 ((L - 1 : Nat) : Int) := depO (V := (VBi12 g8 c8 L ax ay root)) hdep 10 107 (by kernel_rfl) (by kernel_rfl)
            clear hdep hsame hi hlate hfr hkeep
            have hl := LB.out
            have hl2 : ¬ L ≤ L - 1 := by omega
            exact .inl ⟨wanted_none rfl, showsO_pure hsn rfl (.pointer (some ⟨g8, (L - 1) * 64, none⟩)) (by simp only [execOp, Act.eval]; go_simp) rfl⟩
          | 12, hi =>
            cases (show some _ = some o from hi)
            have e108 : (f.tmps.getD 108 undef) = .pointer (some ⟨g8, (L - 1) * 64, none⟩) := depO (V := (VBi12 g8 c8 L ax ay root)) hdep 11 108 (by kernel_rfl) (by kernel_rfl)
            clear hdep hsame hi hlate hfr hkeep
            exact .inl ⟨wanted_none rfl, showsO_pure hsn rfl (.pointer (some ⟨g8, (L - 1) * 64 + 32, none⟩)) (by simp only [execOp, Act.eval]; go_simp) rfl⟩
          | 13, hi =>
            cases (show some _ = some o from hi)
            have e109 : (f.tmps.getD 109 undef) = .pointer (some ⟨g8, (L - 1) * 64 + 32, none⟩) := depO (V := (VBi12 g8 c8 L ax ay root)) hdep 12 109 (by kernel_rfl) (by kernel_rfl)
            clear hdep hsame hi hlate hfr hkeep
            exact .inl ⟨wanted_none rfl, showsO_mid hsn rfl 24 (.tmp 109) rfl g8 ((L - 1) * 64 + 32) e109 (bcells ay) (Ray.out u hb6) underH rfl (hszB' AYL.out) rfl⟩
          | 14, hi =>
            cases (show some _ = some o from hi)
            have e103 : (f.tmps.getD 103 undef) = .agg (ocells (ax)) := depO (V := (VBi12 g8 c8 L ax ay root)) hdep 6 103 (by kernel_rfl) (by kernel_rfl)
            have e110 : (f.tmps.getD 110 undef) = .agg (ocells (ay)) := depO (V := (VBi12 g8 c8 L ax ay root)) hdep 13 110 (by kernel_rfl) (by kernel_rfl)
            clear hdep hsame hi hlate hfr hkeep
            have c := node_any u ax ay AXL.out AYL.out (HT.out.below (KQ12.out.trans (hb6.mono KQ12.out.size))).tab
            rw [hv_agg, hv_agg, hv_agg, show sha (1 :: (ax ++ ay)) = root from ND12.out] at c
            exact .inl ⟨wanted_none rfl, showsO_call1 hsn rfl 21 #[.agg (ocells (ax)), .agg (ocells (ay))] (by simp only [execOp, Act.eval]; go_simp) (c) (fun _ => rfl)⟩
          | 15, hi =>
            cases (show some _ = some o from hi)
            clear hdep hsame hi hlate hkeep
            exact .inl ⟨wanted_none rfl, showsO_alloc hsn hfr rfl zeros32 24 16 rfl (by simp only [execOp, Act.eval]; go_simp; rfl) (fun h => h)⟩
          | 16, hi =>
            cases (show some _ = some o from hi)
            have e10 : AllocV own u (f.tmps.getD 10 undef) 16 24 32 := depO (V := (VBi12 g8 c8 L ax ay root)) hdep 15 10 (by kernel_rfl) (by kernel_rfl)
            have e111 : (f.tmps.getD 111 undef) = .agg (ocells (root)) := depO (V := (VBi12 g8 c8 L ax ay root)) hdep 14 111 (by kernel_rfl) (by kernel_rfl)
            clear hdep hsame hi hlate hfr hkeep
            exact .inl ⟨wanted_none rfl, showsO_store_alloc hsn rfl 24 (.tmp 10) (.tmp 111) rfl e10 (ocells root) e111 (hszL RL.out) (by rw [ocells_size, RL.out]) (ocells_one _) (fun _ h => h)⟩
          | n + 17, hi => exact absurd hi (by simp)
        · intro f u own hsame hsn hall
          have hb6 := hsn.below (B := w5.heap.size) (fun _ _ => rfl) (Nat.le_refl _)
          have q97 : f.tmps.getD 97 undef = .slice (some ⟨g8, 0, none⟩) L c8 := finO (V := (VBi12 g8 c8 L ax ay root)) hall 0 97 rfl
          have q98 : f.tmps.getD 98 undef = .slice (some ⟨g8, 0, none⟩) L c8 := finO (V := (VBi12 g8 c8 L ax ay root)) hall 1 98 rfl
          have q99 : f.tmps.getD 99 undef = .int .i64 (L : Int) := finO (V := (VBi12 g8 c8 L ax ay root)) hall 2 99 rfl
          have q100 : f.tmps.getD 100 undef = .int .i64 ((L - 1 : Nat) : Int) := finO (V := (VBi12 g8 c8 L ax ay root)) hall 3 100 rfl
          have q101 : f.tmps.getD 101 undef = .pointer (some ⟨g8, (L - 1) * 64, none⟩) := finO (V := (VBi12 g8 c8 L ax ay root)) hall 4 101 rfl
          have q102 : f.tmps.getD 102 undef = .pointer (some ⟨g8, (L - 1) * 64, none⟩) := finO (V := (VBi12 g8 c8 L ax ay root)) hall 5 102 rfl
          have q103 : f.tmps.getD 103 undef = .agg (ocells (ax)) := finO (V := (VBi12 g8 c8 L ax ay root)) hall 6 103 rfl
          have q104 : f.tmps.getD 104 undef = .slice (some ⟨g8, 0, none⟩) L c8 := finO (V := (VBi12 g8 c8 L ax ay root)) hall 7 104 rfl
          have q105 : f.tmps.getD 105 undef = .slice (some ⟨g8, 0, none⟩) L c8 := finO (V := (VBi12 g8 c8 L ax ay root)) hall 8 105 rfl
          have q106 : f.tmps.getD 106 undef = .int .i64 (L : Int) := finO (V := (VBi12 g8 c8 L ax ay root)) hall 9 106 rfl
          have q107 : f.tmps.getD 107 undef = .int .i64 ((L - 1 : Nat) : Int) := finO (V := (VBi12 g8 c8 L ax ay root)) hall 10 107 rfl
          have q108 : f.tmps.getD 108 undef = .pointer (some ⟨g8, (L - 1) * 64, none⟩) := finO (V := (VBi12 g8 c8 L ax ay root)) hall 11 108 rfl
          have q109 : f.tmps.getD 109 undef = .pointer (some ⟨g8, (L - 1) * 64 + 32, none⟩) := finO (V := (VBi12 g8 c8 L ax ay root)) hall 12 109 rfl
          have q110 : f.tmps.getD 110 undef = .agg (ocells (ay)) := finO (V := (VBi12 g8 c8 L ax ay root)) hall 13 110 rfl
          have q111 : f.tmps.getD 111 undef = .agg (ocells (root)) := finO (V := (VBi12 g8 c8 L ax ay root)) hall 14 111 rfl
          obtain ⟨g10, q10, o10, m10⟩ := AllocV.stored (finO (V := (VBi12 g8 c8 L ax ay root)) hall 15 10 rfl) (finN (V := (VBi12 g8 c8 L ax ay root)) hall 16 rfl)
          obtain rfl := frame_eq hsame [(97, .slice (some ⟨g8, 0, none⟩) L c8), (98, .slice (some ⟨g8, 0, none⟩) L c8), (99, .int .i64 (L : Int)), (100, .int .i64 ((L - 1 : Nat) : Int)), (101, .pointer (some ⟨g8, (L - 1) * 64, none⟩)), (102, .pointer (some ⟨g8, (L - 1) * 64, none⟩)), (103, .agg (ocells (ax))), (104, .slice (some ⟨g8, 0, none⟩) L c8), (105, .slice (some ⟨g8, 0, none⟩) L c8), (106, .int .i64 (L : Int)), (107, .int .i64 ((L - 1 : Nat) : Int)), (108, .pointer (some ⟨g8, (L - 1) * 64, none⟩)), (109, .pointer (some ⟨g8, (L - 1) * 64 + 32, none⟩)), (110, .agg (ocells (ay))), (111, .agg (ocells (root))), (10, .pointer (some ⟨g10, 0, none⟩))] (by kernel_rfl) ⟨q97, q98, q99, q100, q101, q102, q103, q104, q105, q106, q107, q108, q109, q110, q111, q10, trivial⟩
          clear hall hsame q97 q98 q99 q100 q101 q102 q103 q104 q105 q106 q107 q108 q109 q110 q111 q10
          simp only [List.foldl, List.setIfInBounds_toArray, List.set_cons_succ, List.set_cons_zero]
          have GX10 := Bx.mk m10
          have PA6 := Bx.mk (PA5.out.below hb6); have OH6 := Bx.mk (OH5.out.below hb6); have K6 := Bx.mk (K5.out.trans (hb6.mono K5.out.size)); have OD3 := Bx.mk (own_keep OD2.out (Keep.of_below hb6 (fun _ => False)) (fun _ _ h => h)); have RA2 := Bx.mk (own_keep RA1.out (Keep.of_below hb6 (fun _ => False)) (fun _ _ h => h)); have RB1 := Bx.mk (own_keep RB0.out (Keep.of_below hb6 (fun _ => False)) (fun _ _ h => h))
          have HB12 := Bx.mk hb6
          clear hb6 hsn o10 m10 PA5 OH5 K5 OD2 RA1 RB0
          have GX100 := GX10
          rename World => w6
          have Rbx := Bx.mk (fun u (hu : Below w6.heap.size w6 u) => rangeAt_below SB1.out SBL.out (HB12.out.trans (hu.mono HB12.out.size)))
          have Rbz := Bx.mk (fun u (hu : Below w6.heap.size w6 u) => rangeAt_below SB2.out SBL.out (HB12.out.trans (hu.mono HB12.out.size)))
          have KQ13 := K6
          go_upto_region 13 with (fail)
          refine wp_region_own4 (n := 155) VBi13mk (fun _ => none) (VBi13 g9 c9 L bx bz root) (by kernel_rfl) (by kernel_rfl) rfl (fun _ _ => rfl) (fun _ _ _ _ h => by cases h) ?_ ?_ ?_
          · exact fun oi oj v own w own' w' hij _ h r => VBi13_mono g9 c9 L bx bz root oi oj v own w own' w' hij h r
          · intro oi o hi f u own hsame hsn hfr hlate hkeep hdep
            have hb6 := hsn.below (B := w6.heap.size) (fun _ _ => rfl) (Nat.le_refl _)
            match oi, hi with
            | 0, hi =>
              cases (show some _ = some o from hi)
              have e9 : f.tmps.getD 9 undef = .slice (some ⟨g9, 0, none⟩) L c9 := hsame.slot 9 (fun i o h => invB2_not 9 (by kernel_rfl) h)
              clear hdep hsame hi hlate hfr hkeep
              exact .inl ⟨wanted_none rfl, showsO_move hsn rfl _ rfl e9⟩
            | 1, hi =>
              cases (show some _ = some o from hi)
              have e9 : f.tmps.getD 9 undef = .slice (some ⟨g9, 0, none⟩) L c9 := hsame.slot 9 (fun i o h => invB2_not 9 (by kernel_rfl) h)
              clear hdep hsame hi hlate hfr hkeep
              exact .inl ⟨wanted_none rfl, showsO_move hsn rfl _ rfl e9⟩
            | 2, hi =>
              cases (show some _ = some o from hi)
              have e113 : (f.tmps.getD 113 undef) = .slice (some ⟨g9, 0, none⟩) L c9 := depO (V := (VBi13 g9 c9 L bx bz root)) hdep 1 113 (by kernel_rfl) (by kernel_rfl)
              clear hdep hsame hi hlate hfr hkeep
              exact .inl ⟨wanted_none rfl, showsO_pure hsn rfl (.int .i64 (L : Int)) (by simp only [execOp, Act.eval]; go_simp) rfl⟩
            | 3, hi =>
              cases (show some _ = some o from hi)
              have e114 : (f.tmps.getD 114 undef) = .int .i64 (L : Int) := depO (V := (VBi13 g9 c9 L bx bz root)) hdep 2 114 (by kernel_rfl) (by kernel_rfl)
              clear hdep hsame hi hlate hfr hkeep
              have hl := LB.out
              exact .inl ⟨wanted_none rfl, showsO_pure hsn rfl (.int .i64 ((L - 1 : Nat) : Int)) (by simp only [execOp, Act.eval]; go_simp; simp [IntKind.wrap, IntKind.bits, IntKind.signed]; omega) rfl⟩
            | 4, hi =>
              cases (show some _ = some o from hi)
              have e112 : (f.tmps.getD 112 undef) = .slice (some ⟨g9, 0, none⟩) L c9 := depO (V := (VBi13 g9 c9 L bx bz root)) hdep 0 112 (by kernel_rfl) (by kernel_rfl)
              have e115 : (f.tmps.getD 115 undef) = .int .i64 ((L - 1 : Nat) : Int) := depO (V := (VBi13 g9 c9 L bx bz root)) hdep 3 115 (by kernel_rfl) (by kernel_rfl)
              clear hdep hsame hi hlate hfr hkeep
              have hl := LB.out
              have hl2 : ¬ L ≤ L - 1 := by omega
              exact .inl ⟨wanted_none rfl, showsO_pure hsn rfl (.pointer (some ⟨g9, (L - 1) * 64, none⟩)) (by simp only [execOp, Act.eval]; go_simp) rfl⟩
            | 5, hi =>
              cases (show some _ = some o from hi)
              have e116 : (f.tmps.getD 116 undef) = .pointer (some ⟨g9, (L - 1) * 64, none⟩) := depO (V := (VBi13 g9 c9 L bx bz root)) hdep 4 116 (by kernel_rfl) (by kernel_rfl)
              clear hdep hsame hi hlate hfr hkeep
              exact .inl ⟨wanted_none rfl, showsO_pure hsn rfl (.pointer (some ⟨g9, (L - 1) * 64, none⟩)) (by simp only [execOp, Act.eval]; go_simp) rfl⟩
            | 6, hi =>
              cases (show some _ = some o from hi)
              have e117 : (f.tmps.getD 117 undef) = .pointer (some ⟨g9, (L - 1) * 64, none⟩) := depO (V := (VBi13 g9 c9 L bx bz root)) hdep 5 117 (by kernel_rfl) (by kernel_rfl)
              clear hdep hsame hi hlate hfr hkeep
              exact .inl ⟨wanted_none rfl, showsO_mid hsn rfl 24 (.tmp 117) rfl g9 ((L - 1) * 64) e117 (bcells bx) (Rbx.out u hb6) underH rfl (hszB' BXL.out) rfl⟩
            | 7, hi =>
              cases (show some _ = some o from hi)
              have e9 : f.tmps.getD 9 undef = .slice (some ⟨g9, 0, none⟩) L c9 := hsame.slot 9 (fun i o h => invB2_not 9 (by kernel_rfl) h)
              clear hdep hsame hi hlate hfr hkeep
              exact .inl ⟨wanted_none rfl, showsO_move hsn rfl _ rfl e9⟩
            | 8, hi =>
              cases (show some _ = some o from hi)
              have e9 : f.tmps.getD 9 undef = .slice (some ⟨g9, 0, none⟩) L c9 := hsame.slot 9 (fun i o h => invB2_not 9 (by kernel_rfl) h)
              clear hdep hsame hi hlate hfr hkeep
              exact .inl ⟨wanted_none rfl, showsO_move hsn rfl _ rfl e9⟩
            | 9, hi =>
              cases (show some _ = some o from hi)
              have e120 : (f.tmps.getD 120 undef) = .slice (some ⟨g9, 0, none⟩) L c9 := depO (V := (VBi13 g9 c9 L bx bz root)) hdep 8 120 (by kernel_rfl) (by kernel_rfl)
              clear hdep hsame hi hlate hfr hkeep
              exact .inl ⟨wanted_none rfl, showsO_pure hsn rfl (.int .i64 (L : Int)) (by simp only [execOp, Act.eval]; go_simp) rfl⟩
            | 10, hi =>
              cases (show some _ = some o from hi)
              have e121 : (f.tmps.getD 121 undef) = .int .i64 (L : Int) := depO (V := (VBi13 g9 c9 L bx bz root)) hdep 9 121 (by kernel_rfl) (by kernel_rfl)
              clear hdep hsame hi hlate hfr hkeep
              have hl := LB.out
              exact .inl ⟨wanted_none rfl, showsO_pure hsn rfl (.int .i64 ((L - 1 : Nat) : Int)) (by simp only [execOp, Act.eval]; go_simp; simp [IntKind.wrap, IntKind.bits, IntKind.signed]; omega) rfl⟩
            | 11, hi =>
              cases (show some _ = some o from hi)
              have e119 : (f.tmps.getD 119 undef) = .slice (some ⟨g9, 0, none⟩) L c9 := depO (V := (VBi13 g9 c9 L bx bz root)) hdep 7 119 (by kernel_rfl) (by kernel_rfl)
              have e122 : (f.tmps.getD 122 undef) = .int .i64 ((L - 1 : Nat) : Int) := depO (V := (VBi13 g9 c9 L bx bz root)) hdep 10 122 (by kernel_rfl) (by kernel_rfl)
              clear hdep hsame hi hlate hfr hkeep
              have hl := LB.out
              have hl2 : ¬ L ≤ L - 1 := by omega
              exact .inl ⟨wanted_none rfl, showsO_pure hsn rfl (.pointer (some ⟨g9, (L - 1) * 64, none⟩)) (by simp only [execOp, Act.eval]; go_simp) rfl⟩
            | 12, hi =>
              cases (show some _ = some o from hi)
              have e123 : (f.tmps.getD 123 undef) = .pointer (some ⟨g9, (L - 1) * 64, none⟩) := depO (V := (VBi13 g9 c9 L bx bz root)) hdep 11 123 (by kernel_rfl) (by kernel_rfl)
              clear hdep hsame hi hlate hfr hkeep
              exact .inl ⟨wanted_none rfl, showsO_pure hsn rfl (.pointer (some ⟨g9, (L - 1) * 64 + 32, none⟩)) (by simp only [execOp, Act.eval]; go_simp) rfl⟩
            | 13, hi =>
              cases (show some _ = some o from hi)
              have e124 : (f.tmps.getD 124 undef) = .pointer (some ⟨g9, (L - 1) * 64 + 32, none⟩) := depO (V := (VBi13 g9 c9 L bx bz root)) hdep 12 124 (by kernel_rfl) (by kernel_rfl)
              clear hdep hsame hi hlate hfr hkeep
              exact .inl ⟨wanted_none rfl, showsO_mid hsn rfl 24 (.tmp 124) rfl g9 ((L - 1) * 64 + 32) e124 (bcells bz) (Rbz.out u hb6) underH rfl (hszB' BZL.out) rfl⟩
            | 14, hi =>
              cases (show some _ = some o from hi)
              have e118 : (f.tmps.getD 118 undef) = .agg (ocells (bx)) := depO (V := (VBi13 g9 c9 L bx bz root)) hdep 6 118 (by kernel_rfl) (by kernel_rfl)
              have e125 : (f.tmps.getD 125 undef) = .agg (ocells (bz)) := depO (V := (VBi13 g9 c9 L bx bz root)) hdep 13 125 (by kernel_rfl) (by kernel_rfl)
              clear hdep hsame hi hlate hfr hkeep
              have c := node_any u bx bz BXL.out BZL.out (HT.out.below (KQ13.out.trans (hb6.mono KQ13.out.size))).tab
              rw [hv_agg, hv_agg, hv_agg, show sha (1 :: (bx ++ bz)) = root from ND13.out] at c
              exact .inl ⟨wanted_none rfl, showsO_call1 hsn rfl 21 #[.agg (ocells (bx)), .agg (ocells (bz))] (by simp only [execOp, Act.eval]; go_simp) (c) (fun _ => rfl)⟩
            | 15, hi =>
              cases (show some _ = some o from hi)
              clear hdep hsame hi hlate hkeep
              exact .inl ⟨wanted_none rfl, showsO_alloc hsn hfr rfl zeros32 24 16 rfl (by simp only [execOp, Act.eval]; go_simp; rfl) (fun h => h)⟩
            | 16, hi =>
              cases (show some _ = some o from hi)
              have e11 : AllocV own u (f.tmps.getD 11 undef) 16 24 32 := depO (V := (VBi13 g9 c9 L bx bz root)) hdep 15 11 (by kernel_rfl) (by kernel_rfl)
              have e126 : (f.tmps.getD 126 undef) = .agg (ocells (root)) := depO (V := (VBi13 g9 c9 L bx bz root)) hdep 14 126 (by kernel_rfl) (by kernel_rfl)
              clear hdep hsame hi hlate hfr hkeep
              exact .inl ⟨wanted_none rfl, showsO_store_alloc hsn rfl 24 (.tmp 11) (.tmp 126) rfl e11 (ocells root) e126 (hszL RL.out) (by rw [ocells_size, RL.out]) (ocells_one _) (fun _ h => h)⟩
            | n + 17, hi => exact absurd hi (by simp)
          · intro f u own hsame hsn hall
            have hb6 := hsn.below (B := w6.heap.size) (fun _ _ => rfl) (Nat.le_refl _)
            have q112 : f.tmps.getD 112 undef = .slice (some ⟨g9, 0, none⟩) L c9 := finO (V := (VBi13 g9 c9 L bx bz root)) hall 0 112 rfl
            have q113 : f.tmps.getD 113 undef = .slice (some ⟨g9, 0, none⟩) L c9 := finO (V := (VBi13 g9 c9 L bx bz root)) hall 1 113 rfl
            have q114 : f.tmps.getD 114 undef = .int .i64 (L : Int) := finO (V := (VBi13 g9 c9 L bx bz root)) hall 2 114 rfl
            have q115 : f.tmps.getD 115 undef = .int .i64 ((L - 1 : Nat) : Int) := finO (V := (VBi13 g9 c9 L bx bz root)) hall 3 115 rfl
            have q116 : f.tmps.getD 116 undef = .pointer (some ⟨g9, (L - 1) * 64, none⟩) := finO (V := (VBi13 g9 c9 L bx bz root)) hall 4 116 rfl
            have q117 : f.tmps.getD 117 undef = .pointer (some ⟨g9, (L - 1) * 64, none⟩) := finO (V := (VBi13 g9 c9 L bx bz root)) hall 5 117 rfl
            have q118 : f.tmps.getD 118 undef = .agg (ocells (bx)) := finO (V := (VBi13 g9 c9 L bx bz root)) hall 6 118 rfl
            have q119 : f.tmps.getD 119 undef = .slice (some ⟨g9, 0, none⟩) L c9 := finO (V := (VBi13 g9 c9 L bx bz root)) hall 7 119 rfl
            have q120 : f.tmps.getD 120 undef = .slice (some ⟨g9, 0, none⟩) L c9 := finO (V := (VBi13 g9 c9 L bx bz root)) hall 8 120 rfl
            have q121 : f.tmps.getD 121 undef = .int .i64 (L : Int) := finO (V := (VBi13 g9 c9 L bx bz root)) hall 9 121 rfl
            have q122 : f.tmps.getD 122 undef = .int .i64 ((L - 1 : Nat) : Int) := finO (V := (VBi13 g9 c9 L bx bz root)) hall 10 122 rfl
            have q123 : f.tmps.getD 123 undef = .pointer (some ⟨g9, (L - 1) * 64, none⟩) := finO (V := (VBi13 g9 c9 L bx bz root)) hall 11 123 rfl
            have q124 : f.tmps.getD 124 undef = .pointer (some ⟨g9, (L - 1) * 64 + 32, none⟩) := finO (V := (VBi13 g9 c9 L bx bz root)) hall 12 124 rfl
            have q125 : f.tmps.getD 125 undef = .agg (ocells (bz)) := finO (V := (VBi13 g9 c9 L bx bz root)) hall 13 125 rfl
            have q126 : f.tmps.getD 126 undef = .agg (ocells (root)) := finO (V := (VBi13 g9 c9 L bx bz root)) hall 14 126 rfl
            obtain ⟨g11, q11, o11, m11⟩ := AllocV.stored (finO (V := (VBi13 g9 c9 L bx bz root)) hall 15 11 rfl) (finN (V := (VBi13 g9 c9 L bx bz root)) hall 16 rfl)
            obtain rfl := frame_eq hsame [(112, .slice (some ⟨g9, 0, none⟩) L c9), (113, .slice (some ⟨g9, 0, none⟩) L c9), (114, .int .i64 (L : Int)), (115, .int .i64 ((L - 1 : Nat) : Int)), (116, .pointer (some ⟨g9, (L - 1) * 64, none⟩)), (117, .pointer (some ⟨g9, (L - 1) * 64, none⟩)), (118, .agg (ocells (bx))), (119, .slice (some ⟨g9, 0, none⟩) L c9), (120, .slice (some ⟨g9, 0, none⟩) L c9), (121, .int .i64 (L : Int)), (122, .int .i64 ((L - 1 : Nat) : Int)), (123, .pointer (some ⟨g9, (L - 1) * 64, none⟩)), (124, .pointer (some ⟨g9, (L - 1) * 64 + 32, none⟩)), (125, .agg (ocells (bz))), (126, .agg (ocells (root))), (11, .pointer (some ⟨g11, 0, none⟩))] (by kernel_rfl) ⟨q112, q113, q114, q115, q116, q117, q118, q119, q120, q121, q122, q123, q124, q125, q126, q11, trivial⟩
            clear hall hsame q112 q113 q114 q115 q116 q117 q118 q119 q120 q121 q122 q123 q124 q125 q126 q11
            simp only [List.foldl, List.setIfInBounds_toArray, List.set_cons_succ, List.set_cons_zero]
            have GX11 := Bx.mk m11
            have PA7 := Bx.mk (PA6.out.below hb6); have OH7 := Bx.mk (OH6.out.below hb6); have K7 := Bx.mk (K6.out.trans (hb6.mono K6.out.size)); have OD4 := Bx.mk (own_keep OD3.out (Keep.of_below hb6 (fun _ => False)) (fun _ _ h => h)); have RA3 := Bx.mk (own_keep RA2.out (Keep.of_below hb6 (fun _ => False)) (fun _ _ h => h)); have RB2 := Bx.mk (own_keep RB1.out (Keep.of_below hb6 (fun _ => False)) (fun _ _ h => h)); have GX101 := Bx.mk ((hb6.block _ (Array.getElem?_eq_some_iff.1 GX100.out).1).trans GX100.out)
            have HB13 := Bx.mk hb6
            clear hb6 hsn o11 m11 PA6 OH6 K6 OD3 RA2 RB1 GX100
            have GX110 := GX11
            have c0 := PA7.out.cell0; have c1 := PA7.out.cell1; have cL := PA7.out.cellL
            have q := fun u => hv_neq u root root RL.out RL.out
            simp only [beq_self_eq_true, hv_agg, Bool.not_true] at q
            have ql := fun u => hv_eq u leaf other LL.out OL.out
            simp only [hv_agg] at ql
            go_upto_region 16 with (first | (guard_target =~ wpList _ _ _ (⟨some 127, _, _, _, _, _⟩ :: _) _ _; refine wpList_load_row_w (by simp [Region.wanted]) 24 (.tmp 10) rfl g10 rfl _ _ _ _ GX101.out underH rfl (hszL RL.out) ?_) | (guard_target =~ wpList _ _ _ (⟨some 129, _, _, _, _, _⟩ :: _) _ _; refine wpList_load_mid_w (by simp [Region.wanted]) 24 (.tmp 128) rfl n3 34 rfl (bcells root) _ PA7.out.rootAt underH rfl (hszB' RL.out) ?_; change wpList _ _ _ _ (Act.put _ _ (.agg (ocells root))) _) | (guard_target =~ wpList _ _ _ (⟨some 132, _, _, _, _, _⟩ :: _) _ _; refine wpList_load_row_w (by simp [Region.wanted, yielded]) 24 (.tmp 11) rfl g11 rfl _ _ _ _ GX110.out underH rfl (hszL RL.out) ?_) | (guard_target =~ wpList _ _ _ (⟨some 134, _, _, _, _, _⟩ :: _) _ _; refine wpList_load_mid_w (by simp [Region.wanted, yielded]) 24 (.tmp 133) rfl n3 34 rfl (bcells root) _ PA7.out.rootAt underH rfl (hszB' RL.out) ?_; change wpList _ _ _ _ (Act.put _ _ (.agg (ocells root))) _))
            clear q
            by_cases he : leaf = other
            · rw [show (leaf == other) = true by simp [he]] at ql
              clear he
              go_wp2_with (first | (guard_target =~ wpList _ _ _ (⟨some 138, _, _, _, _, _⟩ :: _) _ _; refine wpList_load_mid_w (by simp [Region.wanted]) 24 (.tmp 137) rfl n3 2 rfl (bcells leaf) _ PA7.out.leafAt underH rfl (hszB' LL.out) ?_; change wpList _ _ _ _ (Act.put _ _ (.agg (ocells leaf))) _) | (guard_target =~ wpList _ _ _ (⟨some 139, _, _, _, _, _⟩ :: _) _ _; refine wpList_load_row_w (by simp [Region.wanted]) 24 (.tmp 4) rfl n4 rfl _ _ _ _ OH7.out.1 underH rfl (hszL OL.out) ?_))
              refine (same_any u ad L cap ps ad2 L cap2 qs (HHS.out.below K7.out) (HQS.out.below K7.out)).mono ?_
              clear c0 c1 cL ql
              rintro e w8 ⟨rfl, hb⟩
              have PA8 := Bx.mk (PA7.out.below hb); have OH8 := Bx.mk (OH7.out.below hb); have K8 := Bx.mk (K7.out.trans (hb.mono K7.out.size)); have OD5 := Bx.mk (own_keep OD4.out (Keep.of_below hb (fun _ => False)) (fun _ _ h => h)); have RA4 := Bx.mk (own_keep RA3.out (Keep.of_below hb (fun _ => False)) (fun _ _ h => h)); have RB3 := Bx.mk (own_keep RB2.out (Keep.of_below hb (fun _ => False)) (fun _ _ h => h)); have GX102 := Bx.mk ((hb.block _ (Array.getElem?_eq_some_iff.1 GX101.out).1).trans GX101.out); have GX111 := Bx.mk ((hb.block _ (Array.getElem?_eq_some_iff.1 GX110.out).1).trans GX110.out)
              clear hb PA7 OH7 K7 OD4 RA3 RB2 GX101 GX110
              by_cases hp : ps = qs
              · rw [show (ps == qs) = true by simp [hp]]
                clear hp
                go_wp2_with fail
                refine (alive_any A _ (HT.out.below K8.out)).mono ?_
                rintro e wz ⟨rfl, hb⟩
                have KE := Bx.mk (K8.out.trans (hb.mono K8.out.size))
                clear hb
                go_wp2_with fail
                exact bodyPost_ret (results_tmp rfl _ _ _) rfl ⟨rfl, KE.out⟩
              · rw [show (ps == qs) = false by simpa using hp]
                have hbk := HBK.out (fun h => hp h.2)
                have cb := broken_any w8 L _ _ _ _ la lb RA4.out RB3.out K1'.out K2'.out ZL1.out.symm ZL2.out.symm (by have := DL.out; omega) (HT.out.below K8.out).tab
                rw [hbk] at cb
                clear hbk hp
                go_wp2_with fail
                refine cb.mono ?_
                clear cb
                rintro e w9 ⟨rfl, hb⟩
                have PA9 := Bx.mk (PA8.out.below hb); have OH9 := Bx.mk (OH8.out.below hb); have K9 := Bx.mk (K8.out.trans (hb.mono K8.out.size)); have OD6 := Bx.mk (own_keep OD5.out (Keep.of_below hb (fun _ => False)) (fun _ _ h => h)); have RA5 := Bx.mk (own_keep RA4.out (Keep.of_below hb (fun _ => False)) (fun _ _ h => h)); have RB4 := Bx.mk (own_keep RB3.out (Keep.of_below hb (fun _ => False)) (fun _ _ h => h)); have GX103 := Bx.mk ((hb.block _ (Array.getElem?_eq_some_iff.1 GX102.out).1).trans GX102.out); have GX112 := Bx.mk ((hb.block _ (Array.getElem?_eq_some_iff.1 GX111.out).1).trans GX111.out)
                clear hb PA8 OH8 K8 OD5 RA4 RB3 GX102 GX111
                go_wp2_with fail
                refine (alive_any A _ (HT.out.below K9.out)).mono ?_
                rintro e wz ⟨rfl, hb⟩
                have KE := Bx.mk (K9.out.trans (hb.mono K9.out.size))
                clear hb
                go_wp2_with fail
                exact bodyPost_ret (results_tmp rfl _ _ _) rfl ⟨rfl, KE.out⟩
            · rw [show (leaf == other) = false by simpa using he] at ql
              have hbk := HBK.out (fun h => he h.1)
              have cb := broken_any u L _ _ _ _ la lb RA3.out RB2.out K1'.out K2'.out ZL1.out.symm ZL2.out.symm (by have := DL.out; omega) (HT.out.below K7.out).tab
              rw [hbk] at cb
              clear hbk he
              go_wp2_with (first | (guard_target =~ wpList _ _ _ (⟨some 138, _, _, _, _, _⟩ :: _) _ _; refine wpList_load_mid_w (by simp [Region.wanted]) 24 (.tmp 137) rfl n3 2 rfl (bcells leaf) _ PA7.out.leafAt underH rfl (hszB' LL.out) ?_; change wpList _ _ _ _ (Act.put _ _ (.agg (ocells leaf))) _) | (guard_target =~ wpList _ _ _ (⟨some 139, _, _, _, _, _⟩ :: _) _ _; refine wpList_load_row_w (by simp [Region.wanted]) 24 (.tmp 4) rfl n4 rfl _ _ _ _ OH7.out.1 underH rfl (hszL OL.out) ?_))
              refine cb.mono ?_
              clear cb c0 c1 cL ql
              rintro e w9 ⟨rfl, hb⟩
              have PA8 := Bx.mk (PA7.out.below hb); have OH8 := Bx.mk (OH7.out.below hb); have K8 := Bx.mk (K7.out.trans (hb.mono K7.out.size)); have OD5 := Bx.mk (own_keep OD4.out (Keep.of_below hb (fun _ => False)) (fun _ _ h => h)); have RA4 := Bx.mk (own_keep RA3.out (Keep.of_below hb (fun _ => False)) (fun _ _ h => h)); have RB3 := Bx.mk (own_keep RB2.out (Keep.of_below hb (fun _ => False)) (fun _ _ h => h)); have GX102 := Bx.mk ((hb.block _ (Array.getElem?_eq_some_iff.1 GX101.out).1).trans GX101.out); have GX111 := Bx.mk ((hb.block _ (Array.getElem?_eq_some_iff.1 GX110.out).1).trans GX110.out)
              clear hb PA7 OH7 K7 OD4 RA3 RB2 GX101 GX110
              go_wp2_with fail
              refine (alive_any A _ (HT.out.below K8.out)).mono ?_
              rintro e wz ⟨rfl, hb⟩
              have KE := Bx.mk (K8.out.trans (hb.mono K8.out.size))
              clear hb
              go_wp2_with fail
              exact bodyPost_ret (results_tmp rfl _ _ _) rfl ⟨rfl, KE.out⟩
end Go.Proofs.YtmlpldkgennmkaaDoor
