/- cartularylaw18.VerifyGrows walked. -/
import Derived.Test.YtmlpldkgennmkaaDoorGrb
namespace Go.Proofs.YtmlpldkgennmkaaDoor
set_option maxRecDepth 100000
open Go.RowKit
theorem wpList_build_prf {ops : Array Oper} {rest : List Oper} {o : Oper} {a : Act} {w : World} {Q : Exit → Act → World → Prop} (hw : Region.wanted o (yielded ops a.tmps) = true) (x0 x1 x2 x3 x4 : Operand) (ho : o.op = .build 45 #[(0, x0), (1, x1), (2, x2), (3, x3), (4, x4)]) (i s : Nat) (x y : List UInt8) (hx : x.length = 32) (hy : y.length = 32) (ad : Option Addr) (n c : Nat)
    (h0 : a.eval x0 = .int .u64 (i : Int)) (h1 : a.eval x1 = .int .u64 (s : Int)) (h2 : a.eval x2 = .agg (ocells x)) (h3 : a.eval x3 = .agg (ocells y)) (h4 : a.eval x4 = .slice ad n c) (h : wpList Tryd.prog ops Q rest (a.put o.dst (.agg (pcells i s x y (.slice ad n c)))) w) : wpList Tryd.prog ops Q (o :: rest) a w :=
  wpList_step fun K hK => by
    have hf : Tryd.prog.built 45 ((#[(0, x0), (1, x1), (2, x2), (3, x3), (4, x4)] : Array (Nat × Operand)).map fun (i, x) => (i, a.eval x)).toList = some (pcells i s x y (.slice ad n c)) := by
      rw [show ((#[(0, x0), (1, x1), (2, x2), (3, x3), (4, x4)] : Array (Nat × Operand)).map fun (i, x) => (i, a.eval x)).toList = [(0, a.eval x0), (1, a.eval x1), (2, a.eval x2), (3, a.eval x3), (4, a.eval x4)] by simp, h0, h1, h2, h3, h4]
      exact built_proof i s x y hx hy ad n c
    rw [if_pos hw]
    refine wp_build _ _ ho (by rw [hf]; rfl) ?_
    rw [hf]
    exact hK _ _ h
theorem prf_size {x y : List UInt8} (hx : x.length = 32) (hy : y.length = 32) (i s : Nat) (v : Value) : (Tryd.prog.info? 45).map (·.size) = some (pcells i s x y v).size := by rw [pcells_size hx hy]; kernel_rfl
theorem prf_one {x y : List UInt8} (i s : Nat) (ad : Option Addr) (n c : Nat) : (pcells i s x y (.slice ad n c)).all (·.oneCell') = true := by
  unfold pcells
  rw [Array.all_append, Array.all_append, Array.all_append, ocells_one, ocells_one]
  simp [Value.oneCell']
def VGs12 (g8 c8 L : Nat) (ax ay after : List UInt8) (oi : Nat) (v : Value) (own : Nat → Option Nat) (w : World) : Prop :=
  match oi with
  | 0 => v = .slice (some ⟨g8, 0, none⟩) L c8
  | 1 => v = .slice (some ⟨g8, 0, none⟩) L c8
  | 2 => v = .int .i64 (L : Int)
  | 3 => v = .int .i64 ((L - 1 : Nat) : Int)
  | 4 => v = .pointer (some ⟨g8, (L - 1) * 64, none⟩)
  | 5 => v = .pointer (some ⟨g8, (L - 1) * 64, none⟩)
  | 6 => v = .agg (ocells (ax))
  | 7 => v = .slice (some ⟨g8, 0, none⟩) L c8
  | 8 => v = .slice (some ⟨g8, 0, none⟩) L c8
  | 9 => v = .int .i64 (L : Int)
  | 10 => v = .int .i64 ((L - 1 : Nat) : Int)
  | 11 => v = .pointer (some ⟨g8, (L - 1) * 64, none⟩)
  | 12 => v = .pointer (some ⟨g8, (L - 1) * 64 + 32, none⟩)
  | 13 => v = .agg (ocells (ay))
  | 14 => v = .agg (ocells (after))
  | 15 => AllocV own w v 16 24 32
  | 16 => StoredV own w 16 24 (ocells after)
  | _ => True
def VGs12mk : Nat → Option Nat := fun j => match j with | 16 => some 15 | _ => none
theorem VGs12_mono (g8 c8 L : Nat) (ax ay after : List UInt8) (oi oj : Nat) (v : Value) (own : Nat → Option Nat) (w : World) (own' : Nat → Option Nat) (w' : World) (hij : oi ≠ oj)  (h : VGs12 g8 c8 L ax ay after oj v own w) (r : Rel VGs12mk oi own w own' w') : VGs12 g8 c8 L ax ay after oj v own' w' := by
  unfold VGs12 at h ⊢
  split at h
  · exact h
  · exact h
  · exact h
  · exact h
  · exact h
  · exact h
  · exact h
  · exact h
  · exact h
  · exact h
  · exact h
  · exact h
  · exact h
  · exact h
  · exact h
  · exact h.stable r rfl hij
  · exact h.stable r hij
  · trivial

def VGs13 (g9 c9 L : Nat) (bx bz after : List UInt8) (oi : Nat) (v : Value) (own : Nat → Option Nat) (w : World) : Prop :=
  match oi with
  | 0 => v = .slice (some ⟨g9, 0, none⟩) L c9
  | 1 => v = .slice (some ⟨g9, 0, none⟩) L c9
  | 2 => v = .int .i64 (L : Int)
  | 3 => v = .int .i64 ((L - 1 : Nat) : Int)
  | 4 => v = .pointer (some ⟨g9, (L - 1) * 64, none⟩)
  | 5 => v = .pointer (some ⟨g9, (L - 1) * 64, none⟩)
  | 6 => v = .agg (ocells (bx))
  | 7 => v = .slice (some ⟨g9, 0, none⟩) L c9
  | 8 => v = .slice (some ⟨g9, 0, none⟩) L c9
  | 9 => v = .int .i64 (L : Int)
  | 10 => v = .int .i64 ((L - 1 : Nat) : Int)
  | 11 => v = .pointer (some ⟨g9, (L - 1) * 64, none⟩)
  | 12 => v = .pointer (some ⟨g9, (L - 1) * 64 + 32, none⟩)
  | 13 => v = .agg (ocells (bz))
  | 14 => v = .agg (ocells (after))
  | 15 => AllocV own w v 16 24 32
  | 16 => StoredV own w 16 24 (ocells after)
  | _ => True
def VGs13mk : Nat → Option Nat := fun j => match j with | 16 => some 15 | _ => none
theorem VGs13_mono (g9 c9 L : Nat) (bx bz after : List UInt8) (oi oj : Nat) (v : Value) (own : Nat → Option Nat) (w : World) (own' : Nat → Option Nat) (w' : World) (hij : oi ≠ oj)  (h : VGs13 g9 c9 L bx bz after oj v own w) (r : Rel VGs13mk oi own w own' w') : VGs13 g9 c9 L bx bz after oj v own' w' := by
  unfold VGs13 at h ⊢
  split at h
  · exact h
  · exact h
  · exact h
  · exact h
  · exact h
  · exact h
  · exact h
  · exact h
  · exact h
  · exact h
  · exact h
  · exact h
  · exact h
  · exact h
  · exact h
  · exact h.stable r rfl hij
  · exact h.stable r hij
  · trivial

set_option maxHeartbeats 12800000 in
theorem grows_any (A : Nat → Addr) (w : World) (o s : Nat) (ho64 : o < 18446744073709551616) (hs64 : s < 18446744073709551616) (before after other : List UInt8) (hl : before.length = 32) (hr : after.length = 32) (ho : other.length = 32) (ad : Option Addr) (n cap : Nat) (ps : List (List UInt8)) (hH : Hss w (.slice ad n cap) ps) (ad2 : Option Addr) (n2 cap2 : Nat) (qs : List (List UInt8)) (hQ : Hss w (.slice ad2 n2 cap2) qs) (hT : Hs A w) :
    Calls Tryd.prog 6 #[.agg (pcells o s before after (.slice ad n cap)), hv other, .slice ad2 n2 cap2] w fun e w' => e = .returned (.bool true) ∧ Below w.heap.size w w' := by
  have pa := (PrfAt.new w o s (.slice ad n cap) hl hr).below (er_al (Below.refl _ _) (.cells (ocells other) 24))
  have oh := HashAt.new (w.alloc (.cells (pcells o s before after (.slice ad n cap)) 45)) other ho
  rw [show (w.alloc (.cells (pcells o s before after (.slice ad n cap)) 45)).heap.size = w.heap.size + 1 by simp] at oh
  have kb := er_al (er_al (Below.refl w.heap.size w) (.cells (pcells o s before after (.slice ad n cap)) 45)) (.cells (ocells other) 24)
  have hn : n = ps.length := by obtain ⟨_, _, e1, _⟩ := hH.len; cases e1; rfl
  have hn2 : n2 = qs.length := by obtain ⟨_, _, e1, _⟩ := hQ.len; cases e1; rfl
  have LL := Bx.mk hl; have RL := Bx.mk hr; have OL := Bx.mk ho; have HT := Bx.mk hT; have HHS := Bx.mk hH; have HQS := Bx.mk hQ; have I64 := Bx.mk ho64; have S64 := Bx.mk hs64; have HN := Bx.mk hn; have HN2 := Bx.mk hn2
  clear hl hr ho hT hH hQ ho64 hs64 hn hn2
  obtain ⟨pc, hpc⟩ : ∃ pc, pc = pcells o s before after (.slice ad n cap) := ⟨_, rfl⟩
  rw [← hpc] at pa oh kb ⊢
  have HPC := Bx.mk hpc
  clear hpc
  unfold hv
  go_enter Tryd.func6, Tryd.ntmps6
  go_upto_region 1 with (fail)
  change Code.wp _ _ _ _ ((w.alloc (.cells pc 45)).alloc (.cells (ocells other) 24))
  generalize (w.alloc (.cells pc 45)).alloc (.cells (ocells other) 24) = W at pa oh kb ⊢
  obtain ⟨n4, hn4⟩ : ∃ n4, n4 = w.heap.size + 1 := ⟨_, rfl⟩
  rw [← hn4] at oh ⊢
  obtain ⟨n3, hn3⟩ : ∃ n3, n3 = w.heap.size := ⟨_, rfl⟩
  rw [← hn3] at pa ⊢
  have PA0 := Bx.mk pa; have OH0 := Bx.mk oh; have K0 := Bx.mk kb
  clear pa oh kb hn3 hn4
  have c0 := PA0.out.cell0; have c1 := PA0.out.cell1
  go_upto_region 2 with (first | (guard_target =~ wpList _ _ _ (⟨some 21, _, _, _, _, _⟩ :: _) _ _; refine wpList_load_row_w (by simp [Region.wanted]) 24 (.tmp 4) rfl n4 rfl _ _ _ _ OH0.out.1 underH rfl (hszL OL.out) ?_) | (guard_target =~ wpList _ _ _ (⟨some 23, _, _, _, _, _⟩ :: _) _ _; refine wpList_load_mid_w (by simp [Region.wanted]) 24 (.tmp 22) rfl n3 34 rfl (bcells after) _ PA0.out.rootAt underH rfl (hszB' RL.out) ?_; change wpList _ _ _ _ (Act.put _ _ (.agg (ocells after))) _) | (guard_target =~ wpList _ _ _ (⟨some 25, _, _, _, _, _⟩ :: _) _ _; refine wpList_build_prf rfl (.tmp 18) (.tmp 20) (.tmp 21) (.tmp 23) (.tmp 24) rfl o s other after OL.out RL.out ad2 n2 cap2 rfl rfl rfl rfl rfl ?_) | (guard_target =~ wpList _ _ _ (⟨none, _, _, _, _, _⟩ :: _) _ _; refine wpList_store_row rfl 45 (.tmp 7) (.tmp 25) rfl W.heap.size (pcells o s other after (.slice ad2 n2 cap2)) rfl rfl _ _ (heap_alloc_new _ _) (prf_size OL.out RL.out _ _ _) (by rw [pcells_size OL.out RL.out]; rfl) (prf_one _ _ _ _ _) ?_; rw [setRow_alloc_new _ _ _ _ _ rfl]))
  have pb := PrfAt.new W o s (.slice ad2 n2 cap2) OL.out RL.out
  have hb := er_al (Below.refl W.heap.size W) (.cells (pcells o s other after (.slice ad2 n2 cap2)) 45)
  obtain ⟨pd, hpd⟩ : ∃ pd, pd = pcells o s other after (.slice ad2 n2 cap2) := ⟨_, rfl⟩
  rw [← hpd] at pb hb ⊢
  have HPD := Bx.mk hpd
  clear hpd c0 c1
  generalize W.alloc (.cells pd 45) = W2 at pb hb ⊢
  obtain ⟨n7, hn7⟩ : ∃ n, n = W.heap.size := ⟨_, rfl⟩
  rw [← hn7] at pb ⊢
  have PB0 := Bx.mk pb
  clear pb hn7
  have PA1 := Bx.mk (PA0.out.below hb); have OH1 := Bx.mk (OH0.out.below hb); have K1 := Bx.mk (K0.out.trans (hb.mono K0.out.size))
  clear hb PA0 OH0 K0
  have c0 := PA1.out.cell0; have c1 := PA1.out.cell1; have cL := PA1.out.cellL
  have ci := cons_any A W2 o s I64.out S64.out before after LL.out RL.out ad n cap ps (HHS.out.below K1.out) (HT.out.below K1.out)
  rw [hv_agg, hv_agg] at ci
  have CI := Bx.mk ci
  clear ci
  go_wp2_with (first | (guard_target =~ wpList _ _ _ (⟨some 31, _, _, _, _, _⟩ :: _) _ _; refine wpList_load_mid_w (by simp [Region.wanted]) 24 (.tmp 30) rfl n3 2 rfl (bcells before) _ PA1.out.leafAt underH rfl (hszB' LL.out) ?_; change wpList _ _ _ _ (Act.put _ _ (.agg (ocells before))) _) | (guard_target =~ wpList _ _ _ (⟨some 33, _, _, _, _, _⟩ :: _) _ _; refine wpList_load_mid_w (by simp [Region.wanted]) 24 (.tmp 32) rfl n3 34 rfl (bcells after) _ PA1.out.rootAt underH rfl (hszB' RL.out) ?_; change wpList _ _ _ _ (Act.put _ _ (.agg (ocells after))) _))
  refine CI.out.mono ?_
  rintro e w1 ⟨rfl, hb⟩
  clear CI c0 c1 cL
  have PA2 := Bx.mk (PA1.out.below hb); have OH2 := Bx.mk (OH1.out.below hb); have K2 := Bx.mk (K1.out.trans (hb.mono K1.out.size)); have PB1 := Bx.mk (PB0.out.below hb)
  clear hb PA1 OH1 K1 PB0
  rcases cons_cases A o s before after ps with ⟨k, hk⟩ | ⟨hk, h0, hos, hss, heq, hne⟩
  · rw [hk]
    unfold errVal
    go_wp2_with fail
    refine (alive_any A _ (HT.out.below K2.out)).mono ?_
    rintro e wz ⟨rfl, hb⟩
    have KE := Bx.mk (K2.out.trans (hb.mono K2.out.size))
    clear hb
    go_wp2_with fail
    exact bodyPost_ret (results_tmp rfl _ _ _) rfl ⟨rfl, KE.out⟩
  · rw [hk]
    have c0 := PA2.out.cell0; have c1 := PA2.out.cell1; have cL := PA2.out.cellL
    have ci := cons_any A w1 o s I64.out S64.out other after OL.out RL.out ad2 n2 cap2 qs (HQS.out.below K2.out) (HT.out.below K2.out)
    rw [hv_agg, hv_agg] at ci
    have CI := Bx.mk ci; have HE1 := Bx.mk heq; have HN1 := Bx.mk hne
    clear ci heq hne
    go_wp2_with (first | (guard_target =~ wpList _ _ _ (⟨some 43, _, _, _, _, _⟩ :: _) _ _; refine wpList_load_row_w (by simp [Region.wanted, yielded]) 24 (.tmp 4) rfl n4 rfl _ _ _ _ OH2.out.1 underH rfl (hszL OL.out) ?_) | (guard_target =~ wpList _ _ _ (⟨some 45, _, _, _, _, _⟩ :: _) _ _; refine wpList_load_mid_w (by simp [Region.wanted, yielded]) 24 (.tmp 44) rfl n3 34 rfl (bcells after) _ PA2.out.rootAt underH rfl (hszB' RL.out) ?_; change wpList _ _ _ _ (Act.put _ _ (.agg (ocells after))) _))
    refine CI.out.mono ?_
    rintro e w2 ⟨rfl, hb⟩
    clear CI c0 c1 cL
    have PA3 := Bx.mk (PA2.out.below hb); have OH3 := Bx.mk (OH2.out.below hb); have K3 := Bx.mk (K2.out.trans (hb.mono K2.out.size)); have PB2 := Bx.mk (PB1.out.below hb)
    clear hb PA2 OH2 K2 PB1
    rcases cons_cases A o s other after qs with ⟨k, hk⟩ | ⟨hk, _, _, _, heq, hne⟩
    · rw [hk]
      unfold errVal
      go_wp2_with fail
      refine (alive_any A _ (HT.out.below K3.out)).mono ?_
      rintro e wz ⟨rfl, hb⟩
      have KE := Bx.mk (K3.out.trans (hb.mono K3.out.size))
      clear hb
      go_wp2_with fail
      exact bodyPost_ret (results_tmp rfl _ _ _) rfl ⟨rfl, KE.out⟩
    · rw [hk]
      have HE2 := Bx.mk heq; have HN2' := Bx.mk hne
      have h0' : ¬ (o : Int) = 0 := by omega
      have h1 : (o : Int) ≤ (s : Int) := by omega
      have h2 : ¬ (9223372036854775808 : Int) < (s : Int) := by omega
      have hb0 : ((o : Int) == 0) = false := by simpa using h0'
      have hb1 : decide (s < o) = false := decide_eq_false (by omega)
      have hb2 : decide ((9223372036854775808 : Int) < (s : Int)) = false := decide_eq_false (by omega)
      have c0 := PA3.out.cell0; have c1 := PA3.out.cell1; have cL := PA3.out.cellL
      clear heq hne hk
      go_upto_region 6 with (fail)
      clear h0' h1 h2 hb0 hb1 hb2
      by_cases hq : o = s
      · obtain ⟨hp1, e1⟩ := HE1.out hq
        obtain ⟨hp2, e2⟩ := HE2.out hq
        have q1 := fun u => hv_eq u before after LL.out RL.out
        have q2 := fun u => hv_eq u other after OL.out RL.out
        rw [show (before == after) = true by simp [e1]] at q1
        rw [show (other == after) = true by simp [e2]] at q2
        simp only [hv_agg] at q1 q2
        have hz1 : n = 0 := by rw [HN.out, hp1]; rfl
        have hz2 : n2 = 0 := by rw [HN2.out, hp2]; rfl
        have hq' : ((o : Int) == (s : Int)) = true := by simp [hq]
        have hz1' : ((n : Int) == 0) = true := by simp [hz1]
        have hz2' : ((n2 : Int) == 0) = true := by simp [hz2]
        clear hp1 hp2 e1 e2 hz1 hz2 hq
        go_wp2_with (first | (guard_target =~ wpList _ _ _ (⟨some 82, _, _, _, _, _⟩ :: _) _ _; refine wpList_load_mid_w (by simp [Region.wanted, yielded]) 24 (.tmp 81) rfl n3 2 rfl (bcells before) _ PA3.out.leafAt underH rfl (hszB' LL.out) ?_; change wpList _ _ _ _ (Act.put _ _ (.agg (ocells before))) _) | (guard_target =~ wpList _ _ _ (⟨some 84, _, _, _, _, _⟩ :: _) _ _; refine wpList_load_mid_w (by simp [Region.wanted, yielded]) 24 (.tmp 83) rfl n3 34 rfl (bcells after) _ PA3.out.rootAt underH rfl (hszB' RL.out) ?_; change wpList _ _ _ _ (Act.put _ _ (.agg (ocells after))) _) | (guard_target =~ wpList _ _ _ (⟨some 88, _, _, _, _, _⟩ :: _) _ _; refine wpList_load_row_w (by simp [Region.wanted, yielded]) 24 (.tmp 4) rfl n4 rfl _ _ _ _ OH3.out.1 underH rfl (hszL OL.out) ?_) | (guard_target =~ wpList _ _ _ (⟨some 90, _, _, _, _, _⟩ :: _) _ _; refine wpList_load_mid_w (by simp [Region.wanted, yielded]) 24 (.tmp 89) rfl n3 34 rfl (bcells after) _ PA3.out.rootAt underH rfl (hszB' RL.out) ?_; change wpList _ _ _ _ (Act.put _ _ (.agg (ocells after))) _))
        refine (alive_any A _ (HT.out.below K3.out)).mono ?_
        rintro e wz ⟨rfl, hb⟩
        have KE := Bx.mk (K3.out.trans (hb.mono K3.out.size))
        clear hb
        go_wp2_with fail
        exact bodyPost_ret (results_tmp rfl _ _ _) rfl ⟨rfl, KE.out⟩
      · have hq' : ((o : Int) == (s : Int)) = false := by simp; omega
        have hlt : o < s := by omega
        go_upto_region 8 with (fail)
        clear c0 c1 cL hq'
        obtain ⟨f1, r1, hc1, hr1, hx1, hy1⟩ := HN1.out hq
        obtain ⟨f2, r2, hc2, hr2, hx2, hy2⟩ := HN2'.out hq
        have hdl := hsdirs_len 63 o s hss
        have hLp := hsdirs_ne h0 hlt
        have cg := grown_any w2 o s h0 hlt hss before after LL.out RL.out ad n cap ps (HHS.out.below K3.out) f1 r1 hc1 hr1 (HT.out.below K3.out).tab
        have cg2 := fun u (hu : Below w.heap.size w u) => grown_any u o s h0 hlt hss other after OL.out RL.out ad2 n2 cap2 qs (HQS.out.below hu) f2 r2 hc2 hr2 (HT.out.below hu).tab
        obtain ⟨D, hD⟩ : ∃ D, D = hsdirs o s := ⟨_, rfl⟩
        rw [← hD] at cg cg2 hdl hLp hc1 hc2 hr1 hr2 hx1 hx2 hy1 hy2
        obtain ⟨L, hL⟩ : ∃ L, L = D.length := ⟨_, rfl⟩
        rw [← hL] at cg cg2 hdl
        have LP := Bx.mk (show 1 ≤ L by rw [hL]; exact List.length_pos_iff.2 hLp)
        have fl1 : f1.length = 32 := by
          have h := hc1
          unfold conS at h
          split at h
          · cases h; exact LL.out
          · split at h
            · cases h
            · cases h; exact HHS.out.1 _ List.mem_cons_self
        have fl2 : f2.length = 32 := by
          have h := hc2
          unfold conS at h
          split at h
          · cases h; exact OL.out
          · split at h
            · cases h
            · cases h; exact HQS.out.1 _ List.mem_cons_self
        have rm1 : ∀ x ∈ r1, x.length = 32 := by
          have h := hc1
          unfold conS at h
          split at h
          · cases h; exact HHS.out.1
          · split at h
            · cases h
            · cases h; exact fun x hx => HHS.out.1 x (List.mem_cons_of_mem _ hx)
        have rm2 : ∀ x ∈ r2, x.length = 32 := by
          have h := hc2
          unfold conS at h
          split at h
          · cases h; exact HQS.out.1
          · split at h
            · cases h
            · cases h; exact fun x hx => HQS.out.1 x (List.mem_cons_of_mem _ hx)
        have hsame : f1 = f2 → ps = qs → before = other := fun e1 e2 => by
          subst e1; subst e2
          have := conS_same hc1 hc2
          subst this
          exact hx1.symm.trans hx2
        have hbk : ¬ (f1 = f2 ∧ ps = qs) → brokenB (climbsP nd f1 D r1) (climbsP nd f2 D r2) = true := fun hn => by
          rcases binds_plain nd D f1 f2 r1 r2 hr1.symm hr2.symm (hy1.trans hy2.symm) with h | h
          · exfalso
            obtain ⟨e1, e2⟩ := h
            subst e1; subst e2
            exact hn ⟨rfl, conS_inj hc1 hc2⟩
          · exact brokenB_of h
        have k1 := climbsP_32 D f1 r1 fl1 rm1
        have k2 := climbsP_32 D f2 r2 fl2 rm2
        have z1 := climbsP_length nd f1 D r1 hr1.symm
        have z2 := climbsP_length nd f2 D r2 hr2.symm
        have y1 := fun (h : L - 1 < (climbsP nd f1 D r1).length) => climbsP_last nd D f1 r1 (L - 1) h hr1.symm (by have := LP.out; rw [← hL]; omega)
        have y2 := fun (h : L - 1 < (climbsP nd f2 D r2).length) => climbsP_last nd D f2 r2 (L - 1) h hr2.symm (by have := LP.out; rw [← hL]; omega)
        rw [hy1] at y1
        rw [hy2] at y2
        rw [← hL] at z1 z2
        rw [hv_agg] at cg
        simp only [hv_agg] at cg2
        generalize climbsP nd f1 D r1 = la at cg k1 z1 y1 hbk
        generalize climbsP nd f2 D r2 = lb at cg2 k2 z2 y2 hbk
        rw [← HPC.out] at cg
        simp only [← HPD.out] at cg2
        have CG := Bx.mk cg; have CG2 := Bx.mk cg2; have K1' := Bx.mk k1; have K2' := Bx.mk k2; have ZL1 := Bx.mk z1; have ZL2 := Bx.mk z2; have Y1 := Bx.mk y1; have Y2 := Bx.mk y2; have HBK := Bx.mk hbk; have HSM := Bx.mk hsame; have F1 := Bx.mk fl1; have F2 := Bx.mk fl2; have DL := Bx.mk hdl
        clear cg cg2 k1 k2 z1 z2 y1 y2 hbk hsame fl1 fl2 hdl hLp hc1 hc2 hr1 hr2 hx1 hx2 hy1 hy2 rm1 rm2 hD hL
        have PAB := PA3.out.blk
        rw [← HPC.out] at PAB
        go_wp2_with (guard_target =~ wpList _ _ _ (⟨some 97, _, _, _, _, _⟩ :: _) _ _; refine wpList_load_row rfl 45 (.tmp 3) rfl n3 rfl _ _ _ _ PAB underPrf rfl (by rw [HPC.out]; exact prf_size LL.out RL.out _ _ _) ?_)
        refine CG.out.mono ?_
        clear CG PAB
        rintro e w3 ⟨v8, rfl, hra, hb⟩
        have PA4 := Bx.mk (PA3.out.below hb); have OH4 := Bx.mk (OH3.out.below hb); have K4 := Bx.mk (K3.out.trans (hb.mono K3.out.size)); have PB3 := Bx.mk (PB2.out.below hb)
        clear hb PA3 OH3 K3 PB2
        have RA0 := Bx.mk hra
        clear hra
        go_upto_region 9 with (guard_target =~ wpList _ _ _ (⟨none, _, _, _, _, _⟩ :: _) _ _; refine wpList_store_row rfl 24 (.tmp 9) (.tmp 100) rfl w3.heap.size (ocells f1) rfl rfl _ zeros32 (heap_alloc_new _ _) (hszL F1.out) (hsoL F1.out) (ocells_one _) ?_; rw [setRow_alloc_new _ _ _ _ _ rfl])
        have x9 := heap_alloc_new w3 (.cells (ocells f1) 24)
        have hb := er_al (Below.refl w3.heap.size w3) (.cells (ocells f1) 24)
        generalize w3.alloc (.cells (ocells f1) 24) = w4 at x9 hb ⊢
        obtain ⟨n9, hn9⟩ : ∃ n, n = w3.heap.size := ⟨_, rfl⟩
        rw [← hn9] at x9 ⊢
        clear hn9
        have PA5 := Bx.mk (PA4.out.below hb); have OH5 := Bx.mk (OH4.out.below hb); have K5 := Bx.mk (K4.out.trans (hb.mono K4.out.size)); have PB4 := Bx.mk (PB3.out.below hb); have RA1 := Bx.mk (own_keep RA0.out (Keep.of_below hb (fun _ => False)) (fun _ _ h => h))
        clear hb PA4 OH4 K4 PB3 RA0
        have G90 := Bx.mk x9
        clear x9
        have cg := CG2.out w4 K5.out
        have PBB := PB4.out.blk
        rw [← HPD.out] at PBB
        go_wp2_with (guard_target =~ wpList _ _ _ (⟨some 103, _, _, _, _, _⟩ :: _) _ _; refine wpList_load_row rfl 45 (.tmp 7) rfl n7 rfl _ _ _ _ PBB underPrf rfl (by rw [HPD.out]; exact prf_size OL.out RL.out _ _ _) ?_)
        refine cg.mono ?_
        clear cg CG2 PBB
        rintro e w5 ⟨v9, rfl, hrb, hb⟩
        have PA6 := Bx.mk (PA5.out.below hb); have OH6 := Bx.mk (OH5.out.below hb); have K6 := Bx.mk (K5.out.trans (hb.mono K5.out.size)); have PB5 := Bx.mk (PB4.out.below hb); have RA2 := Bx.mk (own_keep RA1.out (Keep.of_below hb (fun _ => False)) (fun _ _ h => h)); have G91 := Bx.mk ((hb.block _ (Array.getElem?_eq_some_iff.1 G90.out).1).trans G90.out)
        clear hb PA5 OH5 K5 PB4 RA1 G90
        have RB0 := Bx.mk hrb
        clear hrb
        go_upto_region 10 with (guard_target =~ wpList _ _ _ (⟨none, _, _, _, _, _⟩ :: _) _ _; refine wpList_store_row rfl 24 (.tmp 12) (.tmp 106) rfl w5.heap.size (ocells f2) rfl rfl _ zeros32 (heap_alloc_new _ _) (hszL F2.out) (hsoL F2.out) (ocells_one _) ?_; rw [setRow_alloc_new _ _ _ _ _ rfl])
        have x12 := heap_alloc_new w5 (.cells (ocells f2) 24)
        have hb := er_al (Below.refl w5.heap.size w5) (.cells (ocells f2) 24)
        generalize w5.alloc (.cells (ocells f2) 24) = w6 at x12 hb ⊢
        obtain ⟨n12, hn12⟩ : ∃ n, n = w5.heap.size := ⟨_, rfl⟩
        rw [← hn12] at x12 ⊢
        clear hn12
        have PA7 := Bx.mk (PA6.out.below hb); have OH7 := Bx.mk (OH6.out.below hb); have K7 := Bx.mk (K6.out.trans (hb.mono K6.out.size)); have PB6 := Bx.mk (PB5.out.below hb); have RA3 := Bx.mk (own_keep RA2.out (Keep.of_below hb (fun _ => False)) (fun _ _ h => h)); have G92 := Bx.mk ((hb.block _ (Array.getElem?_eq_some_iff.1 G91.out).1).trans G91.out); have RB1 := Bx.mk (own_keep RB0.out (Keep.of_below hb (fun _ => False)) (fun _ _ h => h))
        clear hb PA6 OH6 K6 PB5 RA2 G91 RB0
        have G120 := Bx.mk x12
        clear x12
        have hi1 : L - 1 < la.length := by have := LP.out; have := ZL1.out; omega
        have hi2 : L - 1 < lb.length := by have := LP.out; have := ZL2.out; omega
        obtain ⟨g8, c8, e, _, hg8, hzz1, ra1, ra2⟩ := pairs_at RA3.out K1'.out ZL1.out.symm (L - 1) hi1
        subst e
        obtain ⟨g9, c9, e, _, hg9, hzz2, rb1, rb2⟩ := pairs_at RB1.out K2'.out ZL2.out.symm (L - 1) hi2
        subst e
        clear hzz1 hzz2
        have p1 := K1'.out _ (List.getElem_mem hi1)
        have p2 := K2'.out _ (List.getElem_mem hi2)
        have y1 := Y1.out hi1
        have y2 := Y2.out hi2
        clear Y1 Y2
        generalize la[L - 1] = pa at ra1 ra2 p1 y1
        generalize lb[L - 1] = pb at rb1 rb2 p2 y2
        obtain ⟨ax, ay⟩ := pa
        obtain ⟨bx, bz⟩ := pb
        simp only at ra1 ra2 p1 y1 rb1 rb2 p2 y2
        have AXL := Bx.mk p1.1; have AYL := Bx.mk p1.2; have BXL := Bx.mk p2.1; have BZL := Bx.mk p2.2; have ND12 := Bx.mk y1; have ND13 := Bx.mk y2
        have LB := Bx.mk (show 1 ≤ L ∧ L ≤ 63 from ⟨LP.out, DL.out⟩)
        have Rax := Bx.mk (fun u (hu : Below w6.heap.size w6 u) => rangeAt_below ra1 hg8 hu)
        have Ray := Bx.mk (fun u (hu : Below w6.heap.size w6 u) => rangeAt_below ra2 hg8 hu)
        have SB1 := Bx.mk rb1; have SB2 := Bx.mk rb2; have SBL := Bx.mk hg9
        have KQ12 := K7
        clear y1 y2 hi1 hi2 p1 p2 ra1 ra2 rb1 rb2 hg8 hg9
        go_upto_region 12 with (fail)
        refine wp_region_own4 (n := 185) VGs12mk (fun _ => none) (VGs12 g8 c8 L ax ay after) (by kernel_rfl) (by kernel_rfl) rfl (fun _ _ => rfl) (fun _ _ _ _ h => by cases h) ?_ ?_ ?_
        · exact fun oi oj v own w own' w' hij _ h r => VGs12_mono g8 c8 L ax ay after oi oj v own w own' w' hij h r
        · intro oi o hi f u own hsame hsn hfr hlate hkeep hdep
          have hb6 := hsn.below (B := w6.heap.size) (fun _ _ => rfl) (Nat.le_refl _)
          match oi, hi with
          | 0, hi =>
            cases (show some _ = some o from hi)
            have e8 : f.tmps.getD 8 undef = .slice (some ⟨g8, 0, none⟩) L c8 := hsame.slot 8 (fun i o h => invB2_not 8 (by kernel_rfl) h)
            clear hdep hsame hi hlate hfr hkeep
            exact .inl ⟨wanted_none rfl, showsO_move hsn rfl _ rfl e8⟩
          | 1, hi =>
            cases (show some _ = some o from hi)
            have e8 : f.tmps.getD 8 undef = .slice (some ⟨g8, 0, none⟩) L c8 := hsame.slot 8 (fun i o h => invB2_not 8 (by kernel_rfl) h)
            clear hdep hsame hi hlate hfr hkeep
            exact .inl ⟨wanted_none rfl, showsO_move hsn rfl _ rfl e8⟩
          | 2, hi =>
            cases (show some _ = some o from hi)
            have e122 : (f.tmps.getD 122 undef) = .slice (some ⟨g8, 0, none⟩) L c8 := depO (V := (VGs12 g8 c8 L ax ay after)) hdep 1 122 (by kernel_rfl) (by kernel_rfl)
            clear hdep hsame hi hlate hfr hkeep
            exact .inl ⟨wanted_none rfl, showsO_pure hsn rfl (.int .i64 (L : Int)) (by simp only [execOp, Act.eval]; go_simp) rfl⟩
          | 3, hi =>
            cases (show some _ = some o from hi)
            have e123 : (f.tmps.getD 123 undef) = .int .i64 (L : Int) := depO (V := (VGs12 g8 c8 L ax ay after)) hdep 2 123 (by kernel_rfl) (by kernel_rfl)
            clear hdep hsame hi hlate hfr hkeep
            have hl := LB.out
            exact .inl ⟨wanted_none rfl, showsO_pure hsn rfl (.int .i64 ((L - 1 : Nat) : Int)) (by simp only [execOp, Act.eval]; go_simp; simp [IntKind.wrap, IntKind.bits, IntKind.signed]; omega) rfl⟩
          | 4, hi =>
            cases (show some _ = some o from hi)
            have e121 : (f.tmps.getD 121 undef) = .slice (some ⟨g8, 0, none⟩) L c8 := depO (V := (VGs12 g8 c8 L ax ay after)) hdep 0 121 (by kernel_rfl) (by kernel_rfl)
            have e124 : (f.tmps.getD 124 undef) = .int .i64 ((L - 1 : Nat) : Int) := depO (V := (VGs12 g8 c8 L ax ay after)) hdep 3 124 (by kernel_rfl) (by kernel_rfl)
            clear hdep hsame hi hlate hfr hkeep
            have hl := LB.out
            have hl2 : ¬ L ≤ L - 1 := by omega
            exact .inl ⟨wanted_none rfl, showsO_pure hsn rfl (.pointer (some ⟨g8, (L - 1) * 64, none⟩)) (by simp only [execOp, Act.eval]; go_simp) rfl⟩
          | 5, hi =>
            cases (show some _ = some o from hi)
            have e125 : (f.tmps.getD 125 undef) = .pointer (some ⟨g8, (L - 1) * 64, none⟩) := depO (V := (VGs12 g8 c8 L ax ay after)) hdep 4 125 (by kernel_rfl) (by kernel_rfl)
            clear hdep hsame hi hlate hfr hkeep
            exact .inl ⟨wanted_none rfl, showsO_pure hsn rfl (.pointer (some ⟨g8, (L - 1) * 64, none⟩)) (by simp only [execOp, Act.eval]; go_simp) rfl⟩
          | 6, hi =>
            cases (show some _ = some o from hi)
            have e126 : (f.tmps.getD 126 undef) = .pointer (some ⟨g8, (L - 1) * 64, none⟩) := depO (V := (VGs12 g8 c8 L ax ay after)) hdep 5 126 (by kernel_rfl) (by kernel_rfl)
            clear hdep hsame hi hlate hfr hkeep
            exact .inl ⟨wanted_none rfl, showsO_mid hsn rfl 24 (.tmp 126) rfl g8 ((L - 1) * 64) e126 (bcells ax) (Rax.out u hb6) underH rfl (hszB' AXL.out) rfl⟩
          | 7, hi =>
            cases (show some _ = some o from hi)
            have e8 : f.tmps.getD 8 undef = .slice (some ⟨g8, 0, none⟩) L c8 := hsame.slot 8 (fun i o h => invB2_not 8 (by kernel_rfl) h)
            clear hdep hsame hi hlate hfr hkeep
            exact .inl ⟨wanted_none rfl, showsO_move hsn rfl _ rfl e8⟩
          | 8, hi =>
            cases (show some _ = some o from hi)
            have e8 : f.tmps.getD 8 undef = .slice (some ⟨g8, 0, none⟩) L c8 := hsame.slot 8 (fun i o h => invB2_not 8 (by kernel_rfl) h)
            clear hdep hsame hi hlate hfr hkeep
            exact .inl ⟨wanted_none rfl, showsO_move hsn rfl _ rfl e8⟩
          | 9, hi =>
            cases (show some _ = some o from hi)
            have e129 : (f.tmps.getD 129 undef) = .slice (some ⟨g8, 0, none⟩) L c8 := depO (V := (VGs12 g8 c8 L ax ay after)) hdep 8 129 (by kernel_rfl) (by kernel_rfl)
            clear hdep hsame hi hlate hfr hkeep
            exact .inl ⟨wanted_none rfl, showsO_pure hsn rfl (.int .i64 (L : Int)) (by simp only [execOp, Act.eval]; go_simp) rfl⟩
          | 10, hi =>
            cases (show some _ = some o from hi)
            have e130 : (f.tmps.getD 130 undef) = .int .i64 (L : Int) := depO (V := (VGs12 g8 c8 L ax ay after)) hdep 9 130 (by kernel_rfl) (by kernel_rfl)
            clear hdep hsame hi hlate hfr hkeep
            have hl := LB.out
            exact .inl ⟨wanted_none rfl, showsO_pure hsn rfl (.int .i64 ((L - 1 : Nat) : Int)) (by simp only [execOp, Act.eval]; go_simp; simp [IntKind.wrap, IntKind.bits, IntKind.signed]; omega) rfl⟩
          | 11, hi =>
            cases (show some _ = some o from hi)
            have e128 : (f.tmps.getD 128 undef) = .slice (some ⟨g8, 0, none⟩) L c8 := depO (V := (VGs12 g8 c8 L ax ay after)) hdep 7 128 (by kernel_rfl) (by kernel_rfl)
            have e131 : (f.tmps.getD 131 undef) = .int .i64 ((L - 1 : Nat) : Int) := depO (V := (VGs12 g8 c8 L ax ay after)) hdep 10 131 (by kernel_rfl) (by kernel_rfl)
            clear hdep hsame hi hlate hfr hkeep
            have hl := LB.out
            have hl2 : ¬ L ≤ L - 1 := by omega
            exact .inl ⟨wanted_none rfl, showsO_pure hsn rfl (.pointer (some ⟨g8, (L - 1) * 64, none⟩)) (by simp only [execOp, Act.eval]; go_simp) rfl⟩
          | 12, hi =>
            cases (show some _ = some o from hi)
            have e132 : (f.tmps.getD 132 undef) = .pointer (some ⟨g8, (L - 1) * 64, none⟩) := depO (V := (VGs12 g8 c8 L ax ay after)) hdep 11 132 (by kernel_rfl) (by kernel_rfl)
            clear hdep hsame hi hlate hfr hkeep
            exact .inl ⟨wanted_none rfl, showsO_pure hsn rfl (.pointer (some ⟨g8, (L - 1) * 64 + 32, none⟩)) (by simp only [execOp, Act.eval]; go_simp) rfl⟩
          | 13, hi =>
            cases (show some _ = some o from hi)
            have e133 : (f.tmps.getD 133 undef) = .pointer (some ⟨g8, (L - 1) * 64 + 32, none⟩) := depO (V := (VGs12 g8 c8 L ax ay after)) hdep 12 133 (by kernel_rfl) (by kernel_rfl)
            clear hdep hsame hi hlate hfr hkeep
            exact .inl ⟨wanted_none rfl, showsO_mid hsn rfl 24 (.tmp 133) rfl g8 ((L - 1) * 64 + 32) e133 (bcells ay) (Ray.out u hb6) underH rfl (hszB' AYL.out) rfl⟩
          | 14, hi =>
            cases (show some _ = some o from hi)
            have e127 : (f.tmps.getD 127 undef) = .agg (ocells (ax)) := depO (V := (VGs12 g8 c8 L ax ay after)) hdep 6 127 (by kernel_rfl) (by kernel_rfl)
            have e134 : (f.tmps.getD 134 undef) = .agg (ocells (ay)) := depO (V := (VGs12 g8 c8 L ax ay after)) hdep 13 134 (by kernel_rfl) (by kernel_rfl)
            clear hdep hsame hi hlate hfr hkeep
            have c := node_any u ax ay AXL.out AYL.out (HT.out.below (KQ12.out.trans (hb6.mono KQ12.out.size))).tab
            rw [hv_agg, hv_agg, hv_agg, show sha (1 :: (ax ++ ay)) = after from ND12.out] at c
            exact .inl ⟨wanted_none rfl, showsO_call1 hsn rfl 21 #[.agg (ocells (ax)), .agg (ocells (ay))] (by simp only [execOp, Act.eval]; go_simp) (c) (fun _ => rfl)⟩
          | 15, hi =>
            cases (show some _ = some o from hi)
            clear hdep hsame hi hlate hkeep
            exact .inl ⟨wanted_none rfl, showsO_alloc hsn hfr rfl zeros32 24 16 rfl (by simp only [execOp, Act.eval]; go_simp; rfl) (fun h => h)⟩
          | 16, hi =>
            cases (show some _ = some o from hi)
            have e14 : AllocV own u (f.tmps.getD 14 undef) 16 24 32 := depO (V := (VGs12 g8 c8 L ax ay after)) hdep 15 14 (by kernel_rfl) (by kernel_rfl)
            have e135 : (f.tmps.getD 135 undef) = .agg (ocells (after)) := depO (V := (VGs12 g8 c8 L ax ay after)) hdep 14 135 (by kernel_rfl) (by kernel_rfl)
            clear hdep hsame hi hlate hfr hkeep
            exact .inl ⟨wanted_none rfl, showsO_store_alloc hsn rfl 24 (.tmp 14) (.tmp 135) rfl e14 (ocells after) e135 (hszL RL.out) (by rw [ocells_size, RL.out]) (ocells_one _) (fun _ h => h)⟩
          | n + 17, hi => exact absurd hi (by simp)
        · intro f u own hsame hsn hall
          have hb6 := hsn.below (B := w6.heap.size) (fun _ _ => rfl) (Nat.le_refl _)
          have q121 : f.tmps.getD 121 undef = .slice (some ⟨g8, 0, none⟩) L c8 := finO (V := (VGs12 g8 c8 L ax ay after)) hall 0 121 rfl
          have q122 : f.tmps.getD 122 undef = .slice (some ⟨g8, 0, none⟩) L c8 := finO (V := (VGs12 g8 c8 L ax ay after)) hall 1 122 rfl
          have q123 : f.tmps.getD 123 undef = .int .i64 (L : Int) := finO (V := (VGs12 g8 c8 L ax ay after)) hall 2 123 rfl
          have q124 : f.tmps.getD 124 undef = .int .i64 ((L - 1 : Nat) : Int) := finO (V := (VGs12 g8 c8 L ax ay after)) hall 3 124 rfl
          have q125 : f.tmps.getD 125 undef = .pointer (some ⟨g8, (L - 1) * 64, none⟩) := finO (V := (VGs12 g8 c8 L ax ay after)) hall 4 125 rfl
          have q126 : f.tmps.getD 126 undef = .pointer (some ⟨g8, (L - 1) * 64, none⟩) := finO (V := (VGs12 g8 c8 L ax ay after)) hall 5 126 rfl
          have q127 : f.tmps.getD 127 undef = .agg (ocells (ax)) := finO (V := (VGs12 g8 c8 L ax ay after)) hall 6 127 rfl
          have q128 : f.tmps.getD 128 undef = .slice (some ⟨g8, 0, none⟩) L c8 := finO (V := (VGs12 g8 c8 L ax ay after)) hall 7 128 rfl
          have q129 : f.tmps.getD 129 undef = .slice (some ⟨g8, 0, none⟩) L c8 := finO (V := (VGs12 g8 c8 L ax ay after)) hall 8 129 rfl
          have q130 : f.tmps.getD 130 undef = .int .i64 (L : Int) := finO (V := (VGs12 g8 c8 L ax ay after)) hall 9 130 rfl
          have q131 : f.tmps.getD 131 undef = .int .i64 ((L - 1 : Nat) : Int) := finO (V := (VGs12 g8 c8 L ax ay after)) hall 10 131 rfl
          have q132 : f.tmps.getD 132 undef = .pointer (some ⟨g8, (L - 1) * 64, none⟩) := finO (V := (VGs12 g8 c8 L ax ay after)) hall 11 132 rfl
          have q133 : f.tmps.getD 133 undef = .pointer (some ⟨g8, (L - 1) * 64 + 32, none⟩) := finO (V := (VGs12 g8 c8 L ax ay after)) hall 12 133 rfl
          have q134 : f.tmps.getD 134 undef = .agg (ocells (ay)) := finO (V := (VGs12 g8 c8 L ax ay after)) hall 13 134 rfl
          have q135 : f.tmps.getD 135 undef = .agg (ocells (after)) := finO (V := (VGs12 g8 c8 L ax ay after)) hall 14 135 rfl
          obtain ⟨g14, q14, o14, m14⟩ := AllocV.stored (finO (V := (VGs12 g8 c8 L ax ay after)) hall 15 14 rfl) (finN (V := (VGs12 g8 c8 L ax ay after)) hall 16 rfl)
          obtain rfl := frame_eq hsame [(121, .slice (some ⟨g8, 0, none⟩) L c8), (122, .slice (some ⟨g8, 0, none⟩) L c8), (123, .int .i64 (L : Int)), (124, .int .i64 ((L - 1 : Nat) : Int)), (125, .pointer (some ⟨g8, (L - 1) * 64, none⟩)), (126, .pointer (some ⟨g8, (L - 1) * 64, none⟩)), (127, .agg (ocells (ax))), (128, .slice (some ⟨g8, 0, none⟩) L c8), (129, .slice (some ⟨g8, 0, none⟩) L c8), (130, .int .i64 (L : Int)), (131, .int .i64 ((L - 1 : Nat) : Int)), (132, .pointer (some ⟨g8, (L - 1) * 64, none⟩)), (133, .pointer (some ⟨g8, (L - 1) * 64 + 32, none⟩)), (134, .agg (ocells (ay))), (135, .agg (ocells (after))), (14, .pointer (some ⟨g14, 0, none⟩))] (by kernel_rfl) ⟨q121, q122, q123, q124, q125, q126, q127, q128, q129, q130, q131, q132, q133, q134, q135, q14, trivial⟩
          clear hall hsame q121 q122 q123 q124 q125 q126 q127 q128 q129 q130 q131 q132 q133 q134 q135 q14
          simp only [List.foldl, List.setIfInBounds_toArray, List.set_cons_succ, List.set_cons_zero]
          have GX140 := Bx.mk m14
          have PA8 := Bx.mk (PA7.out.below hb6); have OH8 := Bx.mk (OH7.out.below hb6); have K8 := Bx.mk (K7.out.trans (hb6.mono K7.out.size)); have PB7 := Bx.mk (PB6.out.below hb6); have RA4 := Bx.mk (own_keep RA3.out (Keep.of_below hb6 (fun _ => False)) (fun _ _ h => h)); have G93 := Bx.mk ((hb6.block _ (Array.getElem?_eq_some_iff.1 G92.out).1).trans G92.out); have RB2 := Bx.mk (own_keep RB1.out (Keep.of_below hb6 (fun _ => False)) (fun _ _ h => h)); have G121 := Bx.mk ((hb6.block _ (Array.getElem?_eq_some_iff.1 G120.out).1).trans G120.out)
          have HB12 := Bx.mk hb6
          clear hb6 hsn o14 m14 PA7 OH7 K7 PB6 RA3 G92 RB1 G120
          rename World => w7
          have Rbx := Bx.mk (fun u (hu : Below w7.heap.size w7 u) => rangeAt_below SB1.out SBL.out (HB12.out.trans (hu.mono HB12.out.size)))
          have Rbz := Bx.mk (fun u (hu : Below w7.heap.size w7 u) => rangeAt_below SB2.out SBL.out (HB12.out.trans (hu.mono HB12.out.size)))
          have KQ13 := K8
          go_upto_region 13 with (fail)
          refine wp_region_own4 (n := 185) VGs13mk (fun _ => none) (VGs13 g9 c9 L bx bz after) (by kernel_rfl) (by kernel_rfl) rfl (fun _ _ => rfl) (fun _ _ _ _ h => by cases h) ?_ ?_ ?_
          · exact fun oi oj v own w own' w' hij _ h r => VGs13_mono g9 c9 L bx bz after oi oj v own w own' w' hij h r
          · intro oi o hi f u own hsame hsn hfr hlate hkeep hdep
            have hb6 := hsn.below (B := w7.heap.size) (fun _ _ => rfl) (Nat.le_refl _)
            match oi, hi with
            | 0, hi =>
              cases (show some _ = some o from hi)
              have e11 : f.tmps.getD 11 undef = .slice (some ⟨g9, 0, none⟩) L c9 := hsame.slot 11 (fun i o h => invB2_not 11 (by kernel_rfl) h)
              clear hdep hsame hi hlate hfr hkeep
              exact .inl ⟨wanted_none rfl, showsO_move hsn rfl _ rfl e11⟩
            | 1, hi =>
              cases (show some _ = some o from hi)
              have e11 : f.tmps.getD 11 undef = .slice (some ⟨g9, 0, none⟩) L c9 := hsame.slot 11 (fun i o h => invB2_not 11 (by kernel_rfl) h)
              clear hdep hsame hi hlate hfr hkeep
              exact .inl ⟨wanted_none rfl, showsO_move hsn rfl _ rfl e11⟩
            | 2, hi =>
              cases (show some _ = some o from hi)
              have e137 : (f.tmps.getD 137 undef) = .slice (some ⟨g9, 0, none⟩) L c9 := depO (V := (VGs13 g9 c9 L bx bz after)) hdep 1 137 (by kernel_rfl) (by kernel_rfl)
              clear hdep hsame hi hlate hfr hkeep
              exact .inl ⟨wanted_none rfl, showsO_pure hsn rfl (.int .i64 (L : Int)) (by simp only [execOp, Act.eval]; go_simp) rfl⟩
            | 3, hi =>
              cases (show some _ = some o from hi)
              have e138 : (f.tmps.getD 138 undef) = .int .i64 (L : Int) := depO (V := (VGs13 g9 c9 L bx bz after)) hdep 2 138 (by kernel_rfl) (by kernel_rfl)
              clear hdep hsame hi hlate hfr hkeep
              have hl := LB.out
              exact .inl ⟨wanted_none rfl, showsO_pure hsn rfl (.int .i64 ((L - 1 : Nat) : Int)) (by simp only [execOp, Act.eval]; go_simp; simp [IntKind.wrap, IntKind.bits, IntKind.signed]; omega) rfl⟩
            | 4, hi =>
              cases (show some _ = some o from hi)
              have e136 : (f.tmps.getD 136 undef) = .slice (some ⟨g9, 0, none⟩) L c9 := depO (V := (VGs13 g9 c9 L bx bz after)) hdep 0 136 (by kernel_rfl) (by kernel_rfl)
              have e139 : (f.tmps.getD 139 undef) = .int .i64 ((L - 1 : Nat) : Int) := depO (V := (VGs13 g9 c9 L bx bz after)) hdep 3 139 (by kernel_rfl) (by kernel_rfl)
              clear hdep hsame hi hlate hfr hkeep
              have hl := LB.out
              have hl2 : ¬ L ≤ L - 1 := by omega
              exact .inl ⟨wanted_none rfl, showsO_pure hsn rfl (.pointer (some ⟨g9, (L - 1) * 64, none⟩)) (by simp only [execOp, Act.eval]; go_simp) rfl⟩
            | 5, hi =>
              cases (show some _ = some o from hi)
              have e140 : (f.tmps.getD 140 undef) = .pointer (some ⟨g9, (L - 1) * 64, none⟩) := depO (V := (VGs13 g9 c9 L bx bz after)) hdep 4 140 (by kernel_rfl) (by kernel_rfl)
              clear hdep hsame hi hlate hfr hkeep
              exact .inl ⟨wanted_none rfl, showsO_pure hsn rfl (.pointer (some ⟨g9, (L - 1) * 64, none⟩)) (by simp only [execOp, Act.eval]; go_simp) rfl⟩
            | 6, hi =>
              cases (show some _ = some o from hi)
              have e141 : (f.tmps.getD 141 undef) = .pointer (some ⟨g9, (L - 1) * 64, none⟩) := depO (V := (VGs13 g9 c9 L bx bz after)) hdep 5 141 (by kernel_rfl) (by kernel_rfl)
              clear hdep hsame hi hlate hfr hkeep
              exact .inl ⟨wanted_none rfl, showsO_mid hsn rfl 24 (.tmp 141) rfl g9 ((L - 1) * 64) e141 (bcells bx) (Rbx.out u hb6) underH rfl (hszB' BXL.out) rfl⟩
            | 7, hi =>
              cases (show some _ = some o from hi)
              have e11 : f.tmps.getD 11 undef = .slice (some ⟨g9, 0, none⟩) L c9 := hsame.slot 11 (fun i o h => invB2_not 11 (by kernel_rfl) h)
              clear hdep hsame hi hlate hfr hkeep
              exact .inl ⟨wanted_none rfl, showsO_move hsn rfl _ rfl e11⟩
            | 8, hi =>
              cases (show some _ = some o from hi)
              have e11 : f.tmps.getD 11 undef = .slice (some ⟨g9, 0, none⟩) L c9 := hsame.slot 11 (fun i o h => invB2_not 11 (by kernel_rfl) h)
              clear hdep hsame hi hlate hfr hkeep
              exact .inl ⟨wanted_none rfl, showsO_move hsn rfl _ rfl e11⟩
            | 9, hi =>
              cases (show some _ = some o from hi)
              have e144 : (f.tmps.getD 144 undef) = .slice (some ⟨g9, 0, none⟩) L c9 := depO (V := (VGs13 g9 c9 L bx bz after)) hdep 8 144 (by kernel_rfl) (by kernel_rfl)
              clear hdep hsame hi hlate hfr hkeep
              exact .inl ⟨wanted_none rfl, showsO_pure hsn rfl (.int .i64 (L : Int)) (by simp only [execOp, Act.eval]; go_simp) rfl⟩
            | 10, hi =>
              cases (show some _ = some o from hi)
              have e145 : (f.tmps.getD 145 undef) = .int .i64 (L : Int) := depO (V := (VGs13 g9 c9 L bx bz after)) hdep 9 145 (by kernel_rfl) (by kernel_rfl)
              clear hdep hsame hi hlate hfr hkeep
              have hl := LB.out
              exact .inl ⟨wanted_none rfl, showsO_pure hsn rfl (.int .i64 ((L - 1 : Nat) : Int)) (by simp only [execOp, Act.eval]; go_simp; simp [IntKind.wrap, IntKind.bits, IntKind.signed]; omega) rfl⟩
            | 11, hi =>
              cases (show some _ = some o from hi)
              have e143 : (f.tmps.getD 143 undef) = .slice (some ⟨g9, 0, none⟩) L c9 := depO (V := (VGs13 g9 c9 L bx bz after)) hdep 7 143 (by kernel_rfl) (by kernel_rfl)
              have e146 : (f.tmps.getD 146 undef) = .int .i64 ((L - 1 : Nat) : Int) := depO (V := (VGs13 g9 c9 L bx bz after)) hdep 10 146 (by kernel_rfl) (by kernel_rfl)
              clear hdep hsame hi hlate hfr hkeep
              have hl := LB.out
              have hl2 : ¬ L ≤ L - 1 := by omega
              exact .inl ⟨wanted_none rfl, showsO_pure hsn rfl (.pointer (some ⟨g9, (L - 1) * 64, none⟩)) (by simp only [execOp, Act.eval]; go_simp) rfl⟩
            | 12, hi =>
              cases (show some _ = some o from hi)
              have e147 : (f.tmps.getD 147 undef) = .pointer (some ⟨g9, (L - 1) * 64, none⟩) := depO (V := (VGs13 g9 c9 L bx bz after)) hdep 11 147 (by kernel_rfl) (by kernel_rfl)
              clear hdep hsame hi hlate hfr hkeep
              exact .inl ⟨wanted_none rfl, showsO_pure hsn rfl (.pointer (some ⟨g9, (L - 1) * 64 + 32, none⟩)) (by simp only [execOp, Act.eval]; go_simp) rfl⟩
            | 13, hi =>
              cases (show some _ = some o from hi)
              have e148 : (f.tmps.getD 148 undef) = .pointer (some ⟨g9, (L - 1) * 64 + 32, none⟩) := depO (V := (VGs13 g9 c9 L bx bz after)) hdep 12 148 (by kernel_rfl) (by kernel_rfl)
              clear hdep hsame hi hlate hfr hkeep
              exact .inl ⟨wanted_none rfl, showsO_mid hsn rfl 24 (.tmp 148) rfl g9 ((L - 1) * 64 + 32) e148 (bcells bz) (Rbz.out u hb6) underH rfl (hszB' BZL.out) rfl⟩
            | 14, hi =>
              cases (show some _ = some o from hi)
              have e142 : (f.tmps.getD 142 undef) = .agg (ocells (bx)) := depO (V := (VGs13 g9 c9 L bx bz after)) hdep 6 142 (by kernel_rfl) (by kernel_rfl)
              have e149 : (f.tmps.getD 149 undef) = .agg (ocells (bz)) := depO (V := (VGs13 g9 c9 L bx bz after)) hdep 13 149 (by kernel_rfl) (by kernel_rfl)
              clear hdep hsame hi hlate hfr hkeep
              have c := node_any u bx bz BXL.out BZL.out (HT.out.below (KQ13.out.trans (hb6.mono KQ13.out.size))).tab
              rw [hv_agg, hv_agg, hv_agg, show sha (1 :: (bx ++ bz)) = after from ND13.out] at c
              exact .inl ⟨wanted_none rfl, showsO_call1 hsn rfl 21 #[.agg (ocells (bx)), .agg (ocells (bz))] (by simp only [execOp, Act.eval]; go_simp) (c) (fun _ => rfl)⟩
            | 15, hi =>
              cases (show some _ = some o from hi)
              clear hdep hsame hi hlate hkeep
              exact .inl ⟨wanted_none rfl, showsO_alloc hsn hfr rfl zeros32 24 16 rfl (by simp only [execOp, Act.eval]; go_simp; rfl) (fun h => h)⟩
            | 16, hi =>
              cases (show some _ = some o from hi)
              have e15 : AllocV own u (f.tmps.getD 15 undef) 16 24 32 := depO (V := (VGs13 g9 c9 L bx bz after)) hdep 15 15 (by kernel_rfl) (by kernel_rfl)
              have e150 : (f.tmps.getD 150 undef) = .agg (ocells (after)) := depO (V := (VGs13 g9 c9 L bx bz after)) hdep 14 150 (by kernel_rfl) (by kernel_rfl)
              clear hdep hsame hi hlate hfr hkeep
              exact .inl ⟨wanted_none rfl, showsO_store_alloc hsn rfl 24 (.tmp 15) (.tmp 150) rfl e15 (ocells after) e150 (hszL RL.out) (by rw [ocells_size, RL.out]) (ocells_one _) (fun _ h => h)⟩
            | n + 17, hi => exact absurd hi (by simp)
          · intro f u own hsame hsn hall
            have hb6 := hsn.below (B := w7.heap.size) (fun _ _ => rfl) (Nat.le_refl _)
            have q136 : f.tmps.getD 136 undef = .slice (some ⟨g9, 0, none⟩) L c9 := finO (V := (VGs13 g9 c9 L bx bz after)) hall 0 136 rfl
            have q137 : f.tmps.getD 137 undef = .slice (some ⟨g9, 0, none⟩) L c9 := finO (V := (VGs13 g9 c9 L bx bz after)) hall 1 137 rfl
            have q138 : f.tmps.getD 138 undef = .int .i64 (L : Int) := finO (V := (VGs13 g9 c9 L bx bz after)) hall 2 138 rfl
            have q139 : f.tmps.getD 139 undef = .int .i64 ((L - 1 : Nat) : Int) := finO (V := (VGs13 g9 c9 L bx bz after)) hall 3 139 rfl
            have q140 : f.tmps.getD 140 undef = .pointer (some ⟨g9, (L - 1) * 64, none⟩) := finO (V := (VGs13 g9 c9 L bx bz after)) hall 4 140 rfl
            have q141 : f.tmps.getD 141 undef = .pointer (some ⟨g9, (L - 1) * 64, none⟩) := finO (V := (VGs13 g9 c9 L bx bz after)) hall 5 141 rfl
            have q142 : f.tmps.getD 142 undef = .agg (ocells (bx)) := finO (V := (VGs13 g9 c9 L bx bz after)) hall 6 142 rfl
            have q143 : f.tmps.getD 143 undef = .slice (some ⟨g9, 0, none⟩) L c9 := finO (V := (VGs13 g9 c9 L bx bz after)) hall 7 143 rfl
            have q144 : f.tmps.getD 144 undef = .slice (some ⟨g9, 0, none⟩) L c9 := finO (V := (VGs13 g9 c9 L bx bz after)) hall 8 144 rfl
            have q145 : f.tmps.getD 145 undef = .int .i64 (L : Int) := finO (V := (VGs13 g9 c9 L bx bz after)) hall 9 145 rfl
            have q146 : f.tmps.getD 146 undef = .int .i64 ((L - 1 : Nat) : Int) := finO (V := (VGs13 g9 c9 L bx bz after)) hall 10 146 rfl
            have q147 : f.tmps.getD 147 undef = .pointer (some ⟨g9, (L - 1) * 64, none⟩) := finO (V := (VGs13 g9 c9 L bx bz after)) hall 11 147 rfl
            have q148 : f.tmps.getD 148 undef = .pointer (some ⟨g9, (L - 1) * 64 + 32, none⟩) := finO (V := (VGs13 g9 c9 L bx bz after)) hall 12 148 rfl
            have q149 : f.tmps.getD 149 undef = .agg (ocells (bz)) := finO (V := (VGs13 g9 c9 L bx bz after)) hall 13 149 rfl
            have q150 : f.tmps.getD 150 undef = .agg (ocells (after)) := finO (V := (VGs13 g9 c9 L bx bz after)) hall 14 150 rfl
            obtain ⟨g15, q15, o15, m15⟩ := AllocV.stored (finO (V := (VGs13 g9 c9 L bx bz after)) hall 15 15 rfl) (finN (V := (VGs13 g9 c9 L bx bz after)) hall 16 rfl)
            obtain rfl := frame_eq hsame [(136, .slice (some ⟨g9, 0, none⟩) L c9), (137, .slice (some ⟨g9, 0, none⟩) L c9), (138, .int .i64 (L : Int)), (139, .int .i64 ((L - 1 : Nat) : Int)), (140, .pointer (some ⟨g9, (L - 1) * 64, none⟩)), (141, .pointer (some ⟨g9, (L - 1) * 64, none⟩)), (142, .agg (ocells (bx))), (143, .slice (some ⟨g9, 0, none⟩) L c9), (144, .slice (some ⟨g9, 0, none⟩) L c9), (145, .int .i64 (L : Int)), (146, .int .i64 ((L - 1 : Nat) : Int)), (147, .pointer (some ⟨g9, (L - 1) * 64, none⟩)), (148, .pointer (some ⟨g9, (L - 1) * 64 + 32, none⟩)), (149, .agg (ocells (bz))), (150, .agg (ocells (after))), (15, .pointer (some ⟨g15, 0, none⟩))] (by kernel_rfl) ⟨q136, q137, q138, q139, q140, q141, q142, q143, q144, q145, q146, q147, q148, q149, q150, q15, trivial⟩
            clear hall hsame q136 q137 q138 q139 q140 q141 q142 q143 q144 q145 q146 q147 q148 q149 q150 q15
            simp only [List.foldl, List.setIfInBounds_toArray, List.set_cons_succ, List.set_cons_zero]
            have GX150 := Bx.mk m15
            have PA9 := Bx.mk (PA8.out.below hb6); have OH9 := Bx.mk (OH8.out.below hb6); have K9 := Bx.mk (K8.out.trans (hb6.mono K8.out.size)); have PB8 := Bx.mk (PB7.out.below hb6); have RA5 := Bx.mk (own_keep RA4.out (Keep.of_below hb6 (fun _ => False)) (fun _ _ h => h)); have G94 := Bx.mk ((hb6.block _ (Array.getElem?_eq_some_iff.1 G93.out).1).trans G93.out); have RB3 := Bx.mk (own_keep RB2.out (Keep.of_below hb6 (fun _ => False)) (fun _ _ h => h)); have G122 := Bx.mk ((hb6.block _ (Array.getElem?_eq_some_iff.1 G121.out).1).trans G121.out); have GX141 := Bx.mk ((hb6.block _ (Array.getElem?_eq_some_iff.1 GX140.out).1).trans GX140.out)
            have HB13 := Bx.mk hb6
            clear hb6 hsn o15 m15 PA8 OH8 K8 PB7 RA4 G93 RB2 G121 GX140
            have c0 := PA9.out.cell0; have c1 := PA9.out.cell1; have cL := PA9.out.cellL
            have q := fun u => hv_neq u after after RL.out RL.out
            simp only [beq_self_eq_true, hv_agg, Bool.not_true] at q
            have qf := fun u => hv_eq u f1 f2 F1.out F2.out
            have qb := fun u => hv_eq u before other LL.out OL.out
            simp only [hv_agg] at qf qb
            go_upto_region 16 with (first | (guard_target =~ wpList _ _ _ (⟨some 151, _, _, _, _, _⟩ :: _) _ _; refine wpList_load_row_w (by simp [Region.wanted]) 24 (.tmp 14) rfl g14 rfl _ _ _ _ GX141.out underH rfl (hszL RL.out) ?_) | (guard_target =~ wpList _ _ _ (⟨some 153, _, _, _, _, _⟩ :: _) _ _; refine wpList_load_mid_w (by simp [Region.wanted]) 24 (.tmp 152) rfl n3 34 rfl (bcells after) _ PA9.out.rootAt underH rfl (hszB' RL.out) ?_; change wpList _ _ _ _ (Act.put _ _ (.agg (ocells after))) _) | (guard_target =~ wpList _ _ _ (⟨some 156, _, _, _, _, _⟩ :: _) _ _; refine wpList_load_row_w (by simp [Region.wanted, yielded]) 24 (.tmp 15) rfl g15 rfl _ _ _ _ GX150.out underH rfl (hszL RL.out) ?_) | (guard_target =~ wpList _ _ _ (⟨some 158, _, _, _, _, _⟩ :: _) _ _; refine wpList_load_mid_w (by simp [Region.wanted, yielded]) 24 (.tmp 157) rfl n3 34 rfl (bcells after) _ PA9.out.rootAt underH rfl (hszB' RL.out) ?_; change wpList _ _ _ _ (Act.put _ _ (.agg (ocells after))) _))
            clear q
            by_cases he : f1 = f2
            · rw [show (f1 == f2) = true by simp [he]] at qf
              have HEF := Bx.mk he
              clear he
              go_wp2_with (first | (guard_target =~ wpList _ _ _ (⟨some 161, _, _, _, _, _⟩ :: _) _ _; refine wpList_load_row_w (by simp [Region.wanted]) 24 (.tmp 9) rfl n9 rfl _ _ _ _ G94.out underH rfl (hszL F1.out) ?_) | (guard_target =~ wpList _ _ _ (⟨some 162, _, _, _, _, _⟩ :: _) _ _; refine wpList_load_row_w (by simp [Region.wanted]) 24 (.tmp 12) rfl n12 rfl _ _ _ _ G122.out underH rfl (hszL F2.out) ?_))
              refine (same_any u ad n cap ps ad2 n2 cap2 qs (HHS.out.below K9.out) (HQS.out.below K9.out)).mono ?_
              clear c0 c1 cL qf
              rintro e w8 ⟨rfl, hb⟩
              have PA10 := Bx.mk (PA9.out.below hb); have OH10 := Bx.mk (OH9.out.below hb); have K10 := Bx.mk (K9.out.trans (hb.mono K9.out.size)); have PB9 := Bx.mk (PB8.out.below hb); have RA6 := Bx.mk (own_keep RA5.out (Keep.of_below hb (fun _ => False)) (fun _ _ h => h)); have G95 := Bx.mk ((hb.block _ (Array.getElem?_eq_some_iff.1 G94.out).1).trans G94.out); have RB4 := Bx.mk (own_keep RB3.out (Keep.of_below hb (fun _ => False)) (fun _ _ h => h)); have G123 := Bx.mk ((hb.block _ (Array.getElem?_eq_some_iff.1 G122.out).1).trans G122.out); have GX142 := Bx.mk ((hb.block _ (Array.getElem?_eq_some_iff.1 GX141.out).1).trans GX141.out); have GX151 := Bx.mk ((hb.block _ (Array.getElem?_eq_some_iff.1 GX150.out).1).trans GX150.out)
              clear hb PA9 OH9 K9 PB8 RA5 G94 RB3 G122 GX141 GX150
              by_cases hp : ps = qs
              · rw [show (ps == qs) = true by simp [hp]]
                rw [show (before == other) = true by simp [HSM.out HEF.out hp]] at qb
                clear hp
                go_wp2_with (first | (guard_target =~ wpList _ _ _ (⟨some 173, _, _, _, _, _⟩ :: _) _ _; refine wpList_load_mid_w (by simp [Region.wanted, yielded]) 24 (.tmp 172) rfl n3 2 rfl (bcells before) _ PA10.out.leafAt underH rfl (hszB' LL.out) ?_; change wpList _ _ _ _ (Act.put _ _ (.agg (ocells before))) _) | (guard_target =~ wpList _ _ _ (⟨some 174, _, _, _, _, _⟩ :: _) _ _; refine wpList_load_row_w (by simp [Region.wanted, yielded, Act.put]) 24 (.tmp 4) rfl n4 rfl _ _ _ _ OH10.out.1 underH rfl (hszL OL.out) ?_))
                refine (alive_any A _ (HT.out.below K10.out)).mono ?_
                rintro e wz ⟨rfl, hb⟩
                have KE := Bx.mk (K10.out.trans (hb.mono K10.out.size))
                clear hb
                go_wp2_with fail
                exact bodyPost_ret (results_tmp rfl _ _ _) rfl ⟨rfl, KE.out⟩
              · rw [show (ps == qs) = false by simpa using hp]
                have hbk := HBK.out (fun h => hp h.2)
                have cb := broken_any w8 L _ _ _ _ la lb RA6.out RB4.out K1'.out K2'.out ZL1.out.symm ZL2.out.symm (by have := DL.out; omega) (HT.out.below K10.out).tab
                rw [hbk] at cb
                clear hbk hp qb
                go_wp2_with fail
                refine cb.mono ?_
                clear cb
                rintro e w9 ⟨rfl, hb⟩
                have PA11 := Bx.mk (PA10.out.below hb); have OH11 := Bx.mk (OH10.out.below hb); have K11 := Bx.mk (K10.out.trans (hb.mono K10.out.size)); have PB10 := Bx.mk (PB9.out.below hb); have RA7 := Bx.mk (own_keep RA6.out (Keep.of_below hb (fun _ => False)) (fun _ _ h => h)); have G96 := Bx.mk ((hb.block _ (Array.getElem?_eq_some_iff.1 G95.out).1).trans G95.out); have RB5 := Bx.mk (own_keep RB4.out (Keep.of_below hb (fun _ => False)) (fun _ _ h => h)); have G124 := Bx.mk ((hb.block _ (Array.getElem?_eq_some_iff.1 G123.out).1).trans G123.out); have GX143 := Bx.mk ((hb.block _ (Array.getElem?_eq_some_iff.1 GX142.out).1).trans GX142.out); have GX152 := Bx.mk ((hb.block _ (Array.getElem?_eq_some_iff.1 GX151.out).1).trans GX151.out)
                clear hb PA10 OH10 K10 PB9 RA6 G95 RB4 G123 GX142 GX151
                go_wp2_with fail
                refine (alive_any A _ (HT.out.below K11.out)).mono ?_
                rintro e wz ⟨rfl, hb⟩
                have KE := Bx.mk (K11.out.trans (hb.mono K11.out.size))
                clear hb
                go_wp2_with fail
                exact bodyPost_ret (results_tmp rfl _ _ _) rfl ⟨rfl, KE.out⟩
            · rw [show (f1 == f2) = false by simpa using he] at qf
              have hbk := HBK.out (fun h => he h.1)
              have cb := broken_any u L _ _ _ _ la lb RA5.out RB3.out K1'.out K2'.out ZL1.out.symm ZL2.out.symm (by have := DL.out; omega) (HT.out.below K9.out).tab
              rw [hbk] at cb
              clear hbk he qb
              go_wp2_with (first | (guard_target =~ wpList _ _ _ (⟨some 161, _, _, _, _, _⟩ :: _) _ _; refine wpList_load_row_w (by simp [Region.wanted]) 24 (.tmp 9) rfl n9 rfl _ _ _ _ G94.out underH rfl (hszL F1.out) ?_) | (guard_target =~ wpList _ _ _ (⟨some 162, _, _, _, _, _⟩ :: _) _ _; refine wpList_load_row_w (by simp [Region.wanted]) 24 (.tmp 12) rfl n12 rfl _ _ _ _ G122.out underH rfl (hszL F2.out) ?_))
              refine cb.mono ?_
              clear cb c0 c1 cL qf
              rintro e w9 ⟨rfl, hb⟩
              have PA10 := Bx.mk (PA9.out.below hb); have OH10 := Bx.mk (OH9.out.below hb); have K10 := Bx.mk (K9.out.trans (hb.mono K9.out.size)); have PB9 := Bx.mk (PB8.out.below hb); have RA6 := Bx.mk (own_keep RA5.out (Keep.of_below hb (fun _ => False)) (fun _ _ h => h)); have G95 := Bx.mk ((hb.block _ (Array.getElem?_eq_some_iff.1 G94.out).1).trans G94.out); have RB4 := Bx.mk (own_keep RB3.out (Keep.of_below hb (fun _ => False)) (fun _ _ h => h)); have G123 := Bx.mk ((hb.block _ (Array.getElem?_eq_some_iff.1 G122.out).1).trans G122.out); have GX142 := Bx.mk ((hb.block _ (Array.getElem?_eq_some_iff.1 GX141.out).1).trans GX141.out); have GX151 := Bx.mk ((hb.block _ (Array.getElem?_eq_some_iff.1 GX150.out).1).trans GX150.out)
              clear hb PA9 OH9 K9 PB8 RA5 G94 RB3 G122 GX141 GX150
              go_wp2_with fail
              refine (alive_any A _ (HT.out.below K10.out)).mono ?_
              rintro e wz ⟨rfl, hb⟩
              have KE := Bx.mk (K10.out.trans (hb.mono K10.out.size))
              clear hb
              go_wp2_with fail
              exact bodyPost_ret (results_tmp rfl _ _ _) rfl ⟨rfl, KE.out⟩
end Go.Proofs.YtmlpldkgennmkaaDoor
