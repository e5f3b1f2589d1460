/- cartularylaw22.OnetimeSteps walked. -/
import Derived.Test.YtohifpomdanmkaaDoorOrl
import Derived.Test.YtohifpomdanmkaaDoorOsP
namespace Go.Proofs.YtohifpomdanmkaaDoor
set_option maxRecDepth 100000
open Go.RowKit
def VS14 (g t n10 n9 dk dm : Nat) (px c : List UInt8) (oi : Nat) (v : Value) (own : Nat → Option Nat) (w : World) : Prop :=
  match oi with
  | 0 => v = .slice (some ⟨g, 0, none⟩) 67 67
  | 1 => v = .int .i64 (t : Int)
  | 2 => v = .pointer (some ⟨g, t * 32, none⟩)
  | 3 => v = .agg (ocells (px))
  | 4 => v = .int .i64 (t : Int)
  | 5 => v = .pointer (some ⟨n10, t, none⟩)
  | 6 => v = .int .i64 (dk : Int)
  | 7 => v = .int .i64 (t : Int)
  | 8 => v = .pointer (some ⟨n9, t, none⟩)
  | 9 => v = .int .i64 (dm : Int)
  | 10 => v = .int .i64 ((dk : Int) - (dm : Int))
  | 11 => v = .int .i64 ((dk - dm : Nat) : Int)
  | 12 => v = .tuple #[.agg (ocells (c)), .nilIface]
  | 13 => v = .tuple #[.agg (ocells (c)), .nilIface]
  | 14 => v = .agg (ocells (c))
  | 15 => v = .nilIface
  | 16 => AllocV own w v 17 23 32
  | 17 => StoredV own w 17 23 (ocells (c))
  | 18 => v = .nilIface
  | _ => True
def VS14mk : Nat → Option Nat := fun j => match j with | 17 => some 16 | _ => none
theorem VS14_mono (g t n10 n9 dk dm : Nat) (px c : List UInt8) (oi oj : Nat) (v : Value) (own : Nat → Option Nat) (w : World) (own' : Nat → Option Nat) (w' : World) (hij : oi ≠ oj) (h : VS14 g t n10 n9 dk dm px c oj v own w) (r : Rel VS14mk oi own w own' w') : VS14 g t n10 n9 dk dm px c oj v own' w' := by
  unfold VS14 at h ⊢
  split at h
  · exact h
  · exact h
  · exact h
  · exact h
  · exact h
  · exact h
  · exact h
  · exact h
  · exact h
  · exact h
  · exact h
  · exact h
  · exact h
  · exact h
  · exact h
  · exact h
  · exact h.stable r rfl hij
  · exact h.stable r hij
  · exact h
  · trivial

def VS15 (g' t n9 n10 dm dk : Nat) (py c : List UInt8) (oi : Nat) (v : Value) (own : Nat → Option Nat) (w : World) : Prop :=
  match oi with
  | 0 => v = .slice (some ⟨g', 0, none⟩) 67 67
  | 1 => v = .int .i64 (t : Int)
  | 2 => v = .pointer (some ⟨g', t * 32, none⟩)
  | 3 => v = .agg (ocells (py))
  | 4 => v = .int .i64 (t : Int)
  | 5 => v = .pointer (some ⟨n9, t, none⟩)
  | 6 => v = .int .i64 (dm : Int)
  | 7 => v = .int .i64 (t : Int)
  | 8 => v = .pointer (some ⟨n10, t, none⟩)
  | 9 => v = .int .i64 (dk : Int)
  | 10 => v = .int .i64 ((dm : Int) - (dk : Int))
  | 11 => v = .int .i64 ((dm - dk : Nat) : Int)
  | 12 => v = .tuple #[.agg (ocells (c)), .nilIface]
  | 13 => v = .tuple #[.agg (ocells (c)), .nilIface]
  | 14 => v = .agg (ocells (c))
  | 15 => v = .nilIface
  | 16 => AllocV own w v 17 23 32
  | 17 => StoredV own w 17 23 (ocells (c))
  | 18 => v = .nilIface
  | _ => True
def VS15mk : Nat → Option Nat := fun j => match j with | 17 => some 16 | _ => none
theorem VS15_mono (g' t n9 n10 dm dk : Nat) (py c : List UInt8) (oi oj : Nat) (v : Value) (own : Nat → Option Nat) (w : World) (own' : Nat → Option Nat) (w' : World) (hij : oi ≠ oj) (h : VS15 g' t n9 n10 dm dk py c oj v own w) (r : Rel VS15mk oi own w own' w') : VS15 g' t n9 n10 dm dk py c oj v own' w' := by
  unfold VS15 at h ⊢
  split at h
  · exact h
  · exact h
  · exact h
  · exact h
  · exact h
  · exact h
  · exact h
  · exact h
  · exact h
  · exact h
  · exact h
  · exact h
  · exact h
  · exact h
  · exact h
  · exact h
  · exact h.stable r rfl hij
  · exact h.stable r hij
  · exact h
  · trivial

set_option maxHeartbeats 6400000 in
theorem steps_any (A : Nat → Addr) (w : World) (s m k : List UInt8) (hs : s.length = 32) (hm : m.length = 32) (hk : k.length = 32) (hT : Hs A w) :
    Calls Tryd.prog 5 #[hv s, hv m, hv k] w fun e w' => e = .returned (.bool true) ∧ Below w.heap.size w w' := by
  have x0 := ((HashAt.new w s hs).below (er_al (Below.refl _ _) (.cells (ocells m) 23))).below (er_al (Below.refl _ _) (.cells (ocells k) 23))
  have x1 := (HashAt.new (w.alloc (.cells (ocells s) 23)) m hm).below (er_al (Below.refl _ _) (.cells (ocells k) 23))
  have x2 := HashAt.new ((w.alloc (.cells (ocells s) 23)).alloc (.cells (ocells m) 23)) k hk
  rw [show (w.alloc (.cells (ocells s) 23)).heap.size = w.heap.size + 1 by simp] at x1
  rw [show ((w.alloc (.cells (ocells s) 23)).alloc (.cells (ocells m) 23)).heap.size = w.heap.size + 1 + 1 by simp] at x2
  have kb : Below w.heap.size w (((w.alloc (.cells (ocells s) 23)).alloc (.cells (ocells m) 23)).alloc (.cells (ocells k) 23)) := er_al (er_al (er_al (Below.refl _ _) _) _) _
  have SL := Bx.mk hs; have ML := Bx.mk hm; have KL := Bx.mk hk; have HT := Bx.mk hT
  clear hs hm hk hT
  unfold hv
  go_enter Tryd.func5, Tryd.ntmps5
  go_upto_region 1 with (fail)
  change Code.wp _ _ _ _ (((w.alloc (.cells (ocells s) 23)).alloc (.cells (ocells m) 23)).alloc (.cells (ocells k) 23))
  generalize ((w.alloc (.cells (ocells s) 23)).alloc (.cells (ocells m) 23)).alloc (.cells (ocells k) 23) = W at x0 x1 x2 kb ⊢
  obtain ⟨N, hN⟩ : ∃ N, N = w.heap.size := ⟨_, rfl⟩
  rw [← hN] at x0 x1 x2 ⊢
  have X0 := Bx.mk x0; have X1 := Bx.mk x1; have X2 := Bx.mk x2; have K0 := Bx.mk kb
  clear x0 x1 x2 kb hN
  have ca := alive_any A W (HT.out.below K0.out)
  go_wp2_with fail
  refine ca.mono ?_
  clear ca
  rintro e w1 ⟨rfl, hb⟩
  have Y0 := Bx.mk (X0.out.below hb); have Y1 := Bx.mk (X1.out.below hb); have Y2 := Bx.mk (X2.out.below hb); have K1 := Bx.mk (K0.out.trans (hb.mono K0.out.size))
  clear hb X0 X1 X2 K0
  go_wp2_with (first
    | (guard_target =~ wpList _ _ _ (⟨some 20, _, _, _, _, _⟩ :: _) _ _; refine wpList_load_row rfl 23 (.tmp 3) rfl N rfl _ _ _ _ Y0.out.1 underH rfl (hszL SL.out) ?_)
    | (guard_target =~ wpList _ _ _ (⟨some 21, _, _, _, _, _⟩ :: _) _ _; refine wpList_load_row rfl 23 (.tmp 4) rfl (N + 1) rfl _ _ _ _ Y1.out.1 underH rfl (hszL ML.out) ?_))
  have cs := sign_any w1 s m SL.out ML.out (HT.out.below K1.out).tab
  rw [hv_agg, hv_agg] at cs
  refine cs.mono ?_
  clear cs
  rintro e w2 ⟨g, rfl, _, hsp, hb⟩
  have X0 := Bx.mk (Y0.out.below hb); have X1 := Bx.mk (Y1.out.below hb); have X2 := Bx.mk (Y2.out.below hb); have K2 := Bx.mk (K1.out.trans (hb.mono K1.out.size)); have SA := Bx.mk hsp
  clear hb hsp Y0 Y1 Y2 K1
  go_wp2_with (first
    | (guard_target =~ wpList _ _ _ (⟨some 23, _, _, _, _, _⟩ :: _) _ _; refine wpList_load_row rfl 23 (.tmp 3) rfl N rfl _ _ _ _ X0.out.1 underH rfl (hszL SL.out) ?_)
    | (guard_target =~ wpList _ _ _ (⟨some 24, _, _, _, _, _⟩ :: _) _ _; refine wpList_load_row rfl 23 (.tmp 5) rfl (N + 1 + 1) rfl _ _ _ _ X2.out.1 underH rfl (hszL KL.out) ?_))
  have cs := sign_any w2 s k SL.out KL.out (HT.out.below K2.out).tab
  rw [hv_agg, hv_agg] at cs
  refine cs.mono ?_
  clear cs
  rintro e w3 ⟨g', rfl, _, hsp, hb⟩
  have Y1 := Bx.mk (X1.out.below hb); have Y2 := Bx.mk (X2.out.below hb); have K3 := Bx.mk (K2.out.trans (hb.mono K2.out.size)); have SB := Bx.mk hsp; have SA' := Bx.mk (SA.out.below hb)
  clear hb hsp X0 X1 X2 K2 SA
  go_wp2_with (guard_target =~ wpList _ _ _ (⟨some 34, _, _, _, _, _⟩ :: _) _ _; refine wpList_load_row rfl 23 (.tmp 4) rfl (N + 1) rfl _ _ _ _ Y1.out.1 underH rfl (hszL ML.out) ?_)
  have cd := digits22_any w3 m ML.out
  rw [hv_agg] at cd
  refine cd.mono ?_
  clear cd
  rintro e w4 ⟨rfl, hb⟩
  have X1 := Bx.mk (Y1.out.below hb); have X2 := Bx.mk (Y2.out.below hb); have K4 := Bx.mk (K3.out.trans (hb.mono K3.out.size)); have SB' := Bx.mk (SB.out.below hb); have SA := Bx.mk (SA'.out.below hb)
  clear hb Y1 Y2 K3 SB SA'
  go_upto_region 8 with (guard_target =~ wpList _ _ _ (⟨none, _, _, _, _, _⟩ :: _) _ _; refine wpList_store_row rfl 42 (.tmp 9) (.tmp 35) rfl w4.heap.size (dcells (dall m)) rfl rfl _ (dcells fun _ => 0) (heap_alloc_new _ _) (sizeA _) (by rw [dcells_size, dcells_size]) (dcells_one _) ?_; rw [setRow_alloc_new _ _ _ _ _ rfl])
  have x9 := heap_alloc_new w4 (.cells (dcells (dall m)) 42)
  have b9 := er_al (Below.refl w4.heap.size w4) (.cells (dcells (dall m)) 42)
  generalize w4.alloc (.cells (dcells (dall m)) 42) = w5 at x9 b9 ⊢
  generalize w4.heap.size = n9 at x9 ⊢
  have X9 := Bx.mk x9; have Y1 := Bx.mk (X1.out.below b9); have Y2 := Bx.mk (X2.out.below b9); have K5 := Bx.mk (K4.out.trans (b9.mono K4.out.size)); have SB := Bx.mk (SB'.out.below b9); have SA' := Bx.mk (SA.out.below b9)
  clear x9 b9 X1 X2 K4 SB' SA
  go_wp2_with (guard_target =~ wpList _ _ _ (⟨some 36, _, _, _, _, _⟩ :: _) _ _; refine wpList_load_row rfl 23 (.tmp 5) rfl (N + 1 + 1) rfl _ _ _ _ Y2.out.1 underH rfl (hszL KL.out) ?_)
  have cd := digits22_any w5 k KL.out
  rw [hv_agg] at cd
  refine cd.mono ?_
  clear cd
  rintro e w6 ⟨rfl, hb⟩
  have y9 := (hb.block _ (Array.getElem?_eq_some_iff.1 X9.out).1).trans X9.out
  have Y9 := Bx.mk y9; have X1 := Bx.mk (Y1.out.below hb); have X2 := Bx.mk (Y2.out.below hb); have K6 := Bx.mk (K5.out.trans (hb.mono K5.out.size)); have SB' := Bx.mk (SB.out.below hb); have SA := Bx.mk (SA'.out.below hb)
  clear hb y9 Y1 Y2 K5 SB SA' X9
  go_upto_region 9 with (guard_target =~ wpList _ _ _ (⟨none, _, _, _, _, _⟩ :: _) _ _; refine wpList_store_row rfl 42 (.tmp 10) (.tmp 37) rfl w6.heap.size (dcells (dall k)) rfl rfl _ (dcells fun _ => 0) (heap_alloc_new _ _) (sizeA _) (by rw [dcells_size, dcells_size]) (dcells_one _) ?_; rw [setRow_alloc_new _ _ _ _ _ rfl])
  have x10 := heap_alloc_new w6 (.cells (dcells (dall k)) 42)
  have b10 := er_al (Below.refl w6.heap.size w6) (.cells (dcells (dall k)) 42)
  generalize w6.alloc (.cells (dcells (dall k)) 42) = w7 at x10 b10 ⊢
  generalize w6.heap.size = n10 at x10 ⊢
  have z9 := (b10.block _ (Array.getElem?_eq_some_iff.1 Y9.out).1).trans Y9.out
  have X9 := Bx.mk z9; have X10 := Bx.mk x10; have Y1 := Bx.mk (X1.out.below b10); have Y2 := Bx.mk (X2.out.below b10); have K7 := Bx.mk (K6.out.trans (b10.mono K6.out.size)); have SB := Bx.mk (SB'.out.below b10); have SA' := Bx.mk (SA.out.below b10)
  clear x10 b10 z9 X1 X2 K6 SB' SA Y9
  go_wp2_with fail
  go_loopw [11, 12, 13, 14, 15, 16, 17] (fun av bv iv _ _ _ _ wr => ∃ t : Nat, t ≤ 67 ∧ iv = .int .i64 (t : Int) ∧ av = .bool (exlt m k t) ∧ bv = .bool (exlt k m t) ∧ Below w7.heap.size w7 wr) (fun _ _ iv _ _ _ _ _ => 67 - (intOf iv).toNat)
  case atStart => exact ⟨0, by decide, rfl, rfl, rfl, Below.refl _ _⟩
  case round =>
    obtain ⟨t, ht, rfl, rfl, rfl, hb⟩ := hrel
    have HB := Bx.mk hb
    have KW := Bx.mk (fun u (h : Below w7.heap.size w7 u) => K7.out.trans (h.mono K7.out.size))
    by_cases hlt : t < 67
    · have r9 := (hb.block _ (Array.getElem?_eq_some_iff.1 X9.out).1).trans X9.out
      have r10 := (hb.block _ (Array.getElem?_eq_some_iff.1 X10.out).1).trans X10.out
      have g9 := (Array.getElem?_eq_some_iff.1 r9).1
      have g10 := (Array.getElem?_eq_some_iff.1 r10).1
      have c9 := er_cellAt r9 t (.int .i64 (dall m t : Int)) (dcells_get _ _ hlt)
      have c10 := er_cellAt r10 t (.int .i64 (dall k t : Int)) (dcells_get _ _ hlt)
      have hdm := dall_lt m t
      have hdk := dall_lt k t
      have sa := (SA'.out.below hb).at' t (by rw [rowOf_length]; exact hlt)
      have sb := (SB.out.below hb).at' t (by rw [rowOf_length]; exact hlt)
      have ea : (rowOf (signB s m) 67)[t]'(by rw [rowOf_length]; exact hlt) = signB s m t := by simp [rowOf]
      have eb : (rowOf (signB s k) 67)[t]'(by rw [rowOf_length]; exact hlt) = signB s k t := by simp [rowOf]
      rw [ea] at sa
      rw [eb] at sb
      have qa : chainN (signB s m t) (dall k t - dall m t) = chainN (beginB s t) (max (dall m t) (dall k t)) := by unfold signB; rw [chainN_add]; congr 1; omega
      have qb : chainN (signB s k t) (dall m t - dall k t) = chainN (beginB s t) (max (dall m t) (dall k t)) := by unfold signB; rw [chainN_add]; congr 1; omega
      have la := signB_length s m t
      have lb := signB_length s k t
      have lc : (chainN (beginB s t) (max (dall m t) (dall k t))).length = 32 := chainN_length (beginB_length s t) _
      have cx : ∀ u, Below wr.heap.size wr u → _ := fun u hu => chain_any u _ la (dall k t - dall m t) (by omega) ((HT.out.below (KW.out _ hb)).below hu).tab
      have cy : ∀ u, Below wr.heap.size wr u → _ := fun u hu => chain_any u _ lb (dall m t - dall k t) (by omega) ((HT.out.below (KW.out _ hb)).below hu).tab
      rw [qa] at cx
      rw [qb] at cy
      simp only [hv_agg] at cx cy
      have hlx := (SA'.out.below hb).lt
      have hly := (SB.out.below hb).lt
      generalize chainN (beginB s t) (max (dall m t) (dall k t)) = c at cx cy lc
      generalize signB s m t = px at sa la cx
      generalize signB s k t = py at sb lb cy
      generalize hdme : dall m t = dm at *
      generalize hdke : dall k t = dk at *
      have HRX := Bx.mk (fun u (hu : Below wr.heap.size wr u) => rangeAt_below sa hlx hu)
      have HRY := Bx.mk (fun u (hu : Below wr.heap.size wr u) => rangeAt_below sb hly hu)
      have Ddm := Bx.mk (fun u (hu : Below wr.heap.size wr u) => (hu.cell (p := ⟨n9, t, none⟩) g9).trans c9)
      have Ddk := Bx.mk (fun u (hu : Below wr.heap.size wr u) => (hu.cell (p := ⟨n10, t, none⟩) g10).trans c10)
      have PXL := Bx.mk la; have PYL := Bx.mk lb; have CL := Bx.mk lc; have Cpx := Bx.mk cx; have Cpy := Bx.mk cy; have HLT := Bx.mk hlt; have HD := Bx.mk (And.intro hdm hdk)
      clear ht hb r9 r10 g9 g10 c9 c10 hdm hdk sa sb ea eb la lb lc cx cy hlx hly
      go_upto_region 14 with (fail)
      refine wp_region_own (n := 114) VS14mk (fun _ => none) (VS14 g t n10 n9 dk dm px c) (by kernel_rfl) (by kernel_rfl) rfl ?_ ?_ (VS14_mono g t n10 n9 dk dm px c) ?_ ?_
      · exact fun _ _ => rfl
      · exact fun _ _ _ _ h => by cases h
      · intro oi o hi f u own hsame hsn hfr hdep
        have hb6 := hsn.below (B := wr.heap.size) (fun _ _ => rfl) (Nat.le_refl _)
        match oi, hi with
        | 0, hi =>
          cases (show some _ = some o from hi)
          have e7 : f.tmps.getD 7 undef = .slice (some ⟨g, 0, none⟩) 67 67 := hsame.slot 7 (fun i o h => invB2_not 7 (by kernel_rfl) h)
          clear hdep hsame hi hfr
          exact ⟨wanted_none rfl, showsO_move hsn rfl _ rfl e7⟩
        | 1, hi =>
          cases (show some _ = some o from hi)
          have e13 : f.tmps.getD 13 undef = .int .i64 (t : Int) := hsame.slot 13 (fun i o h => invB2_not 13 (by kernel_rfl) h)
          clear hdep hsame hi hfr
          exact ⟨wanted_none rfl, showsO_move hsn rfl _ rfl e13⟩
        | 2, hi =>
          cases (show some _ = some o from hi)
          have e43 : f.tmps.getD 43 undef = .slice (some ⟨g, 0, none⟩) 67 67 := depO (V := (VS14 g t n10 n9 dk dm px c)) hdep 0 43 (by kernel_rfl) (by kernel_rfl)
          have e44 : f.tmps.getD 44 undef = .int .i64 (t : Int) := depO (V := (VS14 g t n10 n9 dk dm px c)) hdep 1 44 (by kernel_rfl) (by kernel_rfl)
          clear hdep hsame hi hfr
          have hlt := HLT.out
          exact ⟨wanted_none rfl, showsO_pure hsn rfl (.pointer (some ⟨g, t * 32, none⟩)) (by simp only [execOp, Act.eval]; go_simp) rfl⟩
        | 3, hi =>
          cases (show some _ = some o from hi)
          have e45 : f.tmps.getD 45 undef = .pointer (some ⟨g, t * 32, none⟩) := depO (V := (VS14 g t n10 n9 dk dm px c)) hdep 2 45 (by kernel_rfl) (by kernel_rfl)
          clear hdep hsame hi hfr
          exact ⟨wanted_none rfl, showsO_mid hsn rfl 23 (.tmp 45) rfl g (t * 32) e45 (bcells (px)) (HRX.out u hb6) underH rfl (hszB' PXL.out) rfl⟩
        | 4, hi =>
          cases (show some _ = some o from hi)
          have e13 : f.tmps.getD 13 undef = .int .i64 (t : Int) := hsame.slot 13 (fun i o h => invB2_not 13 (by kernel_rfl) h)
          clear hdep hsame hi hfr
          exact ⟨wanted_none rfl, showsO_move hsn rfl _ rfl e13⟩
        | 5, hi =>
          cases (show some _ = some o from hi)
          have e10 : f.tmps.getD 10 undef = .pointer (some ⟨n10, 0, none⟩) := hsame.slot 10 (fun i o h => invB2_not 10 (by kernel_rfl) h)
          have e47 : f.tmps.getD 47 undef = .int .i64 (t : Int) := depO (V := (VS14 g t n10 n9 dk dm px c)) hdep 4 47 (by kernel_rfl) (by kernel_rfl)
          clear hdep hsame hi hfr
          have hlt := HLT.out
          exact ⟨wanted_none rfl, showsO_pure hsn rfl (.pointer (some ⟨n10, t, none⟩)) (by simp only [execOp, Act.eval]; go_simp) rfl⟩
        | 6, hi =>
          cases (show some _ = some o from hi)
          have e48 : f.tmps.getD 48 undef = .pointer (some ⟨n10, t, none⟩) := depO (V := (VS14 g t n10 n9 dk dm px c)) hdep 5 48 (by kernel_rfl) (by kernel_rfl)
          clear hdep hsame hi hfr
          have hc := Ddk.out u hb6
          exact ⟨wanted_none rfl, showsO_pure hsn rfl (.int .i64 (dk : Int)) (by simp only [execOp, Act.eval]; go_simp) rfl⟩
        | 7, hi =>
          cases (show some _ = some o from hi)
          have e13 : f.tmps.getD 13 undef = .int .i64 (t : Int) := hsame.slot 13 (fun i o h => invB2_not 13 (by kernel_rfl) h)
          clear hdep hsame hi hfr
          exact ⟨wanted_none rfl, showsO_move hsn rfl _ rfl e13⟩
        | 8, hi =>
          cases (show some _ = some o from hi)
          have e9 : f.tmps.getD 9 undef = .pointer (some ⟨n9, 0, none⟩) := hsame.slot 9 (fun i o h => invB2_not 9 (by kernel_rfl) h)
          have e50 : f.tmps.getD 50 undef = .int .i64 (t : Int) := depO (V := (VS14 g t n10 n9 dk dm px c)) hdep 7 50 (by kernel_rfl) (by kernel_rfl)
          clear hdep hsame hi hfr
          have hlt := HLT.out
          exact ⟨wanted_none rfl, showsO_pure hsn rfl (.pointer (some ⟨n9, t, none⟩)) (by simp only [execOp, Act.eval]; go_simp) rfl⟩
        | 9, hi =>
          cases (show some _ = some o from hi)
          have e51 : f.tmps.getD 51 undef = .pointer (some ⟨n9, t, none⟩) := depO (V := (VS14 g t n10 n9 dk dm px c)) hdep 8 51 (by kernel_rfl) (by kernel_rfl)
          clear hdep hsame hi hfr
          have hc := Ddm.out u hb6
          exact ⟨wanted_none rfl, showsO_pure hsn rfl (.int .i64 (dm : Int)) (by simp only [execOp, Act.eval]; go_simp) rfl⟩
        | 10, hi =>
          cases (show some _ = some o from hi)
          have e49 : f.tmps.getD 49 undef = .int .i64 (dk : Int) := depO (V := (VS14 g t n10 n9 dk dm px c)) hdep 6 49 (by kernel_rfl) (by kernel_rfl)
          have e52 : f.tmps.getD 52 undef = .int .i64 (dm : Int) := depO (V := (VS14 g t n10 n9 dk dm px c)) hdep 9 52 (by kernel_rfl) (by kernel_rfl)
          clear hdep hsame hi hfr
          have hd := HD.out
          exact ⟨wanted_none rfl, showsO_pure hsn rfl (.int .i64 ((dk : Int) - (dm : Int))) (by simp only [execOp, Act.eval]; go_simp; simp [IntKind.wrap, IntKind.bits, IntKind.signed]; omega) rfl⟩
        | 11, hi =>
          cases (show some _ = some o from hi)
          have e53 : f.tmps.getD 53 undef = .int .i64 ((dk : Int) - (dm : Int)) := depO (V := (VS14 g t n10 n9 dk dm px c)) hdep 10 53 (by kernel_rfl) (by kernel_rfl)
          clear hdep hsame hi hfr
          have hd := HD.out
          exact ⟨wanted_none rfl, showsO_pure hsn rfl (.int .i64 ((dk - dm : Nat) : Int)) (by simp only [execOp, Act.eval]; go_simp; split <;> omega) rfl⟩
        | 12, hi =>
          cases (show some _ = some o from hi)
          have e46 : f.tmps.getD 46 undef = .agg (ocells (px)) := depO (V := (VS14 g t n10 n9 dk dm px c)) hdep 3 46 (by kernel_rfl) (by kernel_rfl)
          have e54 : f.tmps.getD 54 undef = .int .i64 ((dk - dm : Nat) : Int) := depO (V := (VS14 g t n10 n9 dk dm px c)) hdep 11 54 (by kernel_rfl) (by kernel_rfl)
          clear hdep hsame hi hfr
          exact ⟨wanted_none rfl, showsO_call1 hsn rfl 17 #[.agg (ocells (px)), .int .i64 ((dk - dm : Nat) : Int)] (by simp only [execOp, Act.eval]; go_simp) (Cpx.out u hb6) (fun _ => rfl)⟩
        | 13, hi =>
          cases (show some _ = some o from hi)
          have e55 : f.tmps.getD 55 undef = .tuple #[.agg (ocells (c)), .nilIface] := depO (V := (VS14 g t n10 n9 dk dm px c)) hdep 12 55 (by kernel_rfl) (by kernel_rfl)
          clear hdep hsame hi hfr
          exact ⟨wanted_none rfl, showsO_move hsn rfl _ rfl e55⟩
        | 14, hi =>
          cases (show some _ = some o from hi)
          have e42 : f.tmps.getD 42 undef = .tuple #[.agg (ocells (c)), .nilIface] := depO (V := (VS14 g t n10 n9 dk dm px c)) hdep 13 42 (by kernel_rfl) (by kernel_rfl)
          clear hdep hsame hi hfr
          exact ⟨wanted_none rfl, showsO_pure hsn rfl (.agg (ocells (c))) (by simp only [execOp, Act.eval]; go_simp) rfl⟩
        | 15, hi =>
          cases (show some _ = some o from hi)
          have e42 : f.tmps.getD 42 undef = .tuple #[.agg (ocells (c)), .nilIface] := depO (V := (VS14 g t n10 n9 dk dm px c)) hdep 13 42 (by kernel_rfl) (by kernel_rfl)
          clear hdep hsame hi hfr
          exact ⟨wanted_none rfl, showsO_pure hsn rfl (.nilIface) (by simp only [execOp, Act.eval]; go_simp) rfl⟩
        | 16, hi =>
          cases (show some _ = some o from hi)
          clear hdep hsame hi
          exact ⟨wanted_none rfl, showsO_alloc hsn hfr rfl zeros32 23 17 rfl (by simp only [execOp, Act.eval]; go_simp; rfl) (fun h => h)⟩
        | 17, hi =>
          cases (show some _ = some o from hi)
          have e14 : AllocV own u (f.tmps.getD 14 undef) 17 23 32 := depO (V := (VS14 g t n10 n9 dk dm px c)) hdep 16 14 (by kernel_rfl) (by kernel_rfl)
          have e56 : f.tmps.getD 56 undef = .agg (ocells (c)) := depO (V := (VS14 g t n10 n9 dk dm px c)) hdep 14 56 (by kernel_rfl) (by kernel_rfl)
          clear hdep hsame hi hfr
          exact ⟨wanted_none rfl, showsO_store_alloc hsn rfl 23 (.tmp 14) (.tmp 56) rfl e14 (ocells (c)) e56 (hszL CL.out) (by rw [ocells_size, CL.out]) (ocells_one _) (fun _ h => h)⟩
        | 18, hi =>
          cases (show some _ = some o from hi)
          have e57 : f.tmps.getD 57 undef = .nilIface := depO (V := (VS14 g t n10 n9 dk dm px c)) hdep 15 57 (by kernel_rfl) (by kernel_rfl)
          clear hdep hsame hi hfr
          exact ⟨wanted_none rfl, showsO_assign hsn rfl _ rfl e57⟩
        | n + 19, hi => exact absurd hi (by simp)
      · intro f u own hsame hsn hall
        have hb6 := hsn.below (B := wr.heap.size) (fun _ _ => rfl) (Nat.le_refl _)
        have q43 : f.tmps.getD 43 undef = .slice (some ⟨g, 0, none⟩) 67 67 := finO (V := (VS14 g t n10 n9 dk dm px c)) hall 0 43 rfl
        have q44 : f.tmps.getD 44 undef = .int .i64 (t : Int) := finO (V := (VS14 g t n10 n9 dk dm px c)) hall 1 44 rfl
        have q45 : f.tmps.getD 45 undef = .pointer (some ⟨g, t * 32, none⟩) := finO (V := (VS14 g t n10 n9 dk dm px c)) hall 2 45 rfl
        have q46 : f.tmps.getD 46 undef = .agg (ocells (px)) := finO (V := (VS14 g t n10 n9 dk dm px c)) hall 3 46 rfl
        have q47 : f.tmps.getD 47 undef = .int .i64 (t : Int) := finO (V := (VS14 g t n10 n9 dk dm px c)) hall 4 47 rfl
        have q48 : f.tmps.getD 48 undef = .pointer (some ⟨n10, t, none⟩) := finO (V := (VS14 g t n10 n9 dk dm px c)) hall 5 48 rfl
        have q49 : f.tmps.getD 49 undef = .int .i64 (dk : Int) := finO (V := (VS14 g t n10 n9 dk dm px c)) hall 6 49 rfl
        have q50 : f.tmps.getD 50 undef = .int .i64 (t : Int) := finO (V := (VS14 g t n10 n9 dk dm px c)) hall 7 50 rfl
        have q51 : f.tmps.getD 51 undef = .pointer (some ⟨n9, t, none⟩) := finO (V := (VS14 g t n10 n9 dk dm px c)) hall 8 51 rfl
        have q52 : f.tmps.getD 52 undef = .int .i64 (dm : Int) := finO (V := (VS14 g t n10 n9 dk dm px c)) hall 9 52 rfl
        have q53 : f.tmps.getD 53 undef = .int .i64 ((dk : Int) - (dm : Int)) := finO (V := (VS14 g t n10 n9 dk dm px c)) hall 10 53 rfl
        have q54 : f.tmps.getD 54 undef = .int .i64 ((dk - dm : Nat) : Int) := finO (V := (VS14 g t n10 n9 dk dm px c)) hall 11 54 rfl
        have q55 : f.tmps.getD 55 undef = .tuple #[.agg (ocells (c)), .nilIface] := finO (V := (VS14 g t n10 n9 dk dm px c)) hall 12 55 rfl
        have q42 : f.tmps.getD 42 undef = .tuple #[.agg (ocells (c)), .nilIface] := finO (V := (VS14 g t n10 n9 dk dm px c)) hall 13 42 rfl
        have q56 : f.tmps.getD 56 undef = .agg (ocells (c)) := finO (V := (VS14 g t n10 n9 dk dm px c)) hall 14 56 rfl
        have q57 : f.tmps.getD 57 undef = .nilIface := finO (V := (VS14 g t n10 n9 dk dm px c)) hall 15 57 rfl
        obtain ⟨g14, q14, o14, m14⟩ := AllocV.stored (finO (V := (VS14 g t n10 n9 dk dm px c)) hall 16 14 rfl) (finN (V := (VS14 g t n10 n9 dk dm px c)) hall 17 rfl)
        have q15 : f.tmps.getD 15 undef = .nilIface := finO (V := (VS14 g t n10 n9 dk dm px c)) hall 18 15 rfl
        obtain rfl := frame_eq hsame [(43, .slice (some ⟨g, 0, none⟩) 67 67), (44, .int .i64 (t : Int)), (45, .pointer (some ⟨g, t * 32, none⟩)), (46, .agg (ocells (px))), (47, .int .i64 (t : Int)), (48, .pointer (some ⟨n10, t, none⟩)), (49, .int .i64 (dk : Int)), (50, .int .i64 (t : Int)), (51, .pointer (some ⟨n9, t, none⟩)), (52, .int .i64 (dm : Int)), (53, .int .i64 ((dk : Int) - (dm : Int))), (54, .int .i64 ((dk - dm : Nat) : Int)), (55, .tuple #[.agg (ocells (c)), .nilIface]), (42, .tuple #[.agg (ocells (c)), .nilIface]), (56, .agg (ocells (c))), (57, .nilIface), (14, .pointer (some ⟨g14, 0, none⟩)), (15, .nilIface)] (by kernel_rfl) ⟨q43, q44, q45, q46, q47, q48, q49, q50, q51, q52, q53, q54, q55, q42, q56, q57, q14, q15, trivial⟩
        clear hall hsame q43 q44 q45 q46 q47 q48 q49 q50 q51 q52 q53 q54 q55 q42 q56 q57 q14 q15
        simp only [List.foldl, List.setIfInBounds_toArray, List.set_cons_succ, List.set_cons_zero]
        have BZ := Bx.mk hb6; have M14 := Bx.mk m14
        clear hb6 hsn o14 m14
        obtain ⟨wz, hwz⟩ : ∃ wz, wz = u := ⟨_, rfl⟩
        rw [← hwz] at BZ M14 ⊢
        clear hwz
        go_upto_region 15 with (fail)
        refine wp_region_own (n := 114) VS15mk (fun _ => none) (VS15 g' t n9 n10 dm dk py c) (by kernel_rfl) (by kernel_rfl) rfl ?_ ?_ (VS15_mono g' t n9 n10 dm dk py c) ?_ ?_
        · exact fun _ _ => rfl
        · exact fun _ _ _ _ h => by cases h
        · intro oi o hi f u own hsame hsn hfr hdep
          have hb5 := hsn.below (B := wz.heap.size) (fun _ _ => rfl) (Nat.le_refl _)
          have hb6 := BZ.out.trans (hb5.mono BZ.out.size)
          match oi, hi with
          | 0, hi =>
            cases (show some _ = some o from hi)
            have e8 : f.tmps.getD 8 undef = .slice (some ⟨g', 0, none⟩) 67 67 := hsame.slot 8 (fun i o h => invB2_not 8 (by kernel_rfl) h)
            clear hdep hsame hi hfr
            exact ⟨wanted_none rfl, showsO_move hsn rfl _ rfl e8⟩
          | 1, hi =>
            cases (show some _ = some o from hi)
            have e13 : f.tmps.getD 13 undef = .int .i64 (t : Int) := hsame.slot 13 (fun i o h => invB2_not 13 (by kernel_rfl) h)
            clear hdep hsame hi hfr
            exact ⟨wanted_none rfl, showsO_move hsn rfl _ rfl e13⟩
          | 2, hi =>
            cases (show some _ = some o from hi)
            have e59 : f.tmps.getD 59 undef = .slice (some ⟨g', 0, none⟩) 67 67 := depO (V := (VS15 g' t n9 n10 dm dk py c)) hdep 0 59 (by kernel_rfl) (by kernel_rfl)
            have e60 : f.tmps.getD 60 undef = .int .i64 (t : Int) := depO (V := (VS15 g' t n9 n10 dm dk py c)) hdep 1 60 (by kernel_rfl) (by kernel_rfl)
            clear hdep hsame hi hfr
            have hlt := HLT.out
            exact ⟨wanted_none rfl, showsO_pure hsn rfl (.pointer (some ⟨g', t * 32, none⟩)) (by simp only [execOp, Act.eval]; go_simp) rfl⟩
          | 3, hi =>
            cases (show some _ = some o from hi)
            have e61 : f.tmps.getD 61 undef = .pointer (some ⟨g', t * 32, none⟩) := depO (V := (VS15 g' t n9 n10 dm dk py c)) hdep 2 61 (by kernel_rfl) (by kernel_rfl)
            clear hdep hsame hi hfr
            exact ⟨wanted_none rfl, showsO_mid hsn rfl 23 (.tmp 61) rfl g' (t * 32) e61 (bcells (py)) (HRY.out u hb6) underH rfl (hszB' PYL.out) rfl⟩
          | 4, hi =>
            cases (show some _ = some o from hi)
            have e13 : f.tmps.getD 13 undef = .int .i64 (t : Int) := hsame.slot 13 (fun i o h => invB2_not 13 (by kernel_rfl) h)
            clear hdep hsame hi hfr
            exact ⟨wanted_none rfl, showsO_move hsn rfl _ rfl e13⟩
          | 5, hi =>
            cases (show some _ = some o from hi)
            have e9 : f.tmps.getD 9 undef = .pointer (some ⟨n9, 0, none⟩) := hsame.slot 9 (fun i o h => invB2_not 9 (by kernel_rfl) h)
            have e63 : f.tmps.getD 63 undef = .int .i64 (t : Int) := depO (V := (VS15 g' t n9 n10 dm dk py c)) hdep 4 63 (by kernel_rfl) (by kernel_rfl)
            clear hdep hsame hi hfr
            have hlt := HLT.out
            exact ⟨wanted_none rfl, showsO_pure hsn rfl (.pointer (some ⟨n9, t, none⟩)) (by simp only [execOp, Act.eval]; go_simp) rfl⟩
          | 6, hi =>
            cases (show some _ = some o from hi)
            have e64 : f.tmps.getD 64 undef = .pointer (some ⟨n9, t, none⟩) := depO (V := (VS15 g' t n9 n10 dm dk py c)) hdep 5 64 (by kernel_rfl) (by kernel_rfl)
            clear hdep hsame hi hfr
            have hc := Ddm.out u hb6
            exact ⟨wanted_none rfl, showsO_pure hsn rfl (.int .i64 (dm : Int)) (by simp only [execOp, Act.eval]; go_simp) rfl⟩
          | 7, hi =>
            cases (show some _ = some o from hi)
            have e13 : f.tmps.getD 13 undef = .int .i64 (t : Int) := hsame.slot 13 (fun i o h => invB2_not 13 (by kernel_rfl) h)
            clear hdep hsame hi hfr
            exact ⟨wanted_none rfl, showsO_move hsn rfl _ rfl e13⟩
          | 8, hi =>
            cases (show some _ = some o from hi)
            have e10 : f.tmps.getD 10 undef = .pointer (some ⟨n10, 0, none⟩) := hsame.slot 10 (fun i o h => invB2_not 10 (by kernel_rfl) h)
            have e66 : f.tmps.getD 66 undef = .int .i64 (t : Int) := depO (V := (VS15 g' t n9 n10 dm dk py c)) hdep 7 66 (by kernel_rfl) (by kernel_rfl)
            clear hdep hsame hi hfr
            have hlt := HLT.out
            exact ⟨wanted_none rfl, showsO_pure hsn rfl (.pointer (some ⟨n10, t, none⟩)) (by simp only [execOp, Act.eval]; go_simp) rfl⟩
          | 9, hi =>
            cases (show some _ = some o from hi)
            have e67 : f.tmps.getD 67 undef = .pointer (some ⟨n10, t, none⟩) := depO (V := (VS15 g' t n9 n10 dm dk py c)) hdep 8 67 (by kernel_rfl) (by kernel_rfl)
            clear hdep hsame hi hfr
            have hc := Ddk.out u hb6
            exact ⟨wanted_none rfl, showsO_pure hsn rfl (.int .i64 (dk : Int)) (by simp only [execOp, Act.eval]; go_simp) rfl⟩
          | 10, hi =>
            cases (show some _ = some o from hi)
            have e65 : f.tmps.getD 65 undef = .int .i64 (dm : Int) := depO (V := (VS15 g' t n9 n10 dm dk py c)) hdep 6 65 (by kernel_rfl) (by kernel_rfl)
            have e68 : f.tmps.getD 68 undef = .int .i64 (dk : Int) := depO (V := (VS15 g' t n9 n10 dm dk py c)) hdep 9 68 (by kernel_rfl) (by kernel_rfl)
            clear hdep hsame hi hfr
            have hd := HD.out
            exact ⟨wanted_none rfl, showsO_pure hsn rfl (.int .i64 ((dm : Int) - (dk : Int))) (by simp only [execOp, Act.eval]; go_simp; simp [IntKind.wrap, IntKind.bits, IntKind.signed]; omega) rfl⟩
          | 11, hi =>
            cases (show some _ = some o from hi)
            have e69 : f.tmps.getD 69 undef = .int .i64 ((dm : Int) - (dk : Int)) := depO (V := (VS15 g' t n9 n10 dm dk py c)) hdep 10 69 (by kernel_rfl) (by kernel_rfl)
            clear hdep hsame hi hfr
            have hd := HD.out
            exact ⟨wanted_none rfl, showsO_pure hsn rfl (.int .i64 ((dm - dk : Nat) : Int)) (by simp only [execOp, Act.eval]; go_simp; split <;> omega) rfl⟩
          | 12, hi =>
            cases (show some _ = some o from hi)
            have e62 : f.tmps.getD 62 undef = .agg (ocells (py)) := depO (V := (VS15 g' t n9 n10 dm dk py c)) hdep 3 62 (by kernel_rfl) (by kernel_rfl)
            have e70 : f.tmps.getD 70 undef = .int .i64 ((dm - dk : Nat) : Int) := depO (V := (VS15 g' t n9 n10 dm dk py c)) hdep 11 70 (by kernel_rfl) (by kernel_rfl)
            clear hdep hsame hi hfr
            exact ⟨wanted_none rfl, showsO_call1 hsn rfl 17 #[.agg (ocells (py)), .int .i64 ((dm - dk : Nat) : Int)] (by simp only [execOp, Act.eval]; go_simp) (Cpy.out u hb6) (fun _ => rfl)⟩
          | 13, hi =>
            cases (show some _ = some o from hi)
            have e71 : f.tmps.getD 71 undef = .tuple #[.agg (ocells (c)), .nilIface] := depO (V := (VS15 g' t n9 n10 dm dk py c)) hdep 12 71 (by kernel_rfl) (by kernel_rfl)
            clear hdep hsame hi hfr
            exact ⟨wanted_none rfl, showsO_move hsn rfl _ rfl e71⟩
          | 14, hi =>
            cases (show some _ = some o from hi)
            have e58 : f.tmps.getD 58 undef = .tuple #[.agg (ocells (c)), .nilIface] := depO (V := (VS15 g' t n9 n10 dm dk py c)) hdep 13 58 (by kernel_rfl) (by kernel_rfl)
            clear hdep hsame hi hfr
            exact ⟨wanted_none rfl, showsO_pure hsn rfl (.agg (ocells (c))) (by simp only [execOp, Act.eval]; go_simp) rfl⟩
          | 15, hi =>
            cases (show some _ = some o from hi)
            have e58 : f.tmps.getD 58 undef = .tuple #[.agg (ocells (c)), .nilIface] := depO (V := (VS15 g' t n9 n10 dm dk py c)) hdep 13 58 (by kernel_rfl) (by kernel_rfl)
            clear hdep hsame hi hfr
            exact ⟨wanted_none rfl, showsO_pure hsn rfl (.nilIface) (by simp only [execOp, Act.eval]; go_simp) rfl⟩
          | 16, hi =>
            cases (show some _ = some o from hi)
            clear hdep hsame hi
            exact ⟨wanted_none rfl, showsO_alloc hsn hfr rfl zeros32 23 17 rfl (by simp only [execOp, Act.eval]; go_simp; rfl) (fun h => h)⟩
          | 17, hi =>
            cases (show some _ = some o from hi)
            have e16 : AllocV own u (f.tmps.getD 16 undef) 17 23 32 := depO (V := (VS15 g' t n9 n10 dm dk py c)) hdep 16 16 (by kernel_rfl) (by kernel_rfl)
            have e72 : f.tmps.getD 72 undef = .agg (ocells (c)) := depO (V := (VS15 g' t n9 n10 dm dk py c)) hdep 14 72 (by kernel_rfl) (by kernel_rfl)
            clear hdep hsame hi hfr
            exact ⟨wanted_none rfl, showsO_store_alloc hsn rfl 23 (.tmp 16) (.tmp 72) rfl e16 (ocells (c)) e72 (hszL CL.out) (by rw [ocells_size, CL.out]) (ocells_one _) (fun _ h => h)⟩
          | 18, hi =>
            cases (show some _ = some o from hi)
            have e73 : f.tmps.getD 73 undef = .nilIface := depO (V := (VS15 g' t n9 n10 dm dk py c)) hdep 15 73 (by kernel_rfl) (by kernel_rfl)
            clear hdep hsame hi hfr
            exact ⟨wanted_none rfl, showsO_assign hsn rfl _ rfl e73⟩
          | n + 19, hi => exact absurd hi (by simp)
        · intro f u own hsame hsn hall
          have hb6 := hsn.below (B := wz.heap.size) (fun _ _ => rfl) (Nat.le_refl _)
          have q59 : f.tmps.getD 59 undef = .slice (some ⟨g', 0, none⟩) 67 67 := finO (V := (VS15 g' t n9 n10 dm dk py c)) hall 0 59 rfl
          have q60 : f.tmps.getD 60 undef = .int .i64 (t : Int) := finO (V := (VS15 g' t n9 n10 dm dk py c)) hall 1 60 rfl
          have q61 : f.tmps.getD 61 undef = .pointer (some ⟨g', t * 32, none⟩) := finO (V := (VS15 g' t n9 n10 dm dk py c)) hall 2 61 rfl
          have q62 : f.tmps.getD 62 undef = .agg (ocells (py)) := finO (V := (VS15 g' t n9 n10 dm dk py c)) hall 3 62 rfl
          have q63 : f.tmps.getD 63 undef = .int .i64 (t : Int) := finO (V := (VS15 g' t n9 n10 dm dk py c)) hall 4 63 rfl
          have q64 : f.tmps.getD 64 undef = .pointer (some ⟨n9, t, none⟩) := finO (V := (VS15 g' t n9 n10 dm dk py c)) hall 5 64 rfl
          have q65 : f.tmps.getD 65 undef = .int .i64 (dm : Int) := finO (V := (VS15 g' t n9 n10 dm dk py c)) hall 6 65 rfl
          have q66 : f.tmps.getD 66 undef = .int .i64 (t : Int) := finO (V := (VS15 g' t n9 n10 dm dk py c)) hall 7 66 rfl
          have q67 : f.tmps.getD 67 undef = .pointer (some ⟨n10, t, none⟩) := finO (V := (VS15 g' t n9 n10 dm dk py c)) hall 8 67 rfl
          have q68 : f.tmps.getD 68 undef = .int .i64 (dk : Int) := finO (V := (VS15 g' t n9 n10 dm dk py c)) hall 9 68 rfl
          have q69 : f.tmps.getD 69 undef = .int .i64 ((dm : Int) - (dk : Int)) := finO (V := (VS15 g' t n9 n10 dm dk py c)) hall 10 69 rfl
          have q70 : f.tmps.getD 70 undef = .int .i64 ((dm - dk : Nat) : Int) := finO (V := (VS15 g' t n9 n10 dm dk py c)) hall 11 70 rfl
          have q71 : f.tmps.getD 71 undef = .tuple #[.agg (ocells (c)), .nilIface] := finO (V := (VS15 g' t n9 n10 dm dk py c)) hall 12 71 rfl
          have q58 : f.tmps.getD 58 undef = .tuple #[.agg (ocells (c)), .nilIface] := finO (V := (VS15 g' t n9 n10 dm dk py c)) hall 13 58 rfl
          have q72 : f.tmps.getD 72 undef = .agg (ocells (c)) := finO (V := (VS15 g' t n9 n10 dm dk py c)) hall 14 72 rfl
          have q73 : f.tmps.getD 73 undef = .nilIface := finO (V := (VS15 g' t n9 n10 dm dk py c)) hall 15 73 rfl
          obtain ⟨g16, q16, o16, m16⟩ := AllocV.stored (finO (V := (VS15 g' t n9 n10 dm dk py c)) hall 16 16 rfl) (finN (V := (VS15 g' t n9 n10 dm dk py c)) hall 17 rfl)
          have q17 : f.tmps.getD 17 undef = .nilIface := finO (V := (VS15 g' t n9 n10 dm dk py c)) hall 18 17 rfl
          obtain rfl := frame_eq hsame [(59, .slice (some ⟨g', 0, none⟩) 67 67), (60, .int .i64 (t : Int)), (61, .pointer (some ⟨g', t * 32, none⟩)), (62, .agg (ocells (py))), (63, .int .i64 (t : Int)), (64, .pointer (some ⟨n9, t, none⟩)), (65, .int .i64 (dm : Int)), (66, .int .i64 (t : Int)), (67, .pointer (some ⟨n10, t, none⟩)), (68, .int .i64 (dk : Int)), (69, .int .i64 ((dm : Int) - (dk : Int))), (70, .int .i64 ((dm - dk : Nat) : Int)), (71, .tuple #[.agg (ocells (c)), .nilIface]), (58, .tuple #[.agg (ocells (c)), .nilIface]), (72, .agg (ocells (c))), (73, .nilIface), (16, .pointer (some ⟨g16, 0, none⟩)), (17, .nilIface)] (by kernel_rfl) ⟨q59, q60, q61, q62, q63, q64, q65, q66, q67, q68, q69, q70, q71, q58, q72, q73, q16, q17, trivial⟩
          clear hall hsame q59 q60 q61 q62 q63 q64 q65 q66 q67 q68 q69 q70 q71 q58 q72 q73 q16 q17
          simp only [List.foldl, List.setIfInBounds_toArray, List.set_cons_succ, List.set_cons_zero]
          have BU := Bx.mk (BZ.out.trans (hb6.mono BZ.out.size))
          have hcm := Ddm.out u BU.out
          have hcd := Ddk.out u BU.out
          have HB8 := Bx.mk (HB.out.trans (BU.out.mono HB.out.size))
          have N14 := Bx.mk ((hb6.block g14 (Array.getElem?_eq_some_iff.1 M14.out).1).trans M14.out)
          have N16 := Bx.mk m16
          have q := fun u => hv_neq u c c CL.out CL.out
          simp only [beq_self_eq_true, hv_agg, Bool.not_true] at q
          have sA := exlt_succ m k t
          have sB := exlt_succ k m t
          rw [hdme, hdke] at sA sB
          generalize exlt m k t = av at sA ⊢
          generalize exlt k m t = bv at sB ⊢
          have HA := Bx.mk sA; have HBv := Bx.mk sB; have HDM := Bx.mk hdme; have HDK := Bx.mk hdke
          clear hb6 hsn o16 m16 sA sB hdme hdke
          go_upto_region 18 with (first
            | (guard_target =~ wpList _ _ _ (⟨some 81, _, _, _, _, _⟩ :: _) _ _; refine wpList_load_row_w (by simp [Region.wanted, yielded]) 23 (.tmp 14) rfl g14 rfl _ _ _ _ N14.out underH rfl (hszL CL.out) ?_)
            | (guard_target =~ wpList _ _ _ (⟨some 82, _, _, _, _, _⟩ :: _) _ _; refine wpList_load_row_w (by simp [Region.wanted, yielded, Act.put]) 23 (.tmp 16) rfl g16 rfl _ _ _ _ N16.out underH rfl (hszL CL.out) ?_))
          cases av <;> cases bv
          all_goals
            go_region
            go_upto_region 19 with (fail)
            go_region
            go_wp2_with fail
            go_roundw
            case rel => exact ⟨t + 1, HLT.out, by go_num, by rw [HA.out]; simp, by rw [HBv.out]; simp, Below.drew (Below.drew HB8.out)⟩
            case measure => have := HLT.out; simp [intOf]; omega
    · obtain rfl : t = 67 := by omega
      have Z1 := Bx.mk (Y1.out.below hb); have Z2 := Bx.mk (Y2.out.below hb); have KZ := Bx.mk (KW.out _ hb)
      have q := fun u => hv_eq u m k ML.out KL.out
      simp only [hv_agg] at q
      clear hb ht hlt
      by_cases he : m = k
      · rw [show (m == k) = true by simp [he]] at q
        clear he
        generalize exlt m k 67 = av
        generalize exlt k m 67 = bv
        go_wp2_with (first
          | (guard_target =~ wpList _ _ _ (⟨some 105, _, _, _, _, _⟩ :: _) _ _; refine wpList_load_row rfl 23 (.tmp 4) rfl (N + 1) rfl _ _ _ _ Z1.out.1 underH rfl (hszL ML.out) ?_)
          | (guard_target =~ wpList _ _ _ (⟨some 106, _, _, _, _, _⟩ :: _) _ _; refine wpList_load_row rfl 23 (.tmp 5) rfl (N + 1 + 1) rfl _ _ _ _ Z2.out.1 underH rfl (hszL KL.out) ?_))
        exact bodyPost_ret (results_tmp rfl _ _ _) rfl ⟨rfl, KZ.out⟩
      · rw [show (m == k) = false by simpa using he] at q
        have ha := exlt_67 m k ML.out KL.out he
        have hbv := exlt_67 k m KL.out ML.out (fun e => he e.symm)
        rw [ha, hbv]
        clear he ha hbv
        go_wp2_with (first
          | (guard_target =~ wpList _ _ _ (⟨some 105, _, _, _, _, _⟩ :: _) _ _; refine wpList_load_row rfl 23 (.tmp 4) rfl (N + 1) rfl _ _ _ _ Z1.out.1 underH rfl (hszL ML.out) ?_)
          | (guard_target =~ wpList _ _ _ (⟨some 106, _, _, _, _, _⟩ :: _) _ _; refine wpList_load_row rfl 23 (.tmp 5) rfl (N + 1 + 1) rfl _ _ _ _ Z2.out.1 underH rfl (hszL KL.out) ?_))
        exact bodyPost_ret (results_tmp rfl _ _ _) rfl ⟨rfl, KZ.out⟩
end Go.Proofs.YtohifpomdanmkaaDoor
