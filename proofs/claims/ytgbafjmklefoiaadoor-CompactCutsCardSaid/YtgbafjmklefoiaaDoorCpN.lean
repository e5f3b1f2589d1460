/- cartularylaw09.mth. -/
import Derived.Test.YtgbafjmklefoiaaDoorCpM
namespace Go.Proofs.YtgbafjmklefoiaaDoor
set_option maxRecDepth 100000
open Go.RowKit
theorem Hss.dropC {w : World} {B off n cap : Nat} {hs : List (List UInt8)} (h : Hss w (.slice (some ⟨B, off, none⟩) n cap) hs) (k : Nat) (hk : k ≤ hs.length) : Hss w (.slice (some ⟨B, off + k * 32, none⟩) (n - k) (cap - k)) (hs.drop k) := by
  obtain ⟨h0, a', cap', h1, h2, h3, h4⟩ := h
  cases h1
  refine ⟨fun x hx => h0 x (List.mem_of_mem_drop hx), _, cap - k, by rw [List.length_drop], by rw [List.length_drop]; omega, by omega, fun hne => ?_⟩
  obtain ⟨B', o', e1, e2, e3⟩ := h4 (fun e => hne (by rw [e]; simp))
  cases e1
  refine ⟨B, off + k * 32, rfl, e2, fun i hi => ?_⟩
  rw [List.length_drop] at hi
  have := e3 (k + i) (by omega)
  rw [List.getElem_drop]
  rwa [show off + k * 32 + i * 32 = off + (k + i) * 32 by omega]
def VN9 (Ba off L cap k N : Nat) (x y z : List UInt8) (oi : Nat) (v : Value) (own : Nat → Option Nat) (w : World) : Prop :=
  match oi with
  | 0 => v = .slice (some ⟨Ba, off, none⟩) L cap
  | 1 => v = .int .i64 (k : Int)
  | 2 => v = .slice (some ⟨Ba, off, none⟩) k cap
  | 3 => v = .agg (ocells (x))
  | 4 => v = .slice (some ⟨Ba, off, none⟩) L cap
  | 5 => v = .int .i64 (k : Int)
  | 6 => v = .slice (some ⟨Ba, off + k * 32, none⟩) (L - k) (cap - k)
  | 7 => v = .agg (ocells (y))
  | 8 => v = .agg (ocells (z))
  | 9 => OutV own w (N) 9 28 (ocells (z))
  | _ => True
def VN9mk : Nat → Option Nat := fun _ => none
theorem VN9_mono (Ba off L cap k N : Nat) (x y z : List UInt8) (oi oj : Nat) (v : Value) (own : Nat → Option Nat) (w : World) (own' : Nat → Option Nat) (w' : World) (hij : oi ≠ oj)   (h : VN9 Ba off L cap k N x y z oj v own w) (r : Rel VN9mk oi own w own' w') : VN9 Ba off L cap k N x y z oj v own' w' := by
  unfold VN9 at h ⊢
  split at h
  · exact h
  · exact h
  · exact h
  · exact h
  · exact h
  · exact h
  · exact h
  · exact h
  · exact h
  · exact h.stable r hij
  · trivial

set_option maxHeartbeats 3200000 in
theorem mth09_any (L : Nat) : ∀ (w : World) (ad : Option Addr) (n cap : Nat) (l : List (List UInt8)), l.length = L → L ≤ 1099511627776 → Hss w (.slice ad n cap) l → TabS w →
    Calls Tryd.prog 10 #[.slice ad n cap] w fun e w' => e = .returned (hv (mthC l)) ∧ Below w.heap.size w w' := by
  induction L using Nat.strongRecOn with
  | _ L ih =>
    intro w ad n cap l hlm hm hH hT
    have x0 : (w.alloc (.cells zeros32 28)).heap[w.heap.size]? = some (.cells zeros32 28 (0, 0)) := heap_alloc_new _ _
    have kb := er_al (Below.refl w.heap.size w) (.cells zeros32 28)
    obtain ⟨_, c', e1, hc1, hc2⟩ := hH.len
    have hcc : cap = c' := by cases e1; rfl
    subst hcc
    have hn : n = l.length := by cases e1; rfl
    subst hn
    rw [hlm] at hc1 hH ⊢
    have HHS := Bx.mk hH; have HT := Bx.mk hT; have LC := Bx.mk hc1; have CM := Bx.mk hc2; have HLM := Bx.mk hlm; have IHH := Bx.mk ih; have HM40 := Bx.mk hm
    clear e1 hH hT hc1 hc2 ih hm hlm
    unfold hv
    go_enter Tryd.func10, Tryd.ntmps10
    go_upto_region 1 with (fail)
    change Code.wp _ _ _ _ (w.alloc (.cells zeros32 28))
    generalize w.alloc (.cells zeros32 28) = W at x0 kb ⊢
    obtain ⟨N, hN⟩ : ∃ N, N = w.heap.size := ⟨_, rfl⟩
    rw [← hN] at x0 ⊢
    have X0 := Bx.mk x0; have KB := Bx.mk kb; have NL := Bx.mk (show w.heap.size ≤ N by omega)
    clear x0 kb hN
    by_cases h0 : L = 0
    · subst h0
      obtain rfl : l = [] := List.length_eq_zero_iff.1 HLM.out
      have SL := Bx.mk (sha_length [])
      have HV := Bx.mk mthC_nil
      clear IHH HM40
      go_wp2_with fail
      refine (empty_any W (HT.out.below KB.out)).mono ?_
      rintro e W2 ⟨rfl, hb⟩
      have X2 := Bx.mk ((hb.block _ (Array.getElem?_eq_some_iff.1 X0.out).1).trans X0.out); have K2 := Bx.mk (KB.out.trans (hb.mono KB.out.size))
      clear hb
      rw [hv_agg]
      go_wp2_with (guard_target =~ wpList _ _ _ (⟨none, _, _, _, _, _⟩ :: _) _ _; refine wpList_store_row rfl 28 (.tmp 2) (.tmp 9) rfl N (ocells (sha [])) rfl rfl _ _ X2.out (hszL SL.out) (hsoL SL.out) (ocells_one _) ?_)
      exact bodyPost_ret (results_cell_row rfl _ _ N _ (ocells (sha [])) _ _ rfl (setRow_heap _ _ _ _ _ _ X2.out) underH rfl (hszL SL.out)) rfl ⟨by rw [HV.out]; rfl, below_setRow K2.out NL.out _⟩
    · have e0 : ¬ (L : Int) = 0 := by omega
      have e0' : ((L : Int) == 0) = false := beq_eq_false_iff_ne.2 e0
      have e0n : (L == 0) = false := beq_eq_false_iff_ne.2 (by omega)
      by_cases h1 : L = 1
      · subst h1
        obtain ⟨p, rfl⟩ : ∃ p, l = [p] := by
          have := HLM.out
          match l, this with
          | [p], _ => exact ⟨p, rfl⟩
        obtain ⟨hj1, hj2, hj3, Ba, off, rfl, hBl, hr, hp0⟩ := HHS.out.at 0 (by simp)
        clear hj1 hj2 hj3
        rw [Nat.zero_mul, Nat.add_zero] at hr
        have hr' : w.rangeAt Ba off (bcells p) := hr
        have hp' : p.length = 32 := hp0
        have hr2 := rangeAt_below hr' hBl KB.out
        have RG := Bx.mk hr2; have PL := Bx.mk hp'; have HV := Bx.mk (mthC_one p)
        clear hr hr' hr2 hp0 hp' hBl e0 e0' e0n HM40 IHH h0
        go_wp2_with (first | (guard_target =~ wpList _ _ _ (⟨some 14, _, _, _, _, _⟩ :: _) _ _; refine wpList_load_mid rfl 28 (.tmp 13) rfl Ba off rfl (bcells p) _ RG.out underH rfl (hszB' PL.out) ?_; change wpList _ _ _ _ (Act.put _ _ (.agg (ocells p))) _) | (guard_target =~ wpList _ _ _ (⟨none, _, _, _, _, _⟩ :: _) _ _; refine wpList_store_row rfl 28 (.tmp 2) (.tmp 14) rfl N (ocells p) rfl rfl _ _ X0.out (hszL PL.out) (hsoL PL.out) (ocells_one _) ?_))
        exact bodyPost_ret (results_cell_row rfl _ _ N _ (ocells p) _ _ rfl (setRow_heap _ _ _ _ _ _ X0.out) underH rfl (hszL PL.out)) rfl ⟨by rw [HV.out]; rfl, below_setRow KB.out NL.out _⟩
      · have e1 : ¬ (L : Int) = 1 := by omega
        have e1' : ((L : Int) == 1) = false := beq_eq_false_iff_ne.2 e1
        have e1n : (L == 1) = false := beq_eq_false_iff_ne.2 (by omega)
        have h2 : 2 ≤ L := by omega
        obtain ⟨g1, g2, g3⟩ := half_pos h2
        obtain ⟨hj1, hj2, hj3, Ba, off, rfl, hBl, hj4, hj5⟩ := HHS.out.at 0 (by rw [HLM.out]; omega)
        clear hj1 hj2 hj3 hj4 hj5
        have htk := HHS.out.take (half L) (by rw [HLM.out]; omega)
        have hdr := Hss.dropC HHS.out (half L) (by rw [HLM.out]; omega)
        have hv0 := mthC_node (l := l) (by rw [HLM.out]; exact h2)
        rw [HLM.out] at hv0
        have x32 := mthC_length _ _ (Nat.le_refl _) htk.1
        have y32 := mthC_length _ _ (Nat.le_refl _) hdr.1
        have l1 : (l.take (half L)).length = half L := by rw [List.length_take, HLM.out]; omega
        have l2 : (l.drop (half L)).length = L - half L := by rw [List.length_drop, HLM.out]
        have hh : ∀ K, (∃ m, K = 2 ^ m) → K < L → ¬ 2 * K < L → half L = K := fun K hm h1 h2 => by
          obtain ⟨m, rfl⟩ := hm
          exact half_of ⟨h1, by rw [Nat.pow_succ]; omega⟩
        have cx : ∀ u, Below w.heap.size w u → _ := fun u hu => IHH.out (half L) (by omega) u (some ⟨Ba, off, none⟩) (half L) cap (l.take (half L)) l1 (by have := HM40.out; omega) (htk.below hu) (HT.out.below hu)
        have cy : ∀ u, Below w.heap.size w u → _ := fun u hu => IHH.out (L - half L) (by omega) u (some ⟨Ba, off + half L * 32, none⟩) (L - half L) (cap - half L) (l.drop (half L)) l2 (by have := HM40.out; omega) (hdr.below hu) (HT.out.below hu)
        obtain ⟨x, hx⟩ : ∃ x, x = mthC (l.take (half L)) := ⟨_, rfl⟩
        obtain ⟨y, hy⟩ : ∃ y, y = mthC (l.drop (half L)) := ⟨_, rfl⟩
        rw [← hx] at cx x32 hv0; rw [← hy] at cy y32 hv0
        have cn : ∀ u, Below w.heap.size w u → _ := fun u hu => node_any u x y x32 y32 (HT.out.below hu)
        obtain ⟨z, hz⟩ : ∃ z, z = nd x y := ⟨_, rfl⟩
        have hz1 : sha (1 :: (x ++ y)) = z := hz.symm
        rw [← hz] at hv0
        have ZL := Bx.mk (show z.length = 32 by rw [hz]; exact nd_length _ _)
        generalize half L = k at hh g1 g2 g3 cx cy
        simp only [hv_agg, hz1] at cx cy cn
        have CX := Bx.mk cx; have CY := Bx.mk cy; have CN := Bx.mk cn; have HK := Bx.mk hh; have HV := Bx.mk hv0; have KL := Bx.mk g2; have LM := Bx.mk HM40.out
        clear cx cy cn hh hv0 htk hdr x32 y32 l1 l2 hx hy hz hz1 hBl g1 g2 g3 IHH h0 h1
        go_upto_region 6 with (fail)
        go_wp2_with fail
        clear e0 e0' e0n e1 e1' e1n
        go_loopw [4] (fun i wr => wr = W ∧ ∃ K : Nat, 1 ≤ K ∧ K < L ∧ i = .int .i64 (K : Int) ∧ ∃ m, K = 2 ^ m) (fun i _ => L - (intOf i).toNat)
        case atStart => exact ⟨rfl, 1, Nat.le_refl _, by omega, rfl, 0, rfl⟩
        case round =>
          obtain ⟨rfl, K, hK1, hK, rfl, hm⟩ := hrel
          have HM := Bx.mk hm; clear hm
          have lm := LM.out
          have d2 : IntKind.i64.wrap (2 * (K : Int)) = 2 * (K : Int) := by simp [IntKind.wrap, IntKind.bits, IntKind.signed]; omega
          by_cases hc : 2 * K < L
          · have hc' : 2 * (K : Int) < (L : Int) := by omega
            go_wp2_with fail
            clear d2
            go_roundw
            case rel =>
              obtain ⟨m, hm⟩ := HM.out
              exact ⟨trivial, 2 * K, by omega, by omega, by go_num, m + 1, by rw [hm, Nat.pow_succ]; omega⟩
            case measure => simp [intOf]; omega
          · have hc' : ¬ 2 * (K : Int) < (L : Int) := by omega
            obtain rfl : k = K := HK.out K HM.out hK hc
            clear hc hK
            go_upto_region 9 with (fail)
            clear d2 hc' lm HM
            refine wp_region_own8 (n := 30) VN9mk (fun k => if k = N then some 9 else none) (VN9 Ba off L cap k N x y z) (by kernel_rfl) (by kernel_rfl) rfl (fun k hk => if_neg (by have := (Array.getElem?_eq_some_iff.1 X0.out).1; omega)) (fun j i hj _ => by cases hj) ?_ ?_ ?_
            · exact fun oi oj v own w own' w' hij _ h r => VN9_mono Ba off L cap k N x y z oi oj v own w own' w' hij h r
            · intro oi o hi f u own hsame hsn hfr hlate hkeep8 hdep
              have hkeep := hkeep8 _ (.inl rfl)
              have hk6 := hsn.keepOne
              have hbw : Below w.heap.size w u := KB.out.trans (hk6.below (B := w.heap.size) KB.out.size (fun j hj => hj ▸ NL.out))
              match oi, hi with
              | 0, hi =>
                cases (show some _ = some o from hi)
                have e0 : f.tmps.getD 0 undef = .slice (some ⟨Ba, off, none⟩) L cap := hsame.slot 0 (fun i o h => invB2_not 0 (by kernel_rfl) h)
                clear hdep hsame hi hlate hfr hkeep
                exact .inl ⟨wanted_none rfl, showsO_move hsn rfl _ rfl e0⟩
              | 1, hi =>
                cases (show some _ = some o from hi)
                have e4 : f.tmps.getD 4 undef = .int .i64 (k : Int) := hsame.slot 4 (fun i o h => invB2_not 4 (by kernel_rfl) h)
                clear hdep hsame hi hlate hfr hkeep
                exact .inl ⟨wanted_none rfl, showsO_move hsn rfl _ rfl e4⟩
              | 2, hi =>
                cases (show some _ = some o from hi)
                have e21 : (f.tmps.getD 21 undef) = .slice (some ⟨Ba, off, none⟩) L cap := depO (V := (VN9 Ba off L cap k N x y z)) hdep 0 21 (by kernel_rfl) (by kernel_rfl)
                have e22 : (f.tmps.getD 22 undef) = .int .i64 (k : Int) := depO (V := (VN9 Ba off L cap k N x y z)) hdep 1 22 (by kernel_rfl) (by kernel_rfl)
                clear hdep hsame hi hlate hfr hkeep
                have h1 : (0 : Int) ≤ (k : Int) := by omega
                have h2 : (k : Int) ≤ (cap : Int) := by have := KL.out; have := LC.out; omega
                exact .inl ⟨wanted_none rfl, showsO_pure hsn rfl (.slice (some ⟨Ba, off, none⟩) k cap) (by simp only [execOp, Act.eval]; go_simp) rfl⟩
              | 3, hi =>
                cases (show some _ = some o from hi)
                have e23 : (f.tmps.getD 23 undef) = .slice (some ⟨Ba, off, none⟩) k cap := depO (V := (VN9 Ba off L cap k N x y z)) hdep 2 23 (by kernel_rfl) (by kernel_rfl)
                clear hdep hsame hi hlate hfr hkeep
                have c := CX.out u hbw
                exact .inl ⟨wanted_none rfl, showsO_call1 hsn rfl 10 #[.slice (some ⟨Ba, off, none⟩) k cap] (by simp only [execOp, Act.eval]; go_simp) (c) (fun _ => rfl)⟩
              | 4, hi =>
                cases (show some _ = some o from hi)
                have e0 : f.tmps.getD 0 undef = .slice (some ⟨Ba, off, none⟩) L cap := hsame.slot 0 (fun i o h => invB2_not 0 (by kernel_rfl) h)
                clear hdep hsame hi hlate hfr hkeep
                exact .inl ⟨wanted_none rfl, showsO_move hsn rfl _ rfl e0⟩
              | 5, hi =>
                cases (show some _ = some o from hi)
                have e4 : f.tmps.getD 4 undef = .int .i64 (k : Int) := hsame.slot 4 (fun i o h => invB2_not 4 (by kernel_rfl) h)
                clear hdep hsame hi hlate hfr hkeep
                exact .inl ⟨wanted_none rfl, showsO_move hsn rfl _ rfl e4⟩
              | 6, hi =>
                cases (show some _ = some o from hi)
                have e25 : (f.tmps.getD 25 undef) = .slice (some ⟨Ba, off, none⟩) L cap := depO (V := (VN9 Ba off L cap k N x y z)) hdep 4 25 (by kernel_rfl) (by kernel_rfl)
                have e26 : (f.tmps.getD 26 undef) = .int .i64 (k : Int) := depO (V := (VN9 Ba off L cap k N x y z)) hdep 5 26 (by kernel_rfl) (by kernel_rfl)
                clear hdep hsame hi hlate hfr hkeep
                have h1 : (0 : Int) ≤ (k : Int) := by omega
                have h2 : (k : Int) ≤ (L : Int) := by have := KL.out; omega
                have h3 : ¬ cap = k := by have := KL.out; have := LC.out; omega
                exact .inl ⟨wanted_none rfl, showsO_pure hsn rfl (.slice (some ⟨Ba, off + k * 32, none⟩) (L - k) (cap - k)) (by simp only [execOp, Act.eval]; go_simp) rfl⟩
              | 7, hi =>
                cases (show some _ = some o from hi)
                have e27 : (f.tmps.getD 27 undef) = .slice (some ⟨Ba, off + k * 32, none⟩) (L - k) (cap - k) := depO (V := (VN9 Ba off L cap k N x y z)) hdep 6 27 (by kernel_rfl) (by kernel_rfl)
                clear hdep hsame hi hlate hfr hkeep
                have c := CY.out u hbw
                exact .inl ⟨wanted_none rfl, showsO_call1 hsn rfl 10 #[.slice (some ⟨Ba, off + k * 32, none⟩) (L - k) (cap - k)] (by simp only [execOp, Act.eval]; go_simp) (c) (fun _ => rfl)⟩
              | 8, hi =>
                cases (show some _ = some o from hi)
                have e24 : (f.tmps.getD 24 undef) = .agg (ocells (x)) := depO (V := (VN9 Ba off L cap k N x y z)) hdep 3 24 (by kernel_rfl) (by kernel_rfl)
                have e28 : (f.tmps.getD 28 undef) = .agg (ocells (y)) := depO (V := (VN9 Ba off L cap k N x y z)) hdep 7 28 (by kernel_rfl) (by kernel_rfl)
                clear hdep hsame hi hlate hfr hkeep
                have c := CN.out u hbw
                exact .inl ⟨wanted_none rfl, showsO_call1 hsn rfl 24 #[.agg (ocells (x)), .agg (ocells (y))] (by simp only [execOp, Act.eval]; go_simp) (c) (fun _ => rfl)⟩
              | 9, hi =>
                cases (show some _ = some o from hi)
                have e2 : f.tmps.getD 2 undef = .pointer (some ⟨N, 0, none⟩) := hsame.slot 2 (fun i o h => invB2_not 2 (by kernel_rfl) h)
                have e29 : (f.tmps.getD 29 undef) = .agg (ocells (z)) := depO (V := (VN9 Ba off L cap k N x y z)) hdep 8 29 (by kernel_rfl) (by kernel_rfl)
                clear hdep hsame hi hlate hfr hkeep
                exact .inl ⟨wanted_none rfl, showsO_store_out hsn rfl 28 (.tmp 2) (.tmp 29) rfl (N) e2 X0.out (if_pos rfl) (ocells (z)) e29 (hszL ZL.out) (by rw [ocells_size, ZL.out]; rfl) (ocells_one _) (fun _ h => h)⟩
              | n + 10, hi => exact absurd hi (by simp)
            intro fr u2 own hsame hsn hall
            have q21 : fr.tmps.getD 21 undef = .slice (some ⟨Ba, off, none⟩) L cap := finO (V := (VN9 Ba off L cap k N x y z)) hall 0 21 rfl
            have q22 : fr.tmps.getD 22 undef = .int .i64 (k : Int) := finO (V := (VN9 Ba off L cap k N x y z)) hall 1 22 rfl
            have q23 : fr.tmps.getD 23 undef = .slice (some ⟨Ba, off, none⟩) k cap := finO (V := (VN9 Ba off L cap k N x y z)) hall 2 23 rfl
            have q24 : fr.tmps.getD 24 undef = .agg (ocells (x)) := finO (V := (VN9 Ba off L cap k N x y z)) hall 3 24 rfl
            have q25 : fr.tmps.getD 25 undef = .slice (some ⟨Ba, off, none⟩) L cap := finO (V := (VN9 Ba off L cap k N x y z)) hall 4 25 rfl
            have q26 : fr.tmps.getD 26 undef = .int .i64 (k : Int) := finO (V := (VN9 Ba off L cap k N x y z)) hall 5 26 rfl
            have q27 : fr.tmps.getD 27 undef = .slice (some ⟨Ba, off + k * 32, none⟩) (L - k) (cap - k) := finO (V := (VN9 Ba off L cap k N x y z)) hall 6 27 rfl
            have q28 : fr.tmps.getD 28 undef = .agg (ocells (y)) := finO (V := (VN9 Ba off L cap k N x y z)) hall 7 28 rfl
            have q29 : fr.tmps.getD 29 undef = .agg (ocells (z)) := finO (V := (VN9 Ba off L cap k N x y z)) hall 8 29 rfl
            obtain ⟨o_9, m_9⟩ : OutV own u2 (N) 9 28 (ocells (z)) := finN (V := (VN9 Ba off L cap k N x y z)) hall 9 rfl
            obtain rfl := frame_eq hsame [(21, .slice (some ⟨Ba, off, none⟩) L cap), (22, .int .i64 (k : Int)), (23, .slice (some ⟨Ba, off, none⟩) k cap), (24, .agg (ocells (x))), (25, .slice (some ⟨Ba, off, none⟩) L cap), (26, .int .i64 (k : Int)), (27, .slice (some ⟨Ba, off + k * 32, none⟩) (L - k) (cap - k)), (28, .agg (ocells (y))), (29, .agg (ocells (z)))] (by kernel_rfl) ⟨q21, q22, q23, q24, q25, q26, q27, q28, q29, trivial⟩
            clear hall hsame q21 q22 q23 q24 q25 q26 q27 q28 q29
            simp only [List.foldl, List.setIfInBounds_toArray, List.set_cons_succ, List.set_cons_zero]
            have hk6 := hsn.keepOne
            have M9 := Bx.mk m_9
            have K2 := Bx.mk (KB.out.trans (hk6.below (B := w.heap.size) KB.out.size (fun j hj => hj ▸ NL.out)))
            clear hk6 m_9 o_9 hsn
            go_wp2_with fail
            exact bodyPost_ret (results_cell_row rfl _ _ N _ (ocells z) _ _ rfl M9.out underH rfl (hszL ZL.out)) rfl ⟨by rw [HV.out]; rfl, K2.out⟩
end Go.Proofs.YtgbafjmklefoiaaDoor
