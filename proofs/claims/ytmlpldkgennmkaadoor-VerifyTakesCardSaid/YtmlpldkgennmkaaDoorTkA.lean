/- cartularylaw18.half, mth, path, sub. -/
import Derived.Test.YtmlpldkgennmkaaDoorTkP
import Derived.Test.YtmlpldkgennmkaaDoorOwn6
import Derived.Test.YtmlpldkgennmkaaDoorBs1
import Derived.Test.YtmlpldkgennmkaaDoorVv
namespace Go.Proofs.YtmlpldkgennmkaaDoor
set_option maxRecDepth 100000
open Go.RowKit
theorem Hss.drop {w : World} {B off n cap : Nat} {hs : List (List UInt8)} (h : Hss w (.slice (some ⟨B, off, none⟩) n cap) hs) (k : Nat) (hk : k ≤ hs.length) : Hss w (.slice (some ⟨B, off + k * 32, none⟩) (n - k) (cap - k)) (hs.drop k) := by
  obtain ⟨h0, a', cap', h1, h2, h3, h4⟩ := h
  cases h1
  refine ⟨fun x hx => h0 x (List.mem_of_mem_drop hx), _, cap - k, by rw [List.length_drop], by rw [List.length_drop]; omega, by omega, fun hne => ?_⟩
  obtain ⟨B', o', e1, e2, e3⟩ := h4 (fun e => hne (by rw [e]; simp))
  cases e1
  refine ⟨B, off + k * 32, rfl, e2, fun i hi => ?_⟩
  rw [List.length_drop] at hi
  have := e3 (k + i) (by omega)
  rw [List.getElem_drop]
  rwa [show off + k * 32 + i * 32 = off + (k + i) * 32 by omega]
theorem infoHh : (Tryd.prog.info? 24).map (fun i => (i.zero, i.size, i.bytes)) = some (some (.agg zeros32), 32, 32) := by kernel_rfl
set_option maxHeartbeats 800000 in
theorem half18_any (w : World) (n : Nat) (h2 : 2 ≤ n) (hn : n ≤ 1099511627776) :
    Calls Tryd.prog 40 #[.int .i64 (n : Int)] w fun e w' => e = .returned (.int .i64 (half n : Int)) ∧ w = w' := by
  go_enter Tryd.func40, Tryd.ntmps40
  go_wp2_with fail
  go_loopw [3] (fun i wr => wr = w ∧ ∃ K : Nat, 1 ≤ K ∧ K < n ∧ i = .int .i64 (K : Int) ∧ ∃ m, K = 2 ^ m) (fun i _ => n - (intOf i).toNat)
  case atStart => exact ⟨rfl, 1, Nat.le_refl _, by omega, rfl, 0, rfl⟩
  case round =>
    obtain ⟨rfl, K, hK1, hK, rfl, hm⟩ := hrel
    have HM := Bx.mk hm; clear hm
    have d1 : IntKind.i64.wrap ((n : Int) - (K : Int)) = (n : Int) - (K : Int) := by simp [IntKind.wrap, IntKind.bits, IntKind.signed]; omega
    by_cases hc : K + K < n
    · have d2 : IntKind.i64.wrap (2 * (K : Int)) = 2 * (K : Int) := by simp [IntKind.wrap, IntKind.bits, IntKind.signed]; omega
      have hc' : (K : Int) < (n : Int) - (K : Int) := by omega
      go_wp2_with fail
      clear d1 d2
      go_roundw
      case rel =>
        obtain ⟨m, hm⟩ := HM.out
        exact ⟨trivial, 2 * K, by omega, by omega, by go_num, m + 1, by rw [hm, Nat.pow_succ]; omega⟩
      case measure => simp [intOf]; omega
    · have hc' : ¬ (K : Int) < (n : Int) - (K : Int) := by omega
      have hh : half n = K := by
        obtain ⟨m, hm⟩ := HM.out
        subst hm
        exact half_of ⟨hK, by rw [Nat.pow_succ]; omega⟩
      have HH := Bx.mk hh; clear HM hh
      go_wp2_with fail
      clear d1
      go_ret
      exact ⟨by rw [HH.out]; rfl, rfl⟩
def VTm6 (Ba off L cap k N : Nat) (x y : List UInt8) (oi : Nat) (v : Value) (own : Nat → Option Nat) (w : World) : Prop :=
  match oi with
  | 0 => v = .slice (some ⟨Ba, off, none⟩) L cap
  | 1 => v = .int .i64 (k : Int)
  | 2 => v = .slice (some ⟨Ba, off, none⟩) k cap
  | 3 => v = .agg (ocells (x))
  | 4 => v = .slice (some ⟨Ba, off, none⟩) L cap
  | 5 => v = .int .i64 (k : Int)
  | 6 => v = .slice (some ⟨Ba, off + k * 32, none⟩) (L - k) (cap - k)
  | 7 => v = .agg (ocells (y))
  | 8 => v = .agg (ocells (nd x y))
  | 9 => OutV own w (N) 9 24 (ocells (nd x y))
  | _ => True
def VTm6mk : Nat → Option Nat := fun _ => none
theorem VTm6_mono (Ba off L cap k N : Nat) (x y : List UInt8) (oi oj : Nat) (v : Value) (own : Nat → Option Nat) (w : World) (own' : Nat → Option Nat) (w' : World) (hij : oi ≠ oj)   (h : VTm6 Ba off L cap k N x y oj v own w) (r : Rel VTm6mk oi own w own' w') : VTm6 Ba off L cap k N x y oj v own' w' := by
  unfold VTm6 at h ⊢
  split at h
  · exact h
  · exact h
  · exact h
  · exact h
  · exact h
  · exact h
  · exact h
  · exact h
  · exact h
  · exact h.stable r hij
  · trivial

set_option maxHeartbeats 3200000 in
theorem mth_any (A : Nat → Addr) (L : Nat) : ∀ (w : World) (ad : Option Addr) (n cap : Nat) (l : List (List UInt8)), l.length = L → 1 ≤ L → L ≤ 1099511627776 → Hss w (.slice ad n cap) l → Hs A w →
    Calls Tryd.prog 25 #[.slice ad n cap] w fun e w' => e = .returned (hv (mthP l)) ∧ Below w.heap.size w w' := by
  induction L using Nat.strongRecOn with
  | _ L ih =>
    intro w ad n cap l hlm hm1 hm hH hT
    have e0 : ¬ (L : Int) = 0 := by omega
    have e0' : ((L : Int) == 0) = false := beq_eq_false_iff_ne.2 e0
    have e0n : (L == 0) = false := beq_eq_false_iff_ne.2 (by omega)
    have x0 : (w.alloc (.cells zeros32 24)).heap[w.heap.size]? = some (.cells zeros32 24 (0, 0)) := heap_alloc_new _ _
    have kb := er_al (Below.refl w.heap.size w) (.cells zeros32 24)
    obtain ⟨_, c', e1, hc1, hc2⟩ := hH.len
    have hcc : cap = c' := by cases e1; rfl
    subst hcc
    have hn : n = l.length := by cases e1; rfl
    subst hn
    rw [hlm] at hc1 hH ⊢
    have HHS := Bx.mk hH; have HT := Bx.mk hT; have LC := Bx.mk hc1; have CM := Bx.mk hc2; have HLM := Bx.mk hlm; have IHH := Bx.mk ih; have HM40 := Bx.mk hm
    clear e1 hH hT hc1 hc2 ih hm hlm
    unfold hv
    go_enter Tryd.func25, Tryd.ntmps25
    go_upto_region 1 with (fail)
    change Code.wp _ _ _ _ (w.alloc (.cells zeros32 24))
    generalize w.alloc (.cells zeros32 24) = W at x0 kb ⊢
    obtain ⟨N, hN⟩ : ∃ N, N = w.heap.size := ⟨_, rfl⟩
    rw [← hN] at x0 ⊢
    have X0 := Bx.mk x0; have KB := Bx.mk kb; have HN := Bx.mk hN
    clear x0 kb hN
    by_cases h1 : L = 1
    · subst h1
      obtain ⟨p, rfl⟩ : ∃ p, l = [p] := by
        have := HLM.out
        match l, this with
        | [p], _ => exact ⟨p, rfl⟩
      obtain ⟨hj1, hj2, hj3, Ba, off, rfl, hBl, hr, hp0⟩ := HHS.out.at 0 (by simp)
      clear hj1 hj2 hj3
      rw [Nat.zero_mul, Nat.add_zero] at hr
      have hr' : w.rangeAt Ba off (bcells p) := hr
      have hp' : p.length = 32 := hp0
      have hr2 := rangeAt_below hr' hBl KB.out
      have RG := Bx.mk hr2; have PL := Bx.mk hp'; have HV := Bx.mk (mthP_one p)
      clear hr hr' hr2 hp0 hp' hBl hm1 e0 e0' e0n HM40 IHH
      go_wp2_with (first | (guard_target =~ wpList _ _ _ (⟨some 13, _, _, _, _, _⟩ :: _) _ _; refine wpList_load_mid_w (by simp [Region.wanted]) 24 (.tmp 12) rfl Ba off rfl (bcells p) _ RG.out underH rfl (hszB' PL.out) ?_; change wpList _ _ _ _ (Act.put _ _ (.agg (ocells p))) _) | (guard_target =~ wpList _ _ _ (⟨none, _, _, _, _, _⟩ :: _) _ _; refine wpList_store_row rfl 24 (.tmp 2) (.tmp 13) rfl N (ocells p) rfl rfl _ _ X0.out (hszL PL.out) (hsoL PL.out) (ocells_one _) ?_))
      exact bodyPost_ret (results_cell_row rfl _ _ N _ (ocells p) _ _ rfl (setRow_heap _ _ _ _ _ _ X0.out) underH rfl (hszL PL.out)) rfl ⟨by rw [HV.out]; rfl, below_setRow KB.out (by rw [HN.out]; exact Nat.le_refl _) _⟩
    · have e1 : ¬ (L : Int) = 1 := by omega
      have e1' : ((L : Int) == 1) = false := beq_eq_false_iff_ne.2 e1
      have e1n : (L == 1) = false := beq_eq_false_iff_ne.2 (by omega)
      have h2 : 2 ≤ L := by omega
      obtain ⟨g1, g2, g3⟩ := half_pos h2
      obtain ⟨hj1, hj2, hj3, Ba, off, rfl, hBl, hj4, hj5⟩ := HHS.out.at 0 (by rw [HLM.out]; omega)
      clear hj1 hj2 hj3 hj4 hj5
      have htk := HHS.out.take (half L) (by rw [HLM.out]; omega)
      have hdr := Hss.drop HHS.out (half L) (by rw [HLM.out]; omega)
      have hv0 := mthP_node (l := l) (by rw [HLM.out]; exact h2)
      rw [HLM.out] at hv0
      have x32 := mthP_length _ _ (Nat.le_refl _) htk.1
      have y32 := mthP_length _ _ (Nat.le_refl _) hdr.1
      have l1 : (l.take (half L)).length = half L := by rw [List.length_take, HLM.out]; omega
      have l2 : (l.drop (half L)).length = L - half L := by rw [List.length_drop, HLM.out]
      have hh := fun u => half18_any u L h2 HM40.out
      have cx : ∀ u, Below w.heap.size w u → _ := fun u hu => IHH.out (half L) (by omega) u (some ⟨Ba, off, none⟩) (half L) cap (l.take (half L)) l1 (by omega) (by have := HM40.out; omega) (htk.below hu) (HT.out.below hu)
      have cy : ∀ u, Below w.heap.size w u → _ := fun u hu => IHH.out (L - half L) (by omega) u (some ⟨Ba, off + half L * 32, none⟩) (L - half L) (cap - half L) (l.drop (half L)) l2 (by omega) (by have := HM40.out; omega) (hdr.below hu) (HT.out.below hu)
      obtain ⟨x, hx⟩ : ∃ x, x = mthP (l.take (half L)) := ⟨_, rfl⟩
      obtain ⟨y, hy⟩ : ∃ y, y = mthP (l.drop (half L)) := ⟨_, rfl⟩
      rw [← hx] at cx x32 hv0; rw [← hy] at cy y32 hv0
      have cn : ∀ u, Below w.heap.size w u → _ := fun u hu => node_any u x y x32 y32 (HT.out.below hu).tab
      generalize half L = k at hh g1 g2 g3 cx cy
      simp only [hv_agg] at cx cy cn
      have CX := Bx.mk cx; have CY := Bx.mk cy; have CN := Bx.mk cn; have HF := Bx.mk hh; have HV := Bx.mk hv0; have KL := Bx.mk g2
      clear cx cy cn hh hv0 htk hdr x32 y32 l1 l2 hx hy hBl g3
      go_upto_region 6 with (go_at_call 40; refine (HF.out _).mono ?_; rintro e w' ⟨rfl, rfl⟩)
      clear e1 e1' e1n HF
      refine wp_region_own4 (n := 26) VTm6mk (fun j => if j = N then some 9 else none) (VTm6 Ba off L cap k N x y) (by kernel_rfl) (by kernel_rfl) rfl (fun j hj => if_neg (by have := (Array.getElem?_eq_some_iff.1 X0.out).1; omega)) (fun j i hj _ => by cases hj) ?_ ?_ ?_
      · exact fun oi oj v own w own' w' hij _ h r => VTm6_mono Ba off L cap k N x y oi oj v own w own' w' hij h r
      · intro oi o hi f u own hsame hsn hfr hlate hkeep hdep
        have hb6 := hsn.below (B := N) (fun j hj => if_neg (by omega)) (by have := (Array.getElem?_eq_some_iff.1 X0.out).1; omega)
        have hbw : Below w.heap.size w u := KB.out.trans (hb6.mono (by rw [HN.out]; exact Nat.le_refl _))
        match oi, hi with
        | 0, hi =>
          cases (show some _ = some o from hi)
          have e0 : f.tmps.getD 0 undef = .slice (some ⟨Ba, off, none⟩) L cap := hsame.slot 0 (fun i o h => invB2_not 0 (by kernel_rfl) h)
          clear hdep hsame hi hlate hfr hkeep
          exact .inl ⟨wanted_none rfl, showsO_move hsn rfl _ rfl e0⟩
        | 1, hi =>
          cases (show some _ = some o from hi)
          have e3 : f.tmps.getD 3 undef = .int .i64 (k : Int) := hsame.slot 3 (fun i o h => invB2_not 3 (by kernel_rfl) h)
          clear hdep hsame hi hlate hfr hkeep
          exact .inl ⟨wanted_none rfl, showsO_move hsn rfl _ rfl e3⟩
        | 2, hi =>
          cases (show some _ = some o from hi)
          have e17 : (f.tmps.getD 17 undef) = .slice (some ⟨Ba, off, none⟩) L cap := depO (V := (VTm6 Ba off L cap k N x y)) hdep 0 17 (by kernel_rfl) (by kernel_rfl)
          have e18 : (f.tmps.getD 18 undef) = .int .i64 (k : Int) := depO (V := (VTm6 Ba off L cap k N x y)) hdep 1 18 (by kernel_rfl) (by kernel_rfl)
          clear hdep hsame hi hlate hfr hkeep
          have h1 : (0 : Int) ≤ (k : Int) := by omega
          have h2 : (k : Int) ≤ (cap : Int) := by have := KL.out; have := LC.out; omega
          exact .inl ⟨wanted_none rfl, showsO_pure hsn rfl (.slice (some ⟨Ba, off, none⟩) k cap) (by simp only [execOp, Act.eval]; go_simp) rfl⟩
        | 3, hi =>
          cases (show some _ = some o from hi)
          have e19 : (f.tmps.getD 19 undef) = .slice (some ⟨Ba, off, none⟩) k cap := depO (V := (VTm6 Ba off L cap k N x y)) hdep 2 19 (by kernel_rfl) (by kernel_rfl)
          clear hdep hsame hi hlate hfr hkeep
          have c := CX.out u hbw
          exact .inl ⟨wanted_none rfl, showsO_call1 hsn rfl 25 #[.slice (some ⟨Ba, off, none⟩) k cap] (by simp only [execOp, Act.eval]; go_simp) (c) (fun _ => rfl)⟩
        | 4, hi =>
          cases (show some _ = some o from hi)
          have e0 : f.tmps.getD 0 undef = .slice (some ⟨Ba, off, none⟩) L cap := hsame.slot 0 (fun i o h => invB2_not 0 (by kernel_rfl) h)
          clear hdep hsame hi hlate hfr hkeep
          exact .inl ⟨wanted_none rfl, showsO_move hsn rfl _ rfl e0⟩
        | 5, hi =>
          cases (show some _ = some o from hi)
          have e3 : f.tmps.getD 3 undef = .int .i64 (k : Int) := hsame.slot 3 (fun i o h => invB2_not 3 (by kernel_rfl) h)
          clear hdep hsame hi hlate hfr hkeep
          exact .inl ⟨wanted_none rfl, showsO_move hsn rfl _ rfl e3⟩
        | 6, hi =>
          cases (show some _ = some o from hi)
          have e21 : (f.tmps.getD 21 undef) = .slice (some ⟨Ba, off, none⟩) L cap := depO (V := (VTm6 Ba off L cap k N x y)) hdep 4 21 (by kernel_rfl) (by kernel_rfl)
          have e22 : (f.tmps.getD 22 undef) = .int .i64 (k : Int) := depO (V := (VTm6 Ba off L cap k N x y)) hdep 5 22 (by kernel_rfl) (by kernel_rfl)
          clear hdep hsame hi hlate hfr hkeep
          have h1 : (0 : Int) ≤ (k : Int) := by omega
          have h2 : (k : Int) ≤ (L : Int) := by have := KL.out; omega
          have h3 : ¬ cap = k := by have := KL.out; have := LC.out; omega
          have h4 : ¬ (cap : Int) = (k : Int) := by have := KL.out; have := LC.out; omega
          have h5 : ¬ (cap - k = 0) := by have := KL.out; have := LC.out; omega
          have h6 : ¬ (cap : Int) - (k : Int) = 0 := by have := KL.out; have := LC.out; omega
          exact .inl ⟨wanted_none rfl, showsO_pure hsn rfl (.slice (some ⟨Ba, off + k * 32, none⟩) (L - k) (cap - k)) (by simp only [execOp, Act.eval]; go_simp) rfl⟩
        | 7, hi =>
          cases (show some _ = some o from hi)
          have e23 : (f.tmps.getD 23 undef) = .slice (some ⟨Ba, off + k * 32, none⟩) (L - k) (cap - k) := depO (V := (VTm6 Ba off L cap k N x y)) hdep 6 23 (by kernel_rfl) (by kernel_rfl)
          clear hdep hsame hi hlate hfr hkeep
          have c := CY.out u hbw
          exact .inl ⟨wanted_none rfl, showsO_call1 hsn rfl 25 #[.slice (some ⟨Ba, off + k * 32, none⟩) (L - k) (cap - k)] (by simp only [execOp, Act.eval]; go_simp) (c) (fun _ => rfl)⟩
        | 8, hi =>
          cases (show some _ = some o from hi)
          have e20 : (f.tmps.getD 20 undef) = .agg (ocells (x)) := depO (V := (VTm6 Ba off L cap k N x y)) hdep 3 20 (by kernel_rfl) (by kernel_rfl)
          have e24 : (f.tmps.getD 24 undef) = .agg (ocells (y)) := depO (V := (VTm6 Ba off L cap k N x y)) hdep 7 24 (by kernel_rfl) (by kernel_rfl)
          clear hdep hsame hi hlate hfr hkeep
          have c := CN.out u hbw
          exact .inl ⟨wanted_none rfl, showsO_call1 hsn rfl 21 #[.agg (ocells (x)), .agg (ocells (y))] (by simp only [execOp, Act.eval]; go_simp) (c) (fun _ => rfl)⟩
        | 9, hi =>
          cases (show some _ = some o from hi)
          have e2 : f.tmps.getD 2 undef = .pointer (some ⟨N, 0, none⟩) := hsame.slot 2 (fun i o h => invB2_not 2 (by kernel_rfl) h)
          have e25 : (f.tmps.getD 25 undef) = .agg (ocells (nd x y)) := depO (V := (VTm6 Ba off L cap k N x y)) hdep 8 25 (by kernel_rfl) (by kernel_rfl)
          clear hdep hsame hi hlate hfr hkeep
          exact .inl ⟨wanted_none rfl, showsO_store_out hsn rfl 24 (.tmp 2) (.tmp 25) rfl (N) e2 X0.out (if_pos rfl) (ocells (nd x y)) e25 (hszL (nd_length _ _)) (by rw [ocells_size, nd_length]; rfl) (ocells_one _) (fun _ h => h)⟩
        | n + 10, hi => exact absurd hi (by simp)
      · intro f u own hsame hsn hall
        have hb6 := hsn.below (B := N) (fun j hj => if_neg (by omega)) (by have := (Array.getElem?_eq_some_iff.1 X0.out).1; omega)
        have q17 : f.tmps.getD 17 undef = .slice (some ⟨Ba, off, none⟩) L cap := finO (V := (VTm6 Ba off L cap k N x y)) hall 0 17 rfl
        have q18 : f.tmps.getD 18 undef = .int .i64 (k : Int) := finO (V := (VTm6 Ba off L cap k N x y)) hall 1 18 rfl
        have q19 : f.tmps.getD 19 undef = .slice (some ⟨Ba, off, none⟩) k cap := finO (V := (VTm6 Ba off L cap k N x y)) hall 2 19 rfl
        have q20 : f.tmps.getD 20 undef = .agg (ocells (x)) := finO (V := (VTm6 Ba off L cap k N x y)) hall 3 20 rfl
        have q21 : f.tmps.getD 21 undef = .slice (some ⟨Ba, off, none⟩) L cap := finO (V := (VTm6 Ba off L cap k N x y)) hall 4 21 rfl
        have q22 : f.tmps.getD 22 undef = .int .i64 (k : Int) := finO (V := (VTm6 Ba off L cap k N x y)) hall 5 22 rfl
        have q23 : f.tmps.getD 23 undef = .slice (some ⟨Ba, off + k * 32, none⟩) (L - k) (cap - k) := finO (V := (VTm6 Ba off L cap k N x y)) hall 6 23 rfl
        have q24 : f.tmps.getD 24 undef = .agg (ocells (y)) := finO (V := (VTm6 Ba off L cap k N x y)) hall 7 24 rfl
        have q25 : f.tmps.getD 25 undef = .agg (ocells (nd x y)) := finO (V := (VTm6 Ba off L cap k N x y)) hall 8 25 rfl
        obtain ⟨o_9, m_9⟩ : OutV own u (N) 9 24 (ocells (nd x y)) := finN (V := (VTm6 Ba off L cap k N x y)) hall 9 rfl
        obtain rfl := frame_eq hsame [(17, .slice (some ⟨Ba, off, none⟩) L cap), (18, .int .i64 (k : Int)), (19, .slice (some ⟨Ba, off, none⟩) k cap), (20, .agg (ocells (x))), (21, .slice (some ⟨Ba, off, none⟩) L cap), (22, .int .i64 (k : Int)), (23, .slice (some ⟨Ba, off + k * 32, none⟩) (L - k) (cap - k)), (24, .agg (ocells (y))), (25, .agg (ocells (nd x y)))] (by kernel_rfl) ⟨q17, q18, q19, q20, q21, q22, q23, q24, q25, trivial⟩
        clear hall hsame q17 q18 q19 q20 q21 q22 q23 q24 q25
        simp only [List.foldl, List.setIfInBounds_toArray, List.set_cons_succ, List.set_cons_zero]
        have HB := Bx.mk (KB.out.trans (hb6.mono (by rw [HN.out]; exact Nat.le_refl _))); have HM := Bx.mk m_9
        clear hb6 hsn o_9 m_9
        go_wp2_with fail
        exact bodyPost_ret (results_cell_row rfl _ _ N _ (ocells (nd x y)) _ _ rfl HM.out underH rfl (hszL (nd_length _ _))) rfl ⟨by rw [HV.out]; rfl, HB.out⟩
end Go.Proofs.YtmlpldkgennmkaaDoor
