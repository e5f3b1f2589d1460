/- cartularyref09: Fold, Root. cartularyref09: Root. cartularylaw09: Root and Load of the pair. -/
import Derived.Test.YtgbafjmklefoiaaGreatDoorZ19
import Derived.Test.YtgbafjmklefoiaaGreatDoorZ34
section
namespace Go.Proofs.YtgbafjmklefoiaaGreatDoor
set_option maxRecDepth 100000
open Go.RowKit
set_option maxHeartbeats 1600000
def VQf (g c L g3 K : Nat) (x y z : List UInt8) (oi : Nat) (v : Value) (own : Nat → Option Nat) (w : World) : Prop :=
  match oi with
  | 0 => v = .slice (some ⟨g, 0, none⟩) L c
  | 1 => v = .int .i64 (K : Int)
  | 2 => v = .pointer (some ⟨g, K * 32, none⟩)
  | 3 => v = .agg (ocells (x))
  | 4 => v = .agg (ocells (y))
  | 5 => v = .agg (ocells (z))
  | 6 => OutV own w (g3) 6 81 (ocells z)
  | _ => True
def VQfmk : Nat → Option Nat := fun _ => none
theorem VQf_mono (g c L g3 K : Nat) (x y z : List UInt8) (oi oj : Nat) (v : Value) (own : Nat → Option Nat) (w : World) (own' : Nat → Option Nat) (w' : World) (hij : oi ≠ oj)   (h : VQf g c L g3 K x y z oj v own w) (r : Rel VQfmk oi own w own' w') : VQf g c L g3 K x y z oj v own' w' := by
  unfold VQf at h ⊢
  split at h
  · exact h
  · exact h
  · exact h
  · exact h
  · exact h
  · exact h
  · exact h.stable r hij
  · trivial

set_option maxHeartbeats 3200000 in
theorem rmfold_any (base : Nat) (w : World) (ls : List (List UInt8)) (s : Value) (ho : w.ownsRow base 81 32 s ls.length (hcells ls)) (h32 : ∀ x ∈ ls, x.length = 32) (hz : ls ≠ []) (hm : ls.length ≤ 1001) :
    Calls Tryz.prog 93 #[s] w fun e w' => e = .returned (hv (upC ls)) ∧ Below w.heap.size w w' := by
  have kb := er_al (Below.refl w.heap.size w) (.cells zeros32 81)
  have xN := heap_alloc_new w (.cells zeros32 81)
  have hH := hss_own ho h32 rfl
  obtain ⟨a, c, hs, hc1, hc2, hc3⟩ := own_shape ho
  have hfm := Go.Joins.ownsRow_forms ho
  subst hs
  go_enter Tryz.func93, Tryz.ntmps93
  go_upto_region 1 with (fail)
  change Code.wp _ _ _ _ (w.alloc (.cells zeros32 81))
  generalize w.alloc (.cells zeros32 81) = W at kb xN ⊢
  obtain ⟨N, hN⟩ : ∃ N, N = w.heap.size := ⟨_, rfl⟩
  rw [← hN] at xN kb ⊢
  have XN := Bx.mk xN; have KB := Bx.mk kb; have H32 := Bx.mk h32; have HN := Bx.mk hN; have HH := Bx.mk hH; have HFM := Bx.mk hfm
  clear xN kb h32 hN hH hfm ho
  have hlp : 0 < ls.length := List.length_pos_iff.2 hz
  obtain ⟨g, c', e⟩ : ∃ g c', Value.slice a ls.length c = .slice (some ⟨g, 0, none⟩) ls.length c' := by
    rcases HFM.out with ⟨e, h0⟩ | ⟨g, c', e⟩
    · omega
    · exact ⟨g, c', e⟩
  cases e
  have hlast := upC_last (l := ls) (K := ls.length - 1) (by omega)
  have hup0 : (upC ls).length = 32 := upC_length ls H32.out
  obtain ⟨_, _, _, B, off, e, hBl, hr, hxl⟩ := HH.out.at (ls.length - 1) (by omega)
  cases e
  obtain ⟨L, hL⟩ : ∃ L, L = ls.length := ⟨_, rfl⟩
  rw [Nat.zero_add] at hr
  obtain ⟨x, hx⟩ : ∃ x, x = ls[ls.length - 1] := ⟨_, rfl⟩
  rw [← hx] at hr hxl hlast
  rw [← hL] at hlp hr hlast hm ⊢
  have hrW := rangeAt_below hr hBl (by rw [← HN.out]; exact KB.out)
  have RX := Bx.mk hrW; have XL := Bx.mk hxl; have LP := Bx.mk hlp; have HLS := Bx.mk hlast; have LL := Bx.mk hL; have UL := Bx.mk hup0
  have l0 : ((L : Int) == 0) = false := by rw [beq_eq_false_iff_ne]; omega
  have l1 : (L == 0) = false := by rw [beq_eq_false_iff_ne]; omega
  have hl2 : ¬ L ≤ L - 1 := by omega
  have hi1 : IntKind.i64.wrap ((L : Int) - 1) = ((L - 1 : Nat) : Int) := by simp [IntKind.wrap, IntKind.bits, IntKind.signed]; omega
  clear hr hBl hxl hlast hx hL hup0 hz hrW
  go_upto_region 2 with (first
    | (guard_target =~ wpList _ _ _ (⟨some 10, _, _, _, _, _⟩ :: _) _ _; refine wpList_load_mid rfl 81 (.tmp 9) rfl g ((L - 1) * 32) rfl _ _ RX.out underH rfl (hszB' XL.out) ?_)
    | (guard_target =~ wpList _ _ _ (⟨none, _, _, _, _, _⟩ :: _) _ _; refine wpList_store_row rfl 81 (.tmp 3) (.tmp 10) rfl W.heap.size (ocells x) rfl rfl _ _ (heap_alloc_new W _) (hszL XL.out) (hsoL XL.out) (ocells_one _) ?_))
  have y3 := setRow_heap (W.alloc (.cells zeros32 81)) W.heap.size zeros32 (ocells x) 81 (0, 0) (heap_alloc_new W _)
  have hb := below_setRow ((Below.refl W.heap.size W).alloc (Nat.le_refl _) (.cells zeros32 81)) (Nat.le_refl _) (ocells x)
  change Code.wp _ _ _ _ ((W.alloc (.cells zeros32 81)).setRow W.heap.size (ocells x))
  generalize (W.alloc (.cells zeros32 81)).setRow W.heap.size (ocells x) = W1 at y3 hb ⊢
  obtain ⟨g3, hg3⟩ : ∃ g3, g3 = W.heap.size := ⟨_, rfl⟩
  rw [← hg3] at y3 ⊢
  have Z3 := Bx.mk y3; have BZ := Bx.mk hb; have G3 := Bx.mk (show W.heap.size ≤ g3 by omega)
  clear y3 hb hg3
  go_wp2_with fail
  go_loopw [4] (fun iv wr => ∃ K : Nat, K ≤ L - 1 ∧ iv = .int .i64 ((K : Int) - 1) ∧ wr.heap[g3]? = some (.cells (ocells (upC (ls.drop K))) 81 (0, 0)) ∧ Below W.heap.size W wr) (fun iv _ => (intOf iv + 1).toNat)
  case atStart => exact ⟨L - 1, Nat.le_refl _, by have := LP.out; go_num, by rw [HLS.out]; exact Z3.out, BZ.out⟩
  case round =>
    obtain ⟨K0, hK, rfl, h3, hb⟩ := hrel
    have Y3 := Bx.mk h3; have BW := Bx.mk hb
    clear h3 hb
    by_cases hlt : 0 < K0
    · obtain ⟨K, rfl⟩ : ∃ K, K0 = K + 1 := ⟨K0 - 1, by omega⟩
      have hKl : K + 1 < ls.length := by have := LL.out; omega
      have hst := upC_drop hKl
      obtain ⟨_, _, _, B, off, e, hBl, hr, hxl⟩ := HH.out.at K (by omega)
      cases e
      rw [Nat.zero_add] at hr
      have hyl : (upC (ls.drop (K + 1))).length = 32 := upC_length _ (fun x hx => H32.out x (List.mem_of_mem_drop hx))
      have h3 := Y3.out
      clear Y3 RX XL
      obtain ⟨x, hx⟩ : ∃ px, px = ls[K] := ⟨_, rfl⟩
      rw [← hx] at hr hxl hst
      obtain ⟨y, hy⟩ : ∃ y, y = upC (ls.drop (K + 1)) := ⟨_, rfl⟩
      rw [← hy] at hyl hst h3
      obtain ⟨z, hz⟩ : ∃ z, z = nd x y := ⟨_, rfl⟩
      rw [← hz] at hst
      have hzl : z.length = 32 := by rw [hz]; exact nd_length _ _
      have RX := Bx.mk (fun u (hu : Below W.heap.size W u) => rangeAt_below hr hBl (by rw [← HN.out]; exact KB.out.trans (hu.mono (Nat.le_of_lt (Array.getElem?_eq_some_iff.1 XN.out).1))))
      have XL := Bx.mk hxl; have YL := Bx.mk hyl; have ZL := Bx.mk hzl; have HST := Bx.mk hst; have Y3 := Bx.mk h3; have KL := Bx.mk (show K < L by omega)
      have ND := Bx.mk (show sha (1 :: (x ++ y)) = z from hz.symm)
      rw [show (((K + 1 : Nat) : Int) - 1) = (K : Int) by omega]
      clear hr hBl hxl hyl hzl hst h3 hx hy hz hKl hlt hK
      go_upto_region 5 with (fail)
      refine wp_region_own8 (n := 25) VQfmk (ownTwo g3 g3 6 6) (VQf g c L g3 K x y z) (by kernel_rfl) (by kernel_rfl) rfl (fun k hk => ownTwo_none (by have := (Array.getElem?_eq_some_iff.1 Y3.out).1; omega) (by have := (Array.getElem?_eq_some_iff.1 Y3.out).1; omega)) (fun j i hj _ => by cases hj) ?_ ?_ ?_
      · exact fun oi oj v own w own' w' hij _ h r => VQf_mono g c L g3 K x y z oi oj v own w own' w' hij h r
      · intro oi o hi f u own hsame hsn hfr hlate hkeep8 hdep
        have hkeep := hkeep8 _ (.inl rfl)
        have hk6 := hsn.keepTwo
        have hb6 : Below W.heap.size W u := BW.out.trans (hk6.below BW.out.size (fun k hk => by have := G3.out; omega))
        match oi, hi with
        | 0, hi =>
          cases (show some _ = some o from hi)
          have e0 : f.tmps.getD 0 undef = .slice (some ⟨g, 0, none⟩) L c := hsame.slot 0 (fun i o h => invB2_not 0 (by kernel_rfl) h)
          clear hdep hsame hi hlate hfr hkeep
          exact .inl ⟨wanted_none rfl, showsO_move hsn rfl _ rfl e0⟩
        | 1, hi =>
          cases (show some _ = some o from hi)
          have e4 : f.tmps.getD 4 undef = .int .i64 (K : Int) := hsame.slot 4 (fun i o h => invB2_not 4 (by kernel_rfl) h)
          clear hdep hsame hi hlate hfr hkeep
          exact .inl ⟨wanted_none rfl, showsO_move hsn rfl _ rfl e4⟩
        | 2, hi =>
          cases (show some _ = some o from hi)
          have e18 : (f.tmps.getD 18 undef) = .slice (some ⟨g, 0, none⟩) L c := depO (V := (VQf g c L g3 K x y z)) hdep 0 18 (by kernel_rfl) (by kernel_rfl)
          have e19 : (f.tmps.getD 19 undef) = .int .i64 (K : Int) := depO (V := (VQf g c L g3 K x y z)) hdep 1 19 (by kernel_rfl) (by kernel_rfl)
          clear hdep hsame hi hlate hfr hkeep
          have hl := KL.out
          have hl2 : ¬ L ≤ K := by omega
          exact .inl ⟨wanted_none rfl, showsO_pure hsn rfl (.pointer (some ⟨g, K * 32, none⟩)) (by simp only [execOp, Act.eval]; go_simp) rfl⟩
        | 3, hi =>
          cases (show some _ = some o from hi)
          have e20 : (f.tmps.getD 20 undef) = .pointer (some ⟨g, K * 32, none⟩) := depO (V := (VQf g c L g3 K x y z)) hdep 2 20 (by kernel_rfl) (by kernel_rfl)
          clear hdep hsame hi hlate hfr hkeep
          exact .inl ⟨wanted_none rfl, showsO_mid hsn rfl 81 (.tmp 20) rfl g (K * 32) e20 (bcells x) (RX.out u hb6) underH rfl (hszB' XL.out) rfl⟩
        | 4, hi =>
          cases (show some _ = some o from hi)
          have e3 : f.tmps.getD 3 undef = .pointer (some ⟨g3, 0, none⟩) := hsame.slot 3 (fun i o h => invB2_not 3 (by kernel_rfl) h)
          clear hdep hsame hi hlate hfr hkeep
          have hgu := (hkeep8 6 (.inr (by kernel_rfl)) g3 (Array.getElem?_eq_some_iff.1 Y3.out).1 (ownTwo_one _ _ _ _)).trans Y3.out
          exact .inl ⟨wanted_none rfl, showsO_row hsn rfl 81 (.tmp 3) rfl g3 e3 (ocells y) hgu underH rfl (hszL YL.out) rfl⟩
        | 5, hi =>
          cases (show some _ = some o from hi)
          have e21 : (f.tmps.getD 21 undef) = .agg (ocells (x)) := depO (V := (VQf g c L g3 K x y z)) hdep 3 21 (by kernel_rfl) (by kernel_rfl)
          have e22 : (f.tmps.getD 22 undef) = .agg (ocells (y)) := depO (V := (VQf g c L g3 K x y z)) hdep 4 22 (by kernel_rfl) (by kernel_rfl)
          clear hdep hsame hi hlate hfr hkeep
          have c := rnode_any u x y XL.out YL.out
          rw [hv_agg, hv_agg, hv_agg, show sha (1 :: (x ++ y)) = z from ND.out] at c
          exact .inl ⟨wanted_none rfl, showsO_call1 hsn rfl 134 #[.agg (ocells (x)), .agg (ocells (y))] (by simp only [execOp, Act.eval]; go_simp) (c) (fun _ => rfl)⟩
        | 6, hi =>
          cases (show some _ = some o from hi)
          have e3 : f.tmps.getD 3 undef = .pointer (some ⟨g3, 0, none⟩) := hsame.slot 3 (fun i o h => invB2_not 3 (by kernel_rfl) h)
          have e23 : (f.tmps.getD 23 undef) = .agg (ocells (z)) := depO (V := (VQf g c L g3 K x y z)) hdep 5 23 (by kernel_rfl) (by kernel_rfl)
          clear hdep hsame hi hlate hfr hkeep
          exact .inl ⟨wanted_none rfl, showsO_store_out hsn rfl 81 (.tmp 3) (.tmp 23) rfl (g3) e3 Y3.out (ownTwo_one _ _ _ _) (ocells z) e23 (hszL ZL.out) (by rw [ocells_size, ocells_size, YL.out, ZL.out]) (ocells_one _) (fun _ h => h)⟩
        | n + 7, hi => exact absurd hi (by simp)
      · intro f u own hsame hsn hall
        have q18 : f.tmps.getD 18 undef = .slice (some ⟨g, 0, none⟩) L c := finO (V := (VQf g c L g3 K x y z)) hall 0 18 rfl
        have q19 : f.tmps.getD 19 undef = .int .i64 (K : Int) := finO (V := (VQf g c L g3 K x y z)) hall 1 19 rfl
        have q20 : f.tmps.getD 20 undef = .pointer (some ⟨g, K * 32, none⟩) := finO (V := (VQf g c L g3 K x y z)) hall 2 20 rfl
        have q21 : f.tmps.getD 21 undef = .agg (ocells (x)) := finO (V := (VQf g c L g3 K x y z)) hall 3 21 rfl
        have q22 : f.tmps.getD 22 undef = .agg (ocells (y)) := finO (V := (VQf g c L g3 K x y z)) hall 4 22 rfl
        have q23 : f.tmps.getD 23 undef = .agg (ocells (z)) := finO (V := (VQf g c L g3 K x y z)) hall 5 23 rfl
        obtain ⟨o_6, m_6⟩ : OutV own u (g3) 6 81 (ocells z) := finN (V := (VQf g c L g3 K x y z)) hall 6 rfl
        obtain rfl := frame_eq hsame [(18, .slice (some ⟨g, 0, none⟩) L c), (19, .int .i64 (K : Int)), (20, .pointer (some ⟨g, K * 32, none⟩)), (21, .agg (ocells (x))), (22, .agg (ocells (y))), (23, .agg (ocells (z)))] (by kernel_rfl) ⟨q18, q19, q20, q21, q22, q23, trivial⟩
        clear hall hsame q18 q19 q20 q21 q22 q23
        simp only [List.foldl, List.setIfInBounds_toArray, List.set_cons_succ, List.set_cons_zero]
        have hk6 := hsn.keepTwo
        have hb6 : Below W.heap.size W u := BW.out.trans (hk6.below BW.out.size (fun k hk => by have := G3.out; omega))
        have B6 := Bx.mk hb6; have M6 := Bx.mk m_6
        clear hk6 hb6 m_6 o_6 hsn
        have hkl : K < L := KL.out
        go_wp2_with fail
        go_roundw
        case rel => exact ⟨K, by have := KL.out; omega, by go_num, by rw [HST.out]; exact M6.out, B6.out⟩
        case measure => first | (simp only [intOf]; omega) | (show ((K : Int) - 1 + 1).toNat < ((K : Int) + 1).toNat; omega)
    · obtain rfl : K0 = 0 := by omega
      have y3 := Y3.out
      rw [List.drop_zero] at y3
      have hxn := (BW.out.block N (Array.getElem?_eq_some_iff.1 XN.out).1).trans XN.out
      have kz : Below N w wr := KB.out.trans (BW.out.mono (Nat.le_of_lt (Array.getElem?_eq_some_iff.1 XN.out).1))
      have Z4 := Bx.mk y3; have ZN := Bx.mk hxn; have HSZ := Bx.mk (hszL UL.out); have HSO := Bx.mk (hsoL UL.out); have KZ := Bx.mk kz
      clear y3 hxn kz Y3 hlt hK
      go_wp2_with (first
        | (guard_target =~ wpList _ _ _ (⟨some 24, _, _, _, _, _⟩ :: _) _ _; refine wpList_load_row rfl 81 (.tmp 3) rfl g3 rfl _ _ _ _ Z4.out underH rfl HSZ.out ?_)
        | (guard_target =~ wpList _ _ _ (⟨none, _, _, _, _, _⟩ :: _) _ _; refine wpList_store_row rfl 81 (.tmp 2) (.tmp 24) rfl N (ocells (upC ls)) rfl rfl _ _ ZN.out HSZ.out HSO.out (ocells_one _) ?_))
      refine bodyPost_ret (results_cell_row rfl _ _ N _ (ocells (upC ls)) _ _ rfl (setRow_heap _ _ _ _ _ _ ZN.out) underH rfl HSZ.out) rfl ⟨rfl, by rw [← HN.out]; exact below_setRow KZ.out (Nat.le_refl _) _⟩
end Go.Proofs.YtgbafjmklefoiaaGreatDoor
end
section
namespace Go.Proofs.YtgbafjmklefoiaaGreatDoor
set_option maxRecDepth 100000
open Go.RowKit
theorem res_hf {fn : Func} {p q : Tmp} (h : fn.results = #[.cell p 81, .cell q 75]) (tmps : Array Value) (w : World) (g g' : Nat) (cs cs' : Array Value)
    (hp : tmps.getD p undef = .pointer (some ⟨g, 0, none⟩)) (hg : w.heap[g]? = some (.cells cs 81 (0, 0))) (hp' : tmps.getD q undef = .pointer (some ⟨g', 0, none⟩)) (hg' : w.heap[g']? = some (.cells cs' 75 (0, 0)))
    (hi : (Tryz.prog.info? 81).map (·.size) = some cs.size) (hi' : (Tryz.prog.info? 75).map (·.size) = some cs'.size) :
    (results fn tmps).run Tryz.prog w = .ok (.tuple #[.agg cs, .agg cs']) w := by
  have e1 : tmps[p]?.getD undef = .pointer (some ⟨g, 0, none⟩) := by simpa using hp
  have e2 : tmps[q]?.getD undef = .pointer (some ⟨g', 0, none⟩) := by simpa using hp'
  simp [results, h, e1, e2, asAddr, run_loadVar_row w g _ 81 cs (0, 0) _ hg underH rfl hi, run_loadVar_row w g' _ 75 cs' (0, 0) _ hg' Tryz.underlying75 rfl hi', Sem.run_bind, Result.andThen]
theorem two_rows {w : World} {N G : Nat} (hne : N ≠ G) {c1 c2 X Y : Array Value} {T1 T2 : TypeId} (h1 : w.heap[N]? = some (.cells c1 T1 (0, 0))) (h2 : w.heap[G]? = some (.cells c2 T2 (0, 0))) :
    (w.setRow N X).heap[G]? = some (.cells c2 T2 (0, 0)) ∧ ((w.setRow N X).setRow G Y).heap[N]? = some (.cells X T1 (0, 0)) ∧ ((w.setRow N X).setRow G Y).heap[G]? = some (.cells Y T2 (0, 0)) := by
  have e1 := setRow_heap w N c1 X T1 (0, 0) h1
  have e2 : (w.setRow N X).heap[G]? = some (.cells c2 T2 (0, 0)) := (setRow_other w N G X (fun e => hne e.symm)).trans h2
  exact ⟨e2, (setRow_other (w.setRow N X) G N Y hne).trans e1, setRow_heap _ G c2 Y T2 (0, 0) e2⟩
/-- what Root answers -/
def RootV (B : Nat) (l : List (Nat × Nat × List UInt8)) : Value := if B = 0 then .tuple #[hv (upC (hsC l)), .agg #[.int .i64 0, .int .i64 0]] else .tuple #[hv zero32', .agg #[.int .i64 5, .int .i64 (-1)]]
set_option maxHeartbeats 1600000 in
theorem rmroot_any (base : Nat) (w : World) (d B E : Nat) (l : List (Nat × Nat × List UInt8)) (s : Value) (h : RmP base w d B E l s) (hm : l.length ≤ 1001) :
    Calls Tryz.prog 25 #[.pointer (some ⟨d, 0, none⟩)] w fun e w' => e = .returned (RootV B l) ∧ Below w.heap.size w w' := by
  have kb1 := er_al (Below.refl w.heap.size w) (.cells zeros32 81)
  have kb := er_al kb1 (.cells #[.int .i64 0, .int .i64 0] 75)
  have xN1 := heap_alloc_new w (.cells zeros32 81)
  have xN := ((er_al (Below.refl (w.alloc (.cells zeros32 81)).heap.size _) (.cells #[.int .i64 0, .int .i64 0] 75)).block _ (Array.getElem?_eq_some_iff.1 xN1).1).trans xN1
  have xG := heap_alloc_new (w.alloc (.cells zeros32 81)) (.cells #[.int .i64 0, .int .i64 0] 75)
  rw [show (w.alloc (.cells zeros32 81)).heap.size = w.heap.size + 1 by simp] at xG
  have HH := Bx.mk (fun u (hu : Below w.heap.size w u) => h.below hu)
  have LM := Bx.mk hm; have H32 := Bx.mk h.h32
  obtain ⟨a, c, hs, -, -, -⟩ := own_shape h.row
  subst hs
  clear h hm kb1 xN1
  go_enter Tryz.func25, Tryz.ntmps25
  go_upto_region 1 with (fail)
  change Code.wp _ _ _ _ ((w.alloc (.cells zeros32 81)).alloc (.cells #[.int .i64 0, .int .i64 0] 75))
  generalize (w.alloc (.cells zeros32 81)).alloc (.cells #[.int .i64 0, .int .i64 0] 75) = W at kb xN xG ⊢
  obtain ⟨N, hN⟩ : ∃ N, N = w.heap.size := ⟨_, rfl⟩
  obtain ⟨G, hG⟩ : ∃ G, G = w.heap.size + 1 := ⟨_, rfl⟩
  rw [← hG] at xG ⊢
  rw [← hN] at xN kb HH ⊢
  have HNN := Bx.mk hN; have NG := Bx.mk (show N ≠ G by omega); have NLG := Bx.mk (show N ≤ G by omega)
  have XN := Bx.mk xN; have XG := Bx.mk xG; have KB := Bx.mk kb
  have c0 := er_cellAt (HH.out W kb).hb 0 _ rfl; have c2 := er_cellAt (HH.out W kb).hb 2 _ rfl
  have SZ := Bx.mk (Nat.le_of_lt (Array.getElem?_eq_some_iff.1 xN).1)
  clear xN xG kb hN hG
  by_cases hB : B = 0
  · subst hB
    by_cases hl : l = []
    · subst hl
      have CE := Bx.mk (rempty_any W)
      have q0 : ((([] : List (Nat × Nat × List UInt8)).length : Int) == 0) = true := rfl
      go_wp2_with fail
      refine CE.out.mono ?_
      rintro e w4 ⟨rfl, hb⟩
      have X4 := Bx.mk ((hb.block N (Array.getElem?_eq_some_iff.1 XN.out).1).trans XN.out); have Y4 := Bx.mk ((hb.block G (Array.getElem?_eq_some_iff.1 XG.out).1).trans XG.out); have B4 := Bx.mk (KB.out.trans (hb.mono SZ.out))
      have TR := Bx.mk (two_rows (X := ocells (sha [])) (Y := #[.int .i64 0, .int .i64 0]) NG.out X4.out Y4.out)
      clear hb c0 c2
      go_wp2_with (first
        | (guard_target =~ wpList _ _ _ (⟨none, _, _, _, _, _⟩ :: _) _ _; refine wpList_store_row rfl 81 (.tmp 2) (.tmp 18) rfl N (ocells (sha [])) rfl rfl _ _ X4.out (hszL (sha_length [])) (hsoL (sha_length [])) (ocells_one _) ?_)
        | (guard_target =~ wpList _ _ _ (⟨none, _, _, _, _, _⟩ :: _) _ _; refine wpList_store_row rfl 75 (.tmp 3) (.tmp 19) rfl G #[.int .i64 0, .int .i64 0] rfl rfl _ _ TR.out.1 (by kernel_rfl) rfl (by simp [Value.oneCell']) ?_))
      refine bodyPost_ret (res_hf rfl _ _ N G _ _ rfl TR.out.2.1 rfl TR.out.2.2 (hszL (sha_length [])) (by kernel_rfl)) rfl ⟨by unfold RootV; rw [if_pos rfl]; rfl, by rw [← HNN.out]; exact below_setRow (below_setRow B4.out (Nat.le_refl _) _) NLG.out _⟩
    · have q0 : ((l.length : Int) == 0) = false := by rw [beq_eq_false_iff_ne]; have := List.length_pos_iff.2 hl; omega
      have q1 : (l.length == 0) = false := by rw [beq_eq_false_iff_ne]; have := List.length_pos_iff.2 hl; omega
      have CH := Bx.mk (rmhash_any base W d 0 E l (.slice a l.length c) (HH.out W KB.out) LM.out)
      have HNE := Bx.mk (show hsC l ≠ [] from fun e => hl (List.map_eq_nil_iff.1 e))
      clear hl
      go_wp2_with fail
      refine CH.out.mono ?_
      rintro e w4 ⟨v, rfl, ho, hb⟩
      have X4 := Bx.mk ((hb.block N (Array.getElem?_eq_some_iff.1 XN.out).1).trans XN.out); have Y4 := Bx.mk ((hb.block G (Array.getElem?_eq_some_iff.1 XG.out).1).trans XG.out); have B4 := Bx.mk (KB.out.trans (hb.mono SZ.out)); have S4 := Bx.mk (Nat.le_trans SZ.out hb.size)
      have CF := Bx.mk (rmfold_any _ w4 (hsC l) v (by rw [hsC_len]; exact ho) (hsC_mem H32.out) HNE.out (by rw [hsC_len]; exact LM.out))
      clear ho hb c0 c2 q0 q1 CH
      go_wp2_with fail
      refine CF.out.mono ?_
      rintro e w5 ⟨rfl, hb⟩
      have X5 := Bx.mk ((hb.block N (Array.getElem?_eq_some_iff.1 X4.out).1).trans X4.out); have Y5 := Bx.mk ((hb.block G (Array.getElem?_eq_some_iff.1 Y4.out).1).trans Y4.out); have B5 := Bx.mk (B4.out.trans (hb.mono S4.out))
      obtain ⟨R, hR⟩ : ∃ R, R = upC (hsC l) := ⟨_, rfl⟩
      have R32 := Bx.mk (show R.length = 32 by rw [hR]; exact upC_length _ (hsC_mem H32.out))
      have HRR := Bx.mk hR
      rw [← hR]
      have TR := Bx.mk (two_rows (X := ocells R) (Y := #[.int .i64 0, .int .i64 0]) NG.out X5.out Y5.out)
      clear hb hR CF
      unfold hv
      go_wp2_with (first
        | (guard_target =~ wpList _ _ _ (⟨none, _, _, _, _, _⟩ :: _) _ _; refine wpList_store_row rfl 81 (.tmp 2) (.tmp 22) rfl N (ocells R) rfl rfl _ _ X5.out (hszL R32.out) (hsoL R32.out) (ocells_one _) ?_)
        | (guard_target =~ wpList _ _ _ (⟨none, _, _, _, _, _⟩ :: _) _ _; refine wpList_store_row rfl 75 (.tmp 3) (.tmp 23) rfl G #[.int .i64 0, .int .i64 0] rfl rfl _ _ TR.out.1 (by kernel_rfl) rfl (by simp [Value.oneCell']) ?_))
      refine bodyPost_ret (res_hf rfl _ _ N G _ _ rfl TR.out.2.1 rfl TR.out.2.2 (hszL R32.out) (by kernel_rfl)) rfl ⟨by unfold RootV; rw [if_pos rfl, ← HRR.out]; rfl, by rw [← HNN.out]; exact below_setRow (below_setRow B5.out (Nat.le_refl _) _) NLG.out _⟩
  · have HB := Bx.mk hB
    have q0 : ((B : Int) == 0) = false := by rw [beq_eq_false_iff_ne]; omega
    have q1 : (B == 0) = false := by rw [beq_eq_false_iff_ne]; exact hB
    have CP := Bx.mk (plainP_any W 5 (by decide))
    clear hB
    go_wp2_with (guard_target =~ wpList _ _ _ (⟨some 10, _, _, _, _, _⟩ :: _) _ _; refine wpList_build_c (by simp [Region.wanted]) 81 #[] rfl (ocells zero32') (by simp only [List.map_toArray, List.map_nil]; exact built_zeroC) ?_)
    refine CP.out.mono ?_
    rintro e w4 ⟨rfl, hb⟩
    have X4 := Bx.mk ((hb.block N (Array.getElem?_eq_some_iff.1 XN.out).1).trans XN.out); have Y4 := Bx.mk ((hb.block G (Array.getElem?_eq_some_iff.1 XG.out).1).trans XG.out); have B4 := Bx.mk (KB.out.trans (hb.mono SZ.out))
    have TR := Bx.mk (two_rows (X := ocells zero32') (Y := #[.int .i64 5, .int .i64 (-1)]) NG.out X4.out Y4.out)
    clear hb c0 c2 q0 q1 CP
    go_wp2_with (first
      | (guard_target =~ wpList _ _ _ (⟨none, _, _, _, _, _⟩ :: _) _ _; refine wpList_store_row rfl 81 (.tmp 2) (.tmp 10) rfl N (ocells zero32') rfl rfl _ _ X4.out (hszL (by decide)) (hsoL (by decide)) (ocells_one _) ?_)
      | (guard_target =~ wpList _ _ _ (⟨none, _, _, _, _, _⟩ :: _) _ _; refine wpList_store_row rfl 75 (.tmp 3) (.tmp 11) rfl G #[.int .i64 5, .int .i64 (-1)] rfl rfl _ _ TR.out.1 (by kernel_rfl) rfl (by simp [Value.oneCell']) ?_))
    refine bodyPost_ret (res_hf rfl _ _ N G _ _ rfl TR.out.2.1 rfl TR.out.2.2 (hszL (by decide)) (by kernel_rfl)) rfl ⟨by unfold RootV; rw [if_neg HB.out]; rfl, by rw [← HNN.out]; exact below_setRow (below_setRow B4.out (Nat.le_refl _) _) NLG.out _⟩
end Go.Proofs.YtgbafjmklefoiaaGreatDoor
end
section
namespace Go.Proofs.YtgbafjmklefoiaaGreatDoor
set_option maxRecDepth 100000
open Go.RowKit
theorem root_both9 (A : Nat → Addr) (base : Nat) (r d B E : Nat) (l : List (Nat × Nat × List UInt8)) (s t : Value) (hS : StC B E l) (h32 : ∀ x ∈ l, x.2.2.length = 32) :
    ∃ (x : List UInt8) (ev : Value) (fc fa : Int), x.length = 32 ∧ ((ev = .nilIface ∧ fc = 0 ∧ fa = 0) ∨ (ev = .iface 282 (.pointer (some (A 4))) ∧ fc = 5 ∧ fa = -1)) ∧
      (∀ u, RaP base u r B E l s → Errs u A → TabS u → Calls Tryz.prog 24 #[.pointer (some ⟨r, 0, none⟩)] u fun e w' => e = .returned (.tuple #[hv x, ev]) ∧ Below u.heap.size u w') ∧
      (∀ u, RmP base u d B E l t → Calls Tryz.prog 25 #[.pointer (some ⟨d, 0, none⟩)] u fun e w' => e = .returned (.tuple #[hv x, .agg #[.int .i64 fc, .int .i64 fa]]) ∧ Below u.heap.size u w') := by
  have LE := hS.le
  by_cases hB : B = 0
  · subst hB
    refine ⟨upC (hsC l), .nilIface, 0, 0, upC_length _ (hsC_mem h32), .inl ⟨rfl, rfl, rfl⟩, fun u hu _ hT => rroot_any base u r E l s hu hT (by omega), fun u hu => ?_⟩
    have h1 := rmroot_any base u d 0 E l t hu (by omega)
    unfold RootV at h1
    rw [if_pos rfl] at h1
    exact h1
  · refine ⟨zero32', _, 5, -1, by decide, .inr ⟨rfl, rfl, rfl⟩, fun u hu hE _ => rroot_range A base u r B E l s hu hB hE, fun u hu => ?_⟩
    have h1 := rmroot_any base u d B E l t hu (by omega)
    unfold RootV at h1
    rw [if_neg hB] at h1
    exact h1
/-- Load of the pair: neither makes one, with the same fault, or both do -/
theorem load_both9 (A : Nat → Addr) (B E : Nat) (n : Nat) (hs : List (List UInt8)) (hn : n = hs.length) :
    (∃ (ev : Value) (fc fa : Int), ((ev = .iface 282 (.pointer (some (A 1))) ∧ fc = 2 ∧ fa = -1) ∨ (ev = .iface 282 (.pointer (some (A 4))) ∧ fc = 5 ∧ fa = -1)) ∧
      (∀ u ha hc, Hss u (.slice ha n hc) hs → Errs u A → TabZ u → 4 < u.heap.size → Calls Tryz.prog 13 #[sv B E, .slice ha n hc] u fun e w' => e = .returned (.tuple #[.pointer none, ev]) ∧ Below u.heap.size u w') ∧
      (∀ u ha hc, Hss u (.slice ha n hc) hs → Calls Tryz.prog 14 #[sv B E, .slice ha n hc] u fun e w' => e = .returned (.tuple #[.pointer none, .agg #[.int .i64 fc, .int .i64 fa]]) ∧ Below u.heap.size u w')) ∨
    (∃ l, StC B E l ∧ E < 2 ^ 64 ∧
      (∀ u ha hc, Hss u (.slice ha n hc) hs → TabZ u → 4 < u.heap.size → Calls Tryz.prog 13 #[sv B E, .slice ha n hc] u fun e w' => ∃ r s, e = .returned (.tuple #[.pointer (some ⟨r, 0, none⟩), .nilIface]) ∧ RaP u.heap.size w' r B E l s ∧ Below u.heap.size u w') ∧
      (∀ u ha hc, Hss u (.slice ha n hc) hs → Calls Tryz.prog 14 #[sv B E, .slice ha n hc] u fun e w' => ∃ r s, e = .returned (.tuple #[.pointer (some ⟨r, 0, none⟩), .agg #[.int .i64 0, .int .i64 0]]) ∧ RmP u.heap.size w' r B E l s ∧ Below u.heap.size u w')) := by
  by_cases hbad : E < B ∨ 9223372036854775808 < E
  · exact .inl ⟨_, 5, -1, .inr ⟨rfl, rfl, rfl⟩, fun u ha hc _ hE _ _ => rload_range A u B E hbad ha n hc hE, fun u ha hc _ => rmload_range u B E hbad ha n hc⟩
  · have hBE : B ≤ E := by omega
    have hE : E ≤ 2 ^ 63 := by omega
    by_cases hne : (coverN B E).length = n
    · exact .inr ⟨zipC (coverN B E) hs, zip_st9 hBE hE (by omega), by omega, fun u ha hc hH hz hg => rload_any u B E hBE hE ha n hc hs hH hz hg hne, fun u ha hc hH => rmload_any u B E hBE hE ha n hc hs hH hne⟩
    · exact .inl ⟨_, 2, -1, .inl ⟨rfl, rfl, rfl⟩, fun u ha hc hH hEr hz hg => rload_arg A u B E hBE hE ha n hc hs hH hEr hz hg hne, fun u ha hc _ => rmload_arg u B E hBE hE ha n hc hne⟩
end Go.Proofs.YtgbafjmklefoiaaGreatDoor
end
