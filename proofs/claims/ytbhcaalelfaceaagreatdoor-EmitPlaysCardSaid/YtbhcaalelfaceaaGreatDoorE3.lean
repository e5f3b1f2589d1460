/- cartularyref02.Plain, and the results of a function that tells a value and a fault. The document's builder of chapter 10 in memory: New, Load, Fold, Root; Count. cartularyref01.Count; the document's Load of chapter 10. -/
import Derived.Test.YtbhcaalelfaceaaGreatDoorG3
import Derived.Test.YtbhcaalelfaceaaGreatDoorEmR
import Derived.Test.YtbhcaalelfaceaaGreatDoorEmP
import Derived.Test.YtbhcaalelfaceaaGreatDoorG5
import Derived.Test.YtbhcaalelfaceaaGreatDoorRg
import Derived.Lib.SmallJoins
section
namespace Go.Proofs.YtbhcaalelfaceaaGreatDoor
set_option maxRecDepth 100000
open Go.RowKit
theorem plainP_any (w : World) (c : Int) (hc : c ≠ 0) : Calls Tryz.prog 76 #[.int .i64 c] w fun e w' => e = .returned (.agg #[.int .i64 c, .int .i64 (-1)]) ∧ Below w.heap.size w w' := by
  have hc' : (c == 0) = false := by simpa using hc
  clear hc
  go_enter Tryz.func76, Tryz.ntmps76
  go_wp2_with fail
  exact bodyPost_ret (results_cell_row rfl _ _ w.heap.size _ #[.int .i64 c, .int .i64 (-1)] _ _ rfl (heap_alloc_new _ _) Tryz.underlying73 rfl (by kernel_rfl)) rfl ⟨rfl, er_al (Below.refl _ _) _⟩
theorem res_tf {fn : Func} {p u : Tmp} {ty : TypeId} {P : Program} (h : fn.results = #[.tmp u, .cell p ty]) (tmps : Array Value) (w : World) (g : Nat) (t : TypeId) (cs : Array Value) (fr : Nat × Nat) (f : Array Field)
    (hp : tmps.getD p undef = .pointer (some ⟨g, 0, none⟩)) (hg : w.heap[g]? = some (.cells cs t fr))
    (hu : P.underlying ty = some (.struct f)) (hi : (P.info? ty).map (·.size) = some cs.size) :
    (results fn tmps).run P w = .ok (.tuple #[tmps.getD u undef, .agg cs]) w := by
  have hl := run_loadVar_row (P := P) w g t ty cs fr (.struct f) hg hu rfl hi
  have hp' : tmps[p]?.getD undef = .pointer (some ⟨g, 0, none⟩) := by simpa using hp
  simp [results, h, hp', asAddr, hl, Result.andThen]
end Go.Proofs.YtbhcaalelfaceaaGreatDoor
end
section
namespace Go.Proofs.YtbhcaalelfaceaaGreatDoor
set_option maxRecDepth 100000
open Go.RowKit
/-- the document's builder in memory -/
structure RbM (base : Nat) (w : World) (r n : Nat) (ls : List (List UInt8)) (L : Value) : Prop where
  hb : w.heap[r]? = some (.cells #[.int .u64 (n : Int), L] 62 (0, 0))
  br : base ≤ r
  row : w.ownsRow base 66 32 L ls.length (hcells ls)
  h32 : ∀ x ∈ ls, x.length = 32
theorem RbM.apart {base : Nat} {w : World} {r n : Nat} {ls : List (List UInt8)} {L : Value} (h : RbM base w r n ls L) (k : Nat) (hk : L.ownBlock = some k) : k ≠ r := by
  rcases id h.row.2 with ⟨rfl, _⟩ | ⟨g, cap, cur, rfl, _, hg, _⟩
  · cases hk
  · obtain rfl : g = k := by simpa [Value.ownBlock] using hk
    rintro rfl
    have := h.hb.symm.trans hg
    injection this with e
    injection e with _ e2 _
    revert e2
    decide
theorem RbM.kept {base : Nat} {w w' : World} {r n : Nat} {ls : List (List UInt8)} {L : Value} (h : RbM base w r n ls L) {S : Nat → Prop} (k : Keep S w w') (h1 : ¬ S r) (h2 : ∀ j, L.ownBlock = some j → ¬ S j) : RbM base w' r n ls L :=
  ⟨(k.block r (Array.getElem?_eq_some_iff.1 h.hb).1 h1).trans h.hb, h.br, ownsRow_keep' h.row fun j hj => k.block j (ownsRow_lt h.row j hj) (h2 j hj), h.h32⟩
theorem RbM.below {base : Nat} {w w' : World} {r n : Nat} {ls : List (List UInt8)} {L : Value} (h : RbM base w r n ls L) (k : Below w.heap.size w w') : RbM base w' r n ls L :=
  h.kept (Keep.of_below k (fun _ => False)) (fun h => h) (fun _ _ h => h)
theorem RbM.mono {base base' : Nat} {w : World} {r n : Nat} {ls : List (List UInt8)} {L : Value} (h : RbM base w r n ls L) (hb : base' ≤ base) : RbM base' w r n ls L :=
  ⟨h.hb, Nat.le_trans hb h.br, ownsRow_mono h.row hb, h.h32⟩
theorem RbM.hss {base : Nat} {w : World} {r n : Nat} {ls : List (List UInt8)} {L : Value} (h : RbM base w r n ls L) : Hss w L ls := hss_own h.row h.h32 rfl
theorem two_setE {w : World} {n : Nat} {a b : Value} {T : TypeId} {fr : Nat × Nat} (h : w.heap[n]? = some (.cells #[a, b] T fr)) (x y : Value) :
    ((w.setCell ⟨n, 0, none⟩ x).setCell ⟨n, 1, none⟩ y).heap[n]? = some (.cells #[x, y] T fr) := by
  simp [World.setCell, Array.getElem?_modify, h]
theorem rnew10_any (w : World) : Calls Tryz.prog 5 #[] w fun e w' => ∃ r, e = .returned (.pointer (some ⟨r, 0, none⟩)) ∧ RbM w.heap.size w' r 0 [] (.slice none 0 0) ∧ Below w.heap.size w w' := by
  go_enter Tryz.func5, Tryz.ntmps5
  go_wp2
  go_ret
  exact ⟨w.heap.size, rfl, ⟨heap_alloc_new _ _, Nat.le_refl _, World.ownsRow_nil _ _ _ _, fun _ h => by cases h⟩, (Below.refl _ _).alloc (Nat.le_refl _) _⟩

def VFo (g c L g3 K : Nat) (x y z : List UInt8) (oi : Nat) (v : Value) (own : Nat → Option Nat) (w : World) : Prop :=
  match oi with
  | 0 => v = .slice (some ⟨g, 0, none⟩) L c
  | 1 => v = .int .i64 (K : Int)
  | 2 => v = .pointer (some ⟨g, K * 32, none⟩)
  | 3 => v = .agg (ocells (x))
  | 4 => v = .agg (ocells (y))
  | 5 => v = .agg (ocells (z))
  | 6 => OutV own w (g3) 6 66 (ocells z)
  | _ => True
def VFomk : Nat → Option Nat := fun _ => none
theorem VFo_mono (g c L g3 K : Nat) (x y z : List UInt8) (oi oj : Nat) (v : Value) (own : Nat → Option Nat) (w : World) (own' : Nat → Option Nat) (w' : World) (hij : oi ≠ oj)   (h : VFo g c L g3 K x y z oj v own w) (r : Rel VFomk oi own w own' w') : VFo g c L g3 K x y z oj v own' w' := by
  unfold VFo at h ⊢
  split at h
  · exact h
  · exact h
  · exact h
  · exact h
  · exact h
  · exact h
  · exact h.stable r hij
  · trivial

set_option maxHeartbeats 3200000 in
theorem rfold_any (base : Nat) (w : World) (ls : List (List UInt8)) (s : Value) (ho : w.ownsRow base 66 32 s ls.length (hcells ls)) (h32 : ∀ x ∈ ls, x.length = 32) (hm : ls.length ≤ 64) :
    Calls Tryz.prog 84 #[s] w fun e w' => e = .returned (hv (upB ls)) ∧ Below w.heap.size w w' := by
  have kb := er_al (Below.refl w.heap.size w) (.cells zeros32 66)
  have xN := heap_alloc_new w (.cells zeros32 66)
  have hH := hss_own ho h32 rfl
  obtain ⟨a, c, hs, hc1, hc2, hc3⟩ := own_shape ho
  have hfm := Go.Joins.ownsRow_forms ho
  subst hs
  go_enter Tryz.func84, Tryz.ntmps84
  go_upto_region 1 with (fail)
  change Code.wp _ _ _ _ (w.alloc (.cells zeros32 66))
  generalize w.alloc (.cells zeros32 66) = W at kb xN ⊢
  obtain ⟨N, hN⟩ : ∃ N, N = w.heap.size := ⟨_, rfl⟩
  rw [← hN] at xN kb ⊢
  have XN := Bx.mk xN; have KB := Bx.mk kb; have H32 := Bx.mk h32; have HN := Bx.mk hN; have HH := Bx.mk hH; have HFM := Bx.mk hfm
  clear xN kb h32 hN hH hfm ho
  by_cases hz : ls = []
  · subst hz
    have CE := Bx.mk (rempty_any W)
    go_wp2_with fail
    refine CE.out.mono ?_
    rintro e w4 ⟨rfl, hb4⟩
    have hlt := (Array.getElem?_eq_some_iff.1 XN.out).1
    have q1 := (hb4.block N hlt).trans XN.out
    have q2 : Below N w w4 := KB.out.trans (hb4.mono (Nat.le_of_lt hlt))
    have Q1 := Bx.mk q1; have Q2 := Bx.mk q2; have HSZ := Bx.mk (hszL (sha_length [])); have HSO := Bx.mk (hsoL (sha_length []))
    clear hb4 q1 q2 hlt
    go_wp2_with (refine wpList_store_row rfl 66 (.tmp 2) (.tmp 8) rfl N (ocells (sha [])) rfl rfl _ _ Q1.out HSZ.out HSO.out (ocells_one _) ?_)
    refine bodyPost_ret (results_cell_row rfl _ _ N _ (ocells (sha [])) _ _ rfl (setRow_heap _ _ _ _ _ _ Q1.out) underH rfl HSZ.out) rfl ⟨rfl, by rw [← HN.out]; exact below_setRow Q2.out (Nat.le_refl _) _⟩
  · have hlp : 0 < ls.length := List.length_pos_iff.2 hz
    obtain ⟨g, c', e⟩ : ∃ g c', Value.slice a ls.length c = .slice (some ⟨g, 0, none⟩) ls.length c' := by
      rcases HFM.out with ⟨e, h0⟩ | ⟨g, c', e⟩
      · omega
      · exact ⟨g, c', e⟩
    cases e
    have hlast := upB_last hz
    have hup0 : (upB ls).length = 32 := upB_length ls H32.out
    obtain ⟨_, _, _, B, off, e, hBl, hr, hxl⟩ := HH.out.at (ls.length - 1) (by omega)
    cases e
    obtain ⟨L, hL⟩ : ∃ L, L = ls.length := ⟨_, rfl⟩
    rw [Nat.zero_add] at hr
    obtain ⟨x, hx⟩ : ∃ x, x = ls[ls.length - 1] := ⟨_, rfl⟩
    rw [← hx] at hr hxl hlast
    rw [← hL] at hlp hr hlast hm ⊢
    have hrW := rangeAt_below hr hBl (by rw [← HN.out]; exact KB.out)
    have RX := Bx.mk hrW; have XL := Bx.mk hxl; have LP := Bx.mk hlp; have HLS := Bx.mk hlast; have LL := Bx.mk hL; have UL := Bx.mk hup0
    have l0 : ((L : Int) == 0) = false := by rw [beq_eq_false_iff_ne]; omega
    have l1 : (L == 0) = false := by rw [beq_eq_false_iff_ne]; omega
    have hl2 : ¬ L ≤ L - 1 := by omega
    have hi1 : IntKind.i64.wrap ((L : Int) - 1) = ((L - 1 : Nat) : Int) := by simp [IntKind.wrap, IntKind.bits, IntKind.signed]; omega
    clear hr hBl hxl hlast hx hL hup0 hz hrW
    go_upto_region 4 with (first
      | (guard_target =~ wpList _ _ _ (⟨some 14, _, _, _, _, _⟩ :: _) _ _; refine wpList_load_mid rfl 66 (.tmp 13) rfl g ((L - 1) * 32) rfl _ _ RX.out underH rfl (hszB' XL.out) ?_)
      | (guard_target =~ wpList _ _ _ (⟨none, _, _, _, _, _⟩ :: _) _ _; refine wpList_store_row rfl 66 (.tmp 3) (.tmp 14) rfl W.heap.size (ocells x) rfl rfl _ _ (heap_alloc_new W _) (hszL XL.out) (hsoL XL.out) (ocells_one _) ?_))
    have y3 := setRow_heap (W.alloc (.cells zeros32 66)) W.heap.size zeros32 (ocells x) 66 (0, 0) (heap_alloc_new W _)
    have hb := below_setRow ((Below.refl W.heap.size W).alloc (Nat.le_refl _) (.cells zeros32 66)) (Nat.le_refl _) (ocells x)
    change Code.wp _ _ _ _ ((W.alloc (.cells zeros32 66)).setRow W.heap.size (ocells x))
    generalize (W.alloc (.cells zeros32 66)).setRow W.heap.size (ocells x) = W1 at y3 hb ⊢
    obtain ⟨g3, hg3⟩ : ∃ g3, g3 = W.heap.size := ⟨_, rfl⟩
    rw [← hg3] at y3 ⊢
    have Z3 := Bx.mk y3; have BZ := Bx.mk hb; have G3 := Bx.mk (show W.heap.size ≤ g3 by omega)
    clear y3 hb hg3
    go_wp2_with fail
    go_loopw [4] (fun iv wr => ∃ K : Nat, K ≤ L - 1 ∧ iv = .int .i64 ((K : Int) - 1) ∧ wr.heap[g3]? = some (.cells (ocells (upB (ls.drop K))) 66 (0, 0)) ∧ Below W.heap.size W wr) (fun iv _ => (intOf iv + 1).toNat)
    case atStart => exact ⟨L - 1, Nat.le_refl _, by have := LP.out; go_num, by rw [HLS.out]; exact Z3.out, BZ.out⟩
    case round =>
      obtain ⟨K0, hK, rfl, h3, hb⟩ := hrel
      have Y3 := Bx.mk h3; have BW := Bx.mk hb
      clear h3 hb
      by_cases hlt : 0 < K0
      · obtain ⟨K, rfl⟩ : ∃ K, K0 = K + 1 := ⟨K0 - 1, by omega⟩
        have hKl : K + 1 < ls.length := by have := LL.out; omega
        have hst := upB_drop hKl
        obtain ⟨_, _, _, B, off, e, hBl, hr, hxl⟩ := HH.out.at K (by omega)
        cases e
        rw [Nat.zero_add] at hr
        have hyl : (upB (ls.drop (K + 1))).length = 32 := upB_length _ (fun x hx => H32.out x (List.mem_of_mem_drop hx))
        have h3 := Y3.out
        clear Y3 RX XL
        obtain ⟨x, hx⟩ : ∃ px, px = ls[K] := ⟨_, rfl⟩
        rw [← hx] at hr hxl hst
        obtain ⟨y, hy⟩ : ∃ y, y = upB (ls.drop (K + 1)) := ⟨_, rfl⟩
        rw [← hy] at hyl hst h3
        obtain ⟨z, hz⟩ : ∃ z, z = nd x y := ⟨_, rfl⟩
        rw [← hz] at hst
        have hzl : z.length = 32 := by rw [hz]; exact nd_length _ _
        have RX := Bx.mk (fun u (hu : Below W.heap.size W u) => rangeAt_below hr hBl (by rw [← HN.out]; exact KB.out.trans (hu.mono (Nat.le_of_lt (Array.getElem?_eq_some_iff.1 XN.out).1))))
        have XL := Bx.mk hxl; have YL := Bx.mk hyl; have ZL := Bx.mk hzl; have HST := Bx.mk hst; have Y3 := Bx.mk h3; have KL := Bx.mk (show K < L by omega)
        have ND := Bx.mk (show sha (1 :: (x ++ y)) = z from hz.symm)
        rw [show (((K + 1 : Nat) : Int) - 1) = (K : Int) by omega]
        clear hr hBl hxl hyl hzl hst h3 hx hy hz hKl hlt hK
        go_upto_region 7 with (fail)
        refine wp_region_own8 (n := 29) VFomk (ownTwo g3 g3 6 6) (VFo g c L g3 K x y z) (by kernel_rfl) (by kernel_rfl) rfl (fun k hk => ownTwo_none (by have := (Array.getElem?_eq_some_iff.1 Y3.out).1; omega) (by have := (Array.getElem?_eq_some_iff.1 Y3.out).1; omega)) (fun j i hj _ => by cases hj) ?_ ?_ ?_
        · exact fun oi oj v own w own' w' hij _ h r => VFo_mono g c L g3 K x y z oi oj v own w own' w' hij h r
        · intro oi o hi f u own hsame hsn hfr hlate hkeep8 hdep
          have hkeep := hkeep8 _ (.inl rfl)
          have hk6 := hsn.keepTwo
          have hb6 : Below W.heap.size W u := BW.out.trans (hk6.below BW.out.size (fun k hk => by have := G3.out; omega))
          match oi, hi with
          | 0, hi =>
            cases (show some _ = some o from hi)
            have e0 : f.tmps.getD 0 undef = .slice (some ⟨g, 0, none⟩) L c := hsame.slot 0 (fun i o h => invB2_not 0 (by kernel_rfl) h)
            clear hdep hsame hi hlate hfr hkeep
            exact .inl ⟨wanted_none rfl, showsO_move hsn rfl _ rfl e0⟩
          | 1, hi =>
            cases (show some _ = some o from hi)
            have e4 : f.tmps.getD 4 undef = .int .i64 (K : Int) := hsame.slot 4 (fun i o h => invB2_not 4 (by kernel_rfl) h)
            clear hdep hsame hi hlate hfr hkeep
            exact .inl ⟨wanted_none rfl, showsO_move hsn rfl _ rfl e4⟩
          | 2, hi =>
            cases (show some _ = some o from hi)
            have e22 : (f.tmps.getD 22 undef) = .slice (some ⟨g, 0, none⟩) L c := depO (V := (VFo g c L g3 K x y z)) hdep 0 22 (by kernel_rfl) (by kernel_rfl)
            have e23 : (f.tmps.getD 23 undef) = .int .i64 (K : Int) := depO (V := (VFo g c L g3 K x y z)) hdep 1 23 (by kernel_rfl) (by kernel_rfl)
            clear hdep hsame hi hlate hfr hkeep
            have hl := KL.out
            have hl2 : ¬ L ≤ K := by omega
            exact .inl ⟨wanted_none rfl, showsO_pure hsn rfl (.pointer (some ⟨g, K * 32, none⟩)) (by simp only [execOp, Act.eval]; go_simp) rfl⟩
          | 3, hi =>
            cases (show some _ = some o from hi)
            have e24 : (f.tmps.getD 24 undef) = .pointer (some ⟨g, K * 32, none⟩) := depO (V := (VFo g c L g3 K x y z)) hdep 2 24 (by kernel_rfl) (by kernel_rfl)
            clear hdep hsame hi hlate hfr hkeep
            exact .inl ⟨wanted_none rfl, showsO_mid hsn rfl 66 (.tmp 24) rfl g (K * 32) e24 (bcells x) (RX.out u hb6) underH rfl (hszB' XL.out) rfl⟩
          | 4, hi =>
            cases (show some _ = some o from hi)
            have e3 : f.tmps.getD 3 undef = .pointer (some ⟨g3, 0, none⟩) := hsame.slot 3 (fun i o h => invB2_not 3 (by kernel_rfl) h)
            clear hdep hsame hi hlate hfr hkeep
            have hgu := (hkeep8 6 (.inr (by kernel_rfl)) g3 (Array.getElem?_eq_some_iff.1 Y3.out).1 (ownTwo_one _ _ _ _)).trans Y3.out
            exact .inl ⟨wanted_none rfl, showsO_row hsn rfl 66 (.tmp 3) rfl g3 e3 (ocells y) hgu underH rfl (hszL YL.out) rfl⟩
          | 5, hi =>
            cases (show some _ = some o from hi)
            have e25 : (f.tmps.getD 25 undef) = .agg (ocells (x)) := depO (V := (VFo g c L g3 K x y z)) hdep 3 25 (by kernel_rfl) (by kernel_rfl)
            have e26 : (f.tmps.getD 26 undef) = .agg (ocells (y)) := depO (V := (VFo g c L g3 K x y z)) hdep 4 26 (by kernel_rfl) (by kernel_rfl)
            clear hdep hsame hi hlate hfr hkeep
            have c := rnode_any u x y XL.out YL.out
            rw [hv_agg, hv_agg, hv_agg, show sha (1 :: (x ++ y)) = z from ND.out] at c
            exact .inl ⟨wanted_none rfl, showsO_call1 hsn rfl 116 #[.agg (ocells (x)), .agg (ocells (y))] (by simp only [execOp, Act.eval]; go_simp) (c) (fun _ => rfl)⟩
          | 6, hi =>
            cases (show some _ = some o from hi)
            have e3 : f.tmps.getD 3 undef = .pointer (some ⟨g3, 0, none⟩) := hsame.slot 3 (fun i o h => invB2_not 3 (by kernel_rfl) h)
            have e27 : (f.tmps.getD 27 undef) = .agg (ocells (z)) := depO (V := (VFo g c L g3 K x y z)) hdep 5 27 (by kernel_rfl) (by kernel_rfl)
            clear hdep hsame hi hlate hfr hkeep
            exact .inl ⟨wanted_none rfl, showsO_store_out hsn rfl 66 (.tmp 3) (.tmp 27) rfl (g3) e3 Y3.out (ownTwo_one _ _ _ _) (ocells z) e27 (hszL ZL.out) (by rw [ocells_size, ocells_size, YL.out, ZL.out]) (ocells_one _) (fun _ h => h)⟩
          | n + 7, hi => exact absurd hi (by simp)
        · intro f u own hsame hsn hall
          have q22 : f.tmps.getD 22 undef = .slice (some ⟨g, 0, none⟩) L c := finO (V := (VFo g c L g3 K x y z)) hall 0 22 rfl
          have q23 : f.tmps.getD 23 undef = .int .i64 (K : Int) := finO (V := (VFo g c L g3 K x y z)) hall 1 23 rfl
          have q24 : f.tmps.getD 24 undef = .pointer (some ⟨g, K * 32, none⟩) := finO (V := (VFo g c L g3 K x y z)) hall 2 24 rfl
          have q25 : f.tmps.getD 25 undef = .agg (ocells (x)) := finO (V := (VFo g c L g3 K x y z)) hall 3 25 rfl
          have q26 : f.tmps.getD 26 undef = .agg (ocells (y)) := finO (V := (VFo g c L g3 K x y z)) hall 4 26 rfl
          have q27 : f.tmps.getD 27 undef = .agg (ocells (z)) := finO (V := (VFo g c L g3 K x y z)) hall 5 27 rfl
          obtain ⟨o_6, m_6⟩ : OutV own u (g3) 6 66 (ocells z) := finN (V := (VFo g c L g3 K x y z)) hall 6 rfl
          obtain rfl := frame_eq hsame [(22, .slice (some ⟨g, 0, none⟩) L c), (23, .int .i64 (K : Int)), (24, .pointer (some ⟨g, K * 32, none⟩)), (25, .agg (ocells (x))), (26, .agg (ocells (y))), (27, .agg (ocells (z)))] (by kernel_rfl) ⟨q22, q23, q24, q25, q26, q27, trivial⟩
          clear hall hsame q22 q23 q24 q25 q26 q27
          simp only [List.foldl, List.setIfInBounds_toArray, List.set_cons_succ, List.set_cons_zero]
          have hk6 := hsn.keepTwo
          have hb6 : Below W.heap.size W u := BW.out.trans (hk6.below BW.out.size (fun k hk => by have := G3.out; omega))
          have B6 := Bx.mk hb6; have M6 := Bx.mk m_6
          clear hk6 hb6 m_6 o_6 hsn
          have hkl : K < L := KL.out
          go_wp2_with fail
          go_roundw
          case rel => exact ⟨K, by have := KL.out; omega, by go_num, by rw [HST.out]; exact M6.out, B6.out⟩
          case measure => first | (simp only [intOf]; omega) | (show ((K : Int) - 1 + 1).toNat < ((K : Int) + 1).toNat; omega)
      · obtain rfl : K0 = 0 := by omega
        have y3 := Y3.out
        rw [List.drop_zero] at y3
        have hxn := (BW.out.block N (Array.getElem?_eq_some_iff.1 XN.out).1).trans XN.out
        have kz : Below N w wr := KB.out.trans (BW.out.mono (Nat.le_of_lt (Array.getElem?_eq_some_iff.1 XN.out).1))
        have Z4 := Bx.mk y3; have ZN := Bx.mk hxn; have HSZ := Bx.mk (hszL UL.out); have HSO := Bx.mk (hsoL UL.out); have KZ := Bx.mk kz
        clear y3 hxn kz Y3 hlt hK
        go_wp2_with (first
          | (guard_target =~ wpList _ _ _ (⟨some 28, _, _, _, _, _⟩ :: _) _ _; refine wpList_load_row rfl 66 (.tmp 3) rfl g3 rfl _ _ _ _ Z4.out underH rfl HSZ.out ?_)
          | (guard_target =~ wpList _ _ _ (⟨none, _, _, _, _, _⟩ :: _) _ _; refine wpList_store_row rfl 66 (.tmp 2) (.tmp 28) rfl N (ocells (upB ls)) rfl rfl _ _ ZN.out HSZ.out HSO.out (ocells_one _) ?_))
        refine bodyPost_ret (results_cell_row rfl _ _ N _ (ocells (upB ls)) _ _ rfl (setRow_heap _ _ _ _ _ _ ZN.out) underH rfl HSZ.out) rfl ⟨rfl, by rw [← HN.out]; exact below_setRow KZ.out (Nat.le_refl _) _⟩
theorem rroot_any (base : Nat) (w : World) (r n : Nat) (ls : List (List UInt8)) (L : Value) (h : RbM base w r n ls L) (hm : ls.length ≤ 64) :
    Calls Tryz.prog 20 #[.pointer (some ⟨r, 0, none⟩)] w fun e w' => e = .returned (hv (upB ls)) ∧ Below w.heap.size w w' := by
  have kb := er_al (Below.refl w.heap.size w) (.cells zeros32 66)
  have xN := heap_alloc_new w (.cells zeros32 66)
  have h2 := h.below kb
  have c1 := er_cellAt h2.hb 1 _ rfl
  have cf := rfold_any base _ ls L h2.row h2.h32 hm
  have hup0 : (upB ls).length = 32 := upB_length ls h.h32
  go_enter Tryz.func20, Tryz.ntmps20
  go_upto_region 1 with (fail)
  change Code.wp _ _ _ _ (w.alloc (.cells zeros32 66))
  generalize w.alloc (.cells zeros32 66) = W at kb xN h2 c1 cf ⊢
  obtain ⟨N, hN⟩ : ∃ N, N = w.heap.size := ⟨_, rfl⟩
  rw [← hN] at xN kb ⊢
  have XN := Bx.mk xN; have KB := Bx.mk kb; have CF := Bx.mk cf; have UL := Bx.mk hup0; have HN := Bx.mk hN
  clear xN kb h2 cf hup0 h hN
  go_wp2_with fail
  refine CF.out.mono ?_
  rintro e w4 ⟨rfl, hb4⟩
  have hlt := (Array.getElem?_eq_some_iff.1 XN.out).1
  have q1 := (hb4.block N hlt).trans XN.out
  have q2 : Below N w w4 := KB.out.trans (hb4.mono (Nat.le_of_lt hlt))
  have Q1 := Bx.mk q1; have Q2 := Bx.mk q2; have HSZ := Bx.mk (hszL UL.out); have HSO := Bx.mk (hsoL UL.out)
  clear hb4 q1 q2 hlt c1
  go_wp2_with (refine wpList_store_row rfl 66 (.tmp 2) (.tmp 7) rfl N (ocells (upB ls)) rfl rfl _ _ Q1.out HSZ.out HSO.out (ocells_one _) ?_)
  refine bodyPost_ret (results_cell_row rfl _ _ N _ (ocells (upB ls)) _ _ rfl (setRow_heap _ _ _ _ _ _ Q1.out) underH rfl HSZ.out) rfl ⟨rfl, by rw [← HN.out]; exact below_setRow Q2.out (Nat.le_refl _) _⟩

end Go.Proofs.YtbhcaalelfaceaaGreatDoor
end
section
namespace Go.Proofs.YtbhcaalelfaceaaGreatDoor
set_option maxRecDepth 100000
open Go.RowKit
theorem rcnt_any (w : World) (n : Nat) (hn : n < 18446744073709551616) : Calls Tryz.prog 77 #[.int .u64 (n : Int)] w fun e w' => e = .returned (.int .i64 ((pcnt n : Nat) : Int)) ∧ w = w' := by
  obtain ⟨P, hP⟩ : ∃ P, P = pcnt n := ⟨_, rfl⟩
  have hp64 : P ≤ 64 := by rw [hP]; exact pcnt_le n
  have h0 : (0 : Nat) + pcF 64 n = P := by rw [hP, Nat.zero_add]; rfl
  rw [← hP]
  have H0 := Bx.mk h0; have HNN := Bx.mk hn; have P64 := Bx.mk hp64
  clear hP h0 hn hp64
  go_enter Tryz.func77, Tryz.ntmps77
  go_wp2_with fail
  go_loopw [3, 0] (fun kv xv wr => ∃ k x f : Nat, kv = .int .i64 (k : Int) ∧ xv = .int .u64 (x : Int) ∧ x < 2 ^ f ∧ f ≤ 64 ∧ k + pcF f x = P ∧ wr = w) (fun _ xv _ => (intOf xv).toNat)
  case atStart => exact ⟨0, n, 64, rfl, rfl, HNN.out, Nat.le_refl _, H0.out, rfl⟩
  case round =>
    obtain ⟨k, x, f, rfl, rfl, hx, hf, hk, rfl⟩ := hrel
    by_cases hz : 0 < x
    · obtain ⟨f', rfl⟩ : ∃ f', f = f' + 1 := ⟨f - 1, by cases f with | zero => simp at hx; omega | succ f => omega⟩
      have hx2 : x / 2 < 2 ^ f' := by rw [Nat.pow_succ] at hx; omega
      have hk2 : (k + x % 2) + pcF f' (x / 2) = P := by rw [Nat.add_assoc]; exact hk
      have hp := P64.out
      have hw2 : IntKind.u64.wrap ((x : Int) / 2) = ((x / 2 : Nat) : Int) := by
        have h64 : (2 : Nat) ^ (f' + 1) ≤ 2 ^ 64 := Nat.pow_le_pow_right (by decide) hf
        rw [Nat.pow_succ, show (2 : Nat) ^ 64 = 18446744073709551616 from by decide] at h64
        simp [IntKind.wrap, IntKind.bits, IntKind.signed]; omega
      have hw3 : wrap64 ((k : Int) + (x : Int) % 2) = ((k + x % 2 : Nat) : Int) := by
        have h3 : k + x % 2 ≤ P := by omega
        unfold wrap64; omega
      have W3 := Bx.mk hw3
      have FF := Bx.mk hf; have XX := Bx.mk hx2; have KK := Bx.mk hk2; have ZZ := Bx.mk hz; have W2 := Bx.mk hw2
      clear hx hx2 hf hk hk2 hw2 hw3
      go_wp2_with fail
      go_roundw
      case rel => exact ⟨k + x % 2, x / 2, f', by rw [W3.out], by rw [W2.out], XX.out, (by have := FF.out; omega), KK.out, trivial⟩
      case measure => rw [W2.out]; have := ZZ.out; simp [intOf]; omega
    · obtain rfl : x = 0 := by omega
      have hk2 : k = P := by rw [pcF_zero] at hk; omega
      subst hk2
      clear hx hf hk hz
      go_wp2_with fail
      go_ret
      exact ⟨rfl, rfl⟩
/-- what the document's Load hands out -/
def RLoadP (base : Nat) (w' : World) (e : Ending) (n : Nat) (hs : List (List UInt8)) : Prop :=
  if 9223372036854775808 < n then e = .returned (.tuple #[.pointer none, .agg #[.int .i64 5, .int .i64 (-1)]])
  else if hs.length ≠ pcnt n then e = .returned (.tuple #[.pointer none, .agg #[.int .i64 2, .int .i64 (-1)]])
  else ∃ r L, e = .returned (.tuple #[.pointer (some ⟨r, 0, none⟩), .agg #[.int .i64 0, .int .i64 0]]) ∧ RbM base w' r n hs L
theorem one_setE {w : World} {n : Nat} {a b : Value} {T : TypeId} {fr : Nat × Nat} (h : w.heap[n]? = some (.cells #[a, b] T fr)) (y : Value) :
    (w.setCell ⟨n, 1, none⟩ y).heap[n]? = some (.cells #[a, y] T fr) := by
  simp [World.setCell, Array.getElem?_modify, h]
set_option maxHeartbeats 1600000 in
theorem rload_any (w : World) (n : Nat) (hn : n < 18446744073709551616) (a : Option Addr) (l c : Nat) (hs : List (List UInt8)) (hH : Hss w (.slice a l c) hs) (hnil : a = none → c = 0 ∧ l = 0) :
    Calls Tryz.prog 13 #[.int .u64 (n : Int), .slice a l c] w fun e w' => RLoadP w.heap.size w' e n hs ∧ Below w.heap.size w w' := by
  have hl : l = hs.length := by obtain ⟨_, _, e, _⟩ := hH.len; cases e; rfl
  have kb := er_al (Below.refl w.heap.size w) (.cells #[.int .i64 0, .int .i64 0] 73)
  have x0 := heap_alloc_new w (.cells #[.int .i64 0, .int .i64 0] 73)
  have hH2 := hH.below kb
  have hcl := hcells_length hH.1
  have hlen : hs.length ≤ 9223372036854775807 := by obtain ⟨_, _, e, h1, h2⟩ := hH.len; omega
  obtain ⟨i0, hi, hz0, hz1, hz2⟩ := info_parts infoH
  have RI := Bx.mk (And.intro hi (And.intro hz0 (And.intro hz1 hz2)))
  have HN := Bx.mk hnil; have HL := Bx.mk hcl; have H32 := Bx.mk hH.1
  have CP := Bx.mk (fun w c hc => plainP_any w c hc)
  subst hl
  clear hH hnil hcl hi hz0 hz1 hz2
  obtain ⟨k, hk⟩ : ∃ k, k = pcnt n := ⟨_, rfl⟩
  have hkl : k ≤ 64 := by rw [hk]; exact pcnt_le n
  have co := fun w => rcnt_any w n hn
  rw [← hk] at co
  have CO := Bx.mk co; have HK := Bx.mk hk; clear co hk
  go_enter Tryz.func13, Tryz.ntmps13
  go_upto_region 1 with (fail)
  change Code.wp _ _ _ _ (w.alloc (.cells #[.int .i64 0, .int .i64 0] 73))
  generalize w.alloc (.cells #[.int .i64 0, .int .i64 0] 73) = W at kb x0 hH2 ⊢
  obtain ⟨N, hN⟩ : ∃ N, N = w.heap.size := ⟨_, rfl⟩
  rw [← hN] at x0 ⊢
  have KB := Bx.mk kb; have X0 := Bx.mk x0; have H2 := Bx.mk hH2; have HNN := Bx.mk hN
  clear kb x0 hH2 hN
  by_cases hbig : 9223372036854775808 < n
  · go_wp2_with fail
    refine (CP.out _ 5 (by decide)).mono ?_
    rintro e w1 ⟨rfl, hb⟩
    have x1 := (hb.block N (Array.getElem?_eq_some_iff.1 X0.out).1).trans X0.out
    have X1 := Bx.mk x1
    have B1 := Bx.mk (KB.out.trans (hb.mono KB.out.size))
    have c0 := er_cellAt x1 0 _ rfl; have c1 := er_cellAt x1 1 _ rfl
    have f3 := frozenC x1 0; have f4 := frozenC x1 1
    clear hb x1
    go_wp2_with fail
    refine bodyPost_ret (res_tf rfl _ _ N _ _ _ _ rfl (two_setE X1.out _ _) Tryz.underlying73 (by kernel_rfl)) rfl ⟨by unfold RLoadP; rw [if_pos hbig]; rfl, (B1.out.setCell (show w.heap.size ≤ N by have := HNN.out; omega) _).setCell (show w.heap.size ≤ N by have := HNN.out; omega) _⟩
  · go_upto_region 3 with (fail)
    go_wp2_with fail
    refine (CO.out _).mono ?_
    rintro e u ⟨rfl, rfl⟩
    by_cases hp : hs.length = k
    · have M1 := Bx.mk (show 0 + hs.length ≤ maxLen by unfold maxLen; omega); have M2 := Bx.mk (show (0 + hs.length) * 32 ≤ 140737488355328 by omega)
      have hq : ((hs.length : Int) == (k : Int)) = true := by rw [beq_iff_eq]; omega
      have hq' : (hs.length == k) = true := by rw [beq_iff_eq]; exact hp
      have HP := Bx.mk hp
      clear hp
      go_upto_region 6 with (fail)
      change Code.wp _ _ _ _ (W.alloc (.cells #[.int .u64 (n : Int), .slice none 0 0] 62))
      have kb2 := er_al (Below.refl W.heap.size W) (.cells #[.int .u64 (n : Int), .slice none 0 0] 62)
      have r0 := heap_alloc_new W (.cells #[.int .u64 (n : Int), .slice none 0 0] 62)
      generalize W.alloc (.cells #[.int .u64 (n : Int), .slice none 0 0] 62) = W2 at kb2 r0 ⊢
      obtain ⟨R, hR⟩ : ∃ R, R = W.heap.size := ⟨_, rfl⟩
      rw [← hR] at r0 ⊢
      have R0 := Bx.mk r0; have HR := Bx.mk hR
      have K2 := Bx.mk kb2
      have X2 := Bx.mk ((kb2.block N (Array.getElem?_eq_some_iff.1 X0.out).1).trans X0.out)
      have HS := Bx.mk (hss_src (H2.out.below kb2))
      have R3 := Bx.mk (World.ownsRow_nil W2 W2.heap.size 66 32)
      have c1 := er_cellAt r0 1 _ rfl
      have f3 := frozenC r0 1
      clear r0 hR kb2
      go_upto_region 7 with (guard_target =~ wpList _ _ _ (⟨some 25, _, _, _, _, _⟩ :: _) _ _; refine wpList_append_src rfl (.tmp 23) (.tmp 24) 51 rfl W2.heap.size 66 i0 (.agg zeros32) 32 32 underHs RI.out.1 RI.out.2.1 RI.out.2.2.1 RI.out.2.2.2 rfl (by decide) (.slice none 0 0) 0 [] rfl R3.out a hs.length c (hcells hs) rfl HN.out HL.out HS.out (hcells_one _) M1.out M2.out (Nat.le_refl _) ?_; intro v1 w1 o1 g1 _; obtain ⟨a1, cc, rfl, _, _, _⟩ := own_shape o1; have hk1 : Keep (fun _ => False) W2 w1 := (Keep.of_grown g1).mono (fun k _ h => by cases h); have r1 := (hk1.block R (Array.getElem?_eq_some_iff.1 R0.out).1 (fun h => h)).trans R0.out; have R1 := Bx.mk r1; have X1 := Bx.mk ((hk1.block N (Array.getElem?_eq_some_iff.1 X2.out).1 (fun h => h)).trans X2.out); have O1 := Bx.mk o1; have G1 := Bx.mk hk1; clear c1 f3; have c1 := er_cellAt r1 1 _ rfl; have f3 := frozenC r1 1; clear o1 g1 hk1 r1)
      have NR := Bx.mk (show N < R by rw [HR.out]; exact (Array.getElem?_eq_some_iff.1 X0.out).1)
      have xN3 : (w1.setCell ⟨R, 1, none⟩ (.slice a1 hs.length cc)).heap[N]? = some (.cells #[.int .i64 0, .int .i64 0] 73 (0, 0)) := by
        have hne : R ≠ N := by have := NR.out; omega
        simp [World.setCell, Array.getElem?_modify, X1.out, hne]
      have xR3 := one_setE R1.out (.slice a1 hs.length cc)
      have o3 : (w1.setCell ⟨R, 1, none⟩ (.slice a1 hs.length cc)).ownsRow w.heap.size 66 32 (.slice a1 hs.length cc) hs.length (hcells hs) := by
        have o1 := O1.out
        simp only [Nat.zero_add, List.nil_append] at o1
        refine ownsRow_mono (ownsRow_setCell_ne o1 ⟨R, 1, none⟩ _ (fun k hk e => ?_)) ?_
        · have e2 : k = R := e
          have := ownsRow_fresh o1 k hk
          have := (Array.getElem?_eq_some_iff.1 R0.out).1
          omega
        · exact Nat.le_trans KB.out.size K2.out.size
      have b3 : Below w.heap.size w (w1.setCell ⟨R, 1, none⟩ (.slice a1 hs.length cc)) :=
        ((KB.out.trans (K2.out.mono KB.out.size)).trans (G1.out.below (Nat.le_trans KB.out.size K2.out.size) (fun _ h => h.elim))).setCell (show w.heap.size ≤ R by rw [HR.out]; exact KB.out.size) _
      change Code.wp _ _ _ _ (w1.setCell ⟨R, 1, none⟩ (.slice a1 hs.length cc))
      generalize w1.setCell ⟨R, 1, none⟩ (.slice a1 hs.length cc) = W3 at xN3 xR3 o3 b3 ⊢
      have X3 := Bx.mk xN3; have R4 := Bx.mk xR3; have O3 := Bx.mk o3; have B3 := Bx.mk b3
      have c2 := er_cellAt xN3 0 _ rfl; have c3 := er_cellAt xN3 1 _ rfl
      have f5 := frozenC xN3 0; have f6 := frozenC xN3 1
      clear xN3 xR3 o3 b3 c1 f3
      go_wp2_with fail
      have hnr : N ≠ R := by have := NR.out; omega
      refine bodyPost_ret (res_tf rfl _ _ N _ _ _ _ rfl (two_setE X3.out _ _) Tryz.underlying73 (by kernel_rfl)) rfl ⟨?_, (B3.out.setCell (show w.heap.size ≤ N by have := HNN.out; omega) _).setCell (show w.heap.size ≤ N by have := HNN.out; omega) _⟩
      unfold RLoadP
      rw [if_neg hbig, if_neg (fun h => h (HP.out.trans HK.out))]
      refine ⟨R, .slice a1 hs.length cc, rfl, ?_, by rw [HR.out]; exact KB.out.size, ?_, H32.out⟩
      · simp [World.setCell, Array.getElem?_modify, R4.out, hnr]
      · have hN : ∀ k, (Value.slice a1 hs.length cc).ownBlock = some k → k ≠ N := fun k hk => by
          have := ownsRow_fresh O1.out k (by rw [Nat.zero_add]; exact hk)
          have h1 := (Array.getElem?_eq_some_iff.1 R0.out).1
          have := NR.out
          omega
        exact ownsRow_setCell_ne (ownsRow_setCell_ne O3.out ⟨N, 0, none⟩ _ (fun k hk e => hN k hk e)) ⟨N, 1, none⟩ _ (fun k hk e => hN k hk e)
    · have hq : ((hs.length : Int) == (k : Int)) = false := by rw [beq_eq_false_iff_ne]; omega
      have hq' : (hs.length == k) = false := by rw [beq_eq_false_iff_ne]; exact hp
      go_wp2_with fail
      refine (CP.out _ 2 (by decide)).mono ?_
      rintro e w1 ⟨rfl, hb⟩
      have x1 := (hb.block N (Array.getElem?_eq_some_iff.1 X0.out).1).trans X0.out
      have X1 := Bx.mk x1
      have B1 := Bx.mk (KB.out.trans (hb.mono KB.out.size))
      have c0 := er_cellAt x1 0 _ rfl; have c1 := er_cellAt x1 1 _ rfl
      have f3 := frozenC x1 0; have f4 := frozenC x1 1
      clear hb x1
      go_wp2_with fail
      refine bodyPost_ret (res_tf rfl _ _ N _ _ _ _ rfl (two_setE X1.out _ _) Tryz.underlying73 (by kernel_rfl)) rfl ⟨by unfold RLoadP; rw [if_neg hbig, if_pos (fun h => hp (h.trans HK.out.symm))]; rfl, (B1.out.setCell (show w.heap.size ≤ N by have := HNN.out; omega) _).setCell (show w.heap.size ≤ N by have := HNN.out; omega) _⟩

end Go.Proofs.YtbhcaalelfaceaaGreatDoor
end
