/- (*emit.Builder).Root. -/
import Derived.Test.YtbhcaalelfaceaaGreatDoorEmA
import Derived.Test.YtbhcaalelfaceaaGreatDoorNd
import Derived.Lib.SmallJoins
import Derived.Test.YtbhcaalelfaceaaGreatDoorOwn8
namespace Go.Proofs.YtbhcaalelfaceaaGreatDoor
set_option maxRecDepth 100000
open Go.RowKit
/-- the whole trees' hashes, folded from the right -/
def upB : List (List UInt8) → List UInt8
  | [] => sha []
  | [x] => x
  | x :: y :: l => nd x (upB (y :: l))
theorem upB_length : ∀ (l : List (List UInt8)), (∀ x ∈ l, x.length = 32) → (upB l).length = 32
  | [], _ => sha_length _
  | [x], h => h x (by simp)
  | x :: y :: l, _ => nd_length _ _
theorem upB_drop {l : List (List UInt8)} {k : Nat} (h : k + 1 < l.length) : upB (l.drop k) = nd (l[k]'(by omega)) (upB (l.drop (k + 1))) := by
  rw [List.drop_eq_getElem_cons (by omega), List.drop_eq_getElem_cons h]
  rfl
theorem upB_last {l : List (List UInt8)} (h : l ≠ []) : upB (l.drop (l.length - 1)) = l[l.length - 1]'(by have := List.length_pos_iff.2 h; omega) := by
  have := List.length_pos_iff.2 h
  rw [List.drop_eq_getElem_cons (by omega), show l.length - 1 + 1 = l.length by omega, List.drop_length]
  rfl
def VEr5 (b g c L : Nat) (x : List UInt8) (oi : Nat) (v : Value) (own : Nat → Option Nat) (w : World) : Prop :=
  match oi with
  | 0 => v = .pointer (some ⟨b, 0, none⟩)
  | 1 => v = .pointer (some ⟨b, 0, none⟩)
  | 2 => v = .pointer (some ⟨b, 2, none⟩)
  | 3 => v = .slice (some ⟨g, 0, none⟩) L c
  | 4 => v = .pointer (some ⟨b, 0, none⟩)
  | 5 => v = .pointer (some ⟨b, 0, none⟩)
  | 6 => v = .pointer (some ⟨b, 2, none⟩)
  | 7 => v = .slice (some ⟨g, 0, none⟩) L c
  | 8 => v = .int .i64 (L : Int)
  | 9 => v = .int .i64 ((L - 1 : Nat) : Int)
  | 10 => v = .pointer (some ⟨g, (L - 1) * 32, none⟩)
  | 11 => v = .agg (ocells (x))
  | 12 => AllocV own w v 13 66 32
  | 13 => StoredV own w 13 66 (ocells x)
  | _ => True
def VEr5mk : Nat → Option Nat := fun j => match j with | 13 => some 12 | _ => none
theorem VEr5_mono (b g c L : Nat) (x : List UInt8) (oi oj : Nat) (v : Value) (own : Nat → Option Nat) (w : World) (own' : Nat → Option Nat) (w' : World) (hij : oi ≠ oj)   (h : VEr5 b g c L x oj v own w) (r : Rel VEr5mk oi own w own' w') : VEr5 b g c L x oj v own' w' := by
  unfold VEr5 at h ⊢
  split at h
  · exact h
  · exact h
  · exact h
  · exact h
  · exact h
  · exact h
  · exact h
  · exact h
  · exact h
  · exact h
  · exact h
  · exact h
  · exact h.stable r rfl hij
  · exact h.stable r hij
  · trivial

def VEr9 (b g c L g3 K : Nat) (x y z : List UInt8) (oi : Nat) (v : Value) (own : Nat → Option Nat) (w : World) : Prop :=
  match oi with
  | 0 => v = .pointer (some ⟨b, 0, none⟩)
  | 1 => v = .pointer (some ⟨b, 0, none⟩)
  | 2 => v = .pointer (some ⟨b, 2, none⟩)
  | 3 => v = .slice (some ⟨g, 0, none⟩) L c
  | 4 => v = .int .i64 (K : Int)
  | 5 => v = .pointer (some ⟨g, K * 32, none⟩)
  | 6 => v = .agg (ocells (x))
  | 7 => v = .agg (ocells (y))
  | 8 => v = .agg (ocells (z))
  | 9 => OutV own w (g3) 9 66 (ocells z)
  | _ => True
def VEr9mk : Nat → Option Nat := fun _ => none
theorem VEr9_mono (b g c L g3 K : Nat) (x y z : List UInt8) (oi oj : Nat) (v : Value) (own : Nat → Option Nat) (w : World) (own' : Nat → Option Nat) (w' : World) (hij : oi ≠ oj)   (h : VEr9 b g c L g3 K x y z oj v own w) (r : Rel VEr9mk oi own w own' w') : VEr9 b g c L g3 K x y z oj v own' w' := by
  unfold VEr9 at h ⊢
  split at h
  · exact h
  · exact h
  · exact h
  · exact h
  · exact h
  · exact h
  · exact h
  · exact h
  · exact h
  · exact h.stable r hij
  · trivial

set_option maxHeartbeats 3200000 in
theorem broot_any (base : Nat) (w : World) (b n : Nat) (ls : List (List UInt8)) (s : Value) (hB : BuP base w b n ls s) (hT : TabS w) (hm : ls.length ≤ 64) :
    Calls Tryz.prog 19 #[.pointer (some ⟨b, 0, none⟩)] w fun e w' => e = .returned (hv (upB ls)) ∧ Below w.heap.size w w' := by
  have kb := er_al (Below.refl w.heap.size w) (.cells zeros32 66)
  have xN := heap_alloc_new w (.cells zeros32 66)
  have hbl := hB.lt b (.inl rfl)
  have h2 := hB.below kb
  have hH := hB.hss
  obtain ⟨a, c, hs, hc1, hc2, hc3⟩ := own_shape hB.own
  have hfm := Go.Joins.ownsRow_forms hB.own
  subst hs
  have c0 := cell_at h2.hb 0 _ rfl
  have c2 := cell_at h2.hb 2 _ rfl
  have xb := h2.hb
  have h32 := hB.h32
  go_enter Tryz.func19, Tryz.ntmps19
  go_upto_region 1 with (fail)
  change Code.wp _ _ _ _ (w.alloc (.cells zeros32 66))
  generalize w.alloc (.cells zeros32 66) = W at kb xN h2 c0 c2 xb ⊢
  obtain ⟨N, hN⟩ : ∃ N, N = w.heap.size := ⟨_, rfl⟩
  rw [← hN] at xN hbl kb ⊢
  have XN := Bx.mk xN; have KB := Bx.mk kb; have XB := Bx.mk xb; have BL := Bx.mk hbl; have H32 := Bx.mk h32; have HN := Bx.mk hN; have HH := Bx.mk hH; have HFM := Bx.mk hfm
  have HT := Bx.mk (hT.below (by rw [← hN]; exact kb))
  clear xN kb xb hbl h32 hN hH hfm h2 hB hT
  by_cases hz : ls = []
  · subst hz
    have ce := empty_any W HT.out
    have CE := Bx.mk ce; clear ce
    go_wp2_with fail
    refine CE.out.mono ?_
    rintro e w4 ⟨rfl, hb4⟩
    have hlt := (Array.getElem?_eq_some_iff.1 XN.out).1
    have q1 := (hb4.block N hlt).trans XN.out
    have q2 : Below N w w4 := KB.out.trans (hb4.mono (Nat.le_of_lt hlt))
    have Q1 := Bx.mk q1; have Q2 := Bx.mk q2; have HSZ := Bx.mk (hszL (sha_length [])); have HSO := Bx.mk (hsoL (sha_length []))
    clear hb4 q1 q2 hlt
    go_wp2_with (refine wpList_store_row rfl 66 (.tmp 2) (.tmp 21) rfl N (ocells (sha [])) rfl rfl _ _ Q1.out HSZ.out HSO.out (ocells_one _) ?_)
    refine bodyPost_ret (results_cell_row rfl _ _ N _ (ocells (sha [])) _ _ rfl (setRow_heap _ _ _ _ _ _ Q1.out) underH rfl HSZ.out) rfl ⟨rfl, by rw [← HN.out]; exact below_setRow Q2.out (Nat.le_refl _) _⟩
  · have hlp : 0 < ls.length := List.length_pos_iff.2 hz
    obtain ⟨g, c', e⟩ : ∃ g c', Value.slice a ls.length c = .slice (some ⟨g, 0, none⟩) ls.length c' := by
      rcases HFM.out with ⟨e, h0⟩ | ⟨g, c', e⟩
      · omega
      · exact ⟨g, c', e⟩
    cases e
    have hlast := upB_last hz
    have hup0 : (upB ls).length = 32 := upB_length ls H32.out
    obtain ⟨_, _, _, B, off, e, hBl, hr, hxl⟩ := HH.out.at (ls.length - 1) (by omega)
    cases e
    obtain ⟨L, hL⟩ : ∃ L, L = ls.length := ⟨_, rfl⟩
    rw [Nat.zero_add] at hr
    obtain ⟨x, hx⟩ : ∃ x, x = ls[ls.length - 1] := ⟨_, rfl⟩
    rw [← hx] at hr hxl hlast
    rw [← hL] at hlp hr hlast c2 hm
    have RX := Bx.mk (fun u (hu : Below W.heap.size W u) => rangeAt_below hr hBl (by rw [← HN.out]; exact KB.out.trans (hu.mono (Nat.le_of_lt (Array.getElem?_eq_some_iff.1 XN.out).1)))); have XL := Bx.mk hxl; have LP := Bx.mk hlp; have HLS := Bx.mk hlast; have LL := Bx.mk hL; have UL := Bx.mk hup0
    have l0 : ((L : Int) == 0) = false := by rw [beq_eq_false_iff_ne]; omega
    have l1 : (L == 0) = false := by rw [beq_eq_false_iff_ne]; omega
    clear hr hBl hxl hlast hx hL hup0 hz hlp
    go_upto_region 5 with (fail)
    refine wp_region_own4 (n := 54) VEr5mk (fun _ => none) (VEr5 b g c L x) (by kernel_rfl) (by kernel_rfl) rfl (fun _ _ => rfl) (fun _ _ _ _ h => by cases h) ?_ ?_ ?_
    · exact fun oi oj v own w own' w' hij _ h r => VEr5_mono b g c L x oi oj v own w own' w' hij h r
    · intro oi o hi f u own hsame hsn hfr hlate hkeep hdep
      have hb6 := hsn.below (B := W.heap.size) (fun _ _ => rfl) (Nat.le_refl _)
      match oi, hi with
      | 0, hi =>
        cases (show some _ = some o from hi)
        have e0 : f.tmps.getD 0 undef = .pointer (some ⟨b, 0, none⟩) := hsame.slot 0 (fun i o h => invB2_not 0 (by kernel_rfl) h)
        clear hdep hsame hi hlate hfr hkeep
        exact .inl ⟨wanted_none rfl, showsO_move hsn rfl _ rfl e0⟩
      | 1, hi =>
        cases (show some _ = some o from hi)
        have e22 : (f.tmps.getD 22 undef) = .pointer (some ⟨b, 0, none⟩) := depO (V := (VEr5 b g c L x)) hdep 0 22 (by kernel_rfl) (by kernel_rfl)
        clear hdep hsame hi hlate hfr hkeep
        exact .inl ⟨wanted_none rfl, showsO_pure hsn rfl (.pointer (some ⟨b, 0, none⟩)) (by simp only [execOp, Act.eval]; go_simp) rfl⟩
      | 2, hi =>
        cases (show some _ = some o from hi)
        have e23 : (f.tmps.getD 23 undef) = .pointer (some ⟨b, 0, none⟩) := depO (V := (VEr5 b g c L x)) hdep 1 23 (by kernel_rfl) (by kernel_rfl)
        clear hdep hsame hi hlate hfr hkeep
        exact .inl ⟨wanted_none rfl, showsO_pure hsn rfl (.pointer (some ⟨b, 2, none⟩)) (by simp only [execOp, Act.eval]; go_simp) rfl⟩
      | 3, hi =>
        cases (show some _ = some o from hi)
        have e24 : (f.tmps.getD 24 undef) = .pointer (some ⟨b, 2, none⟩) := depO (V := (VEr5 b g c L x)) hdep 2 24 (by kernel_rfl) (by kernel_rfl)
        clear hdep hsame hi hlate hfr hkeep
        have c2 := er_cellAt ((hb6.block b (Array.getElem?_eq_some_iff.1 XB.out).1).trans XB.out) 2 _ rfl
        rw [← LL.out] at c2
        exact .inl ⟨wanted_none rfl, showsO_pure hsn rfl (.slice (some ⟨g, 0, none⟩) L c) (by simp only [execOp, Act.eval]; go_simp) rfl⟩
      | 4, hi =>
        cases (show some _ = some o from hi)
        have e0 : f.tmps.getD 0 undef = .pointer (some ⟨b, 0, none⟩) := hsame.slot 0 (fun i o h => invB2_not 0 (by kernel_rfl) h)
        clear hdep hsame hi hlate hfr hkeep
        exact .inl ⟨wanted_none rfl, showsO_move hsn rfl _ rfl e0⟩
      | 5, hi =>
        cases (show some _ = some o from hi)
        have e26 : (f.tmps.getD 26 undef) = .pointer (some ⟨b, 0, none⟩) := depO (V := (VEr5 b g c L x)) hdep 4 26 (by kernel_rfl) (by kernel_rfl)
        clear hdep hsame hi hlate hfr hkeep
        exact .inl ⟨wanted_none rfl, showsO_pure hsn rfl (.pointer (some ⟨b, 0, none⟩)) (by simp only [execOp, Act.eval]; go_simp) rfl⟩
      | 6, hi =>
        cases (show some _ = some o from hi)
        have e27 : (f.tmps.getD 27 undef) = .pointer (some ⟨b, 0, none⟩) := depO (V := (VEr5 b g c L x)) hdep 5 27 (by kernel_rfl) (by kernel_rfl)
        clear hdep hsame hi hlate hfr hkeep
        exact .inl ⟨wanted_none rfl, showsO_pure hsn rfl (.pointer (some ⟨b, 2, none⟩)) (by simp only [execOp, Act.eval]; go_simp) rfl⟩
      | 7, hi =>
        cases (show some _ = some o from hi)
        have e28 : (f.tmps.getD 28 undef) = .pointer (some ⟨b, 2, none⟩) := depO (V := (VEr5 b g c L x)) hdep 6 28 (by kernel_rfl) (by kernel_rfl)
        clear hdep hsame hi hlate hfr hkeep
        have c2 := er_cellAt ((hb6.block b (Array.getElem?_eq_some_iff.1 XB.out).1).trans XB.out) 2 _ rfl
        rw [← LL.out] at c2
        exact .inl ⟨wanted_none rfl, showsO_pure hsn rfl (.slice (some ⟨g, 0, none⟩) L c) (by simp only [execOp, Act.eval]; go_simp) rfl⟩
      | 8, hi =>
        cases (show some _ = some o from hi)
        have e29 : (f.tmps.getD 29 undef) = .slice (some ⟨g, 0, none⟩) L c := depO (V := (VEr5 b g c L x)) hdep 7 29 (by kernel_rfl) (by kernel_rfl)
        clear hdep hsame hi hlate hfr hkeep
        exact .inl ⟨wanted_none rfl, showsO_pure hsn rfl (.int .i64 (L : Int)) (by simp only [execOp, Act.eval]; go_simp) rfl⟩
      | 9, hi =>
        cases (show some _ = some o from hi)
        have e30 : (f.tmps.getD 30 undef) = .int .i64 (L : Int) := depO (V := (VEr5 b g c L x)) hdep 8 30 (by kernel_rfl) (by kernel_rfl)
        clear hdep hsame hi hlate hfr hkeep
        have hl := LP.out
        exact .inl ⟨wanted_none rfl, showsO_pure hsn rfl (.int .i64 ((L - 1 : Nat) : Int)) (by simp only [execOp, Act.eval]; go_simp; simp [IntKind.wrap, IntKind.bits, IntKind.signed]; omega) rfl⟩
      | 10, hi =>
        cases (show some _ = some o from hi)
        have e25 : (f.tmps.getD 25 undef) = .slice (some ⟨g, 0, none⟩) L c := depO (V := (VEr5 b g c L x)) hdep 3 25 (by kernel_rfl) (by kernel_rfl)
        have e31 : (f.tmps.getD 31 undef) = .int .i64 ((L - 1 : Nat) : Int) := depO (V := (VEr5 b g c L x)) hdep 9 31 (by kernel_rfl) (by kernel_rfl)
        clear hdep hsame hi hlate hfr hkeep
        have hl := LP.out
        have hl2 : ¬ L ≤ L - 1 := by omega
        exact .inl ⟨wanted_none rfl, showsO_pure hsn rfl (.pointer (some ⟨g, (L - 1) * 32, none⟩)) (by simp only [execOp, Act.eval]; go_simp) rfl⟩
      | 11, hi =>
        cases (show some _ = some o from hi)
        have e32 : (f.tmps.getD 32 undef) = .pointer (some ⟨g, (L - 1) * 32, none⟩) := depO (V := (VEr5 b g c L x)) hdep 10 32 (by kernel_rfl) (by kernel_rfl)
        clear hdep hsame hi hlate hfr hkeep
        exact .inl ⟨wanted_none rfl, showsO_mid hsn rfl 66 (.tmp 32) rfl g ((L - 1) * 32) e32 (bcells x) (RX.out u hb6) underH rfl (hszB' XL.out) rfl⟩
      | 12, hi =>
        cases (show some _ = some o from hi)
        clear hdep hsame hi hlate hkeep
        exact .inl ⟨wanted_none rfl, showsO_alloc hsn hfr rfl zeros32 66 13 rfl (by simp only [execOp, Act.eval]; go_simp; rfl) (fun h => h)⟩
      | 13, hi =>
        cases (show some _ = some o from hi)
        have e3 : AllocV own u (f.tmps.getD 3 undef) 13 66 32 := depO (V := (VEr5 b g c L x)) hdep 12 3 (by kernel_rfl) (by kernel_rfl)
        have e33 : (f.tmps.getD 33 undef) = .agg (ocells (x)) := depO (V := (VEr5 b g c L x)) hdep 11 33 (by kernel_rfl) (by kernel_rfl)
        clear hdep hsame hi hlate hfr hkeep
        exact .inl ⟨wanted_none rfl, showsO_store_alloc hsn rfl 66 (.tmp 3) (.tmp 33) rfl e3 (ocells x) e33 (hszL XL.out) (by rw [ocells_size, XL.out]) (ocells_one _) (fun _ h => h)⟩
      | n + 14, hi => exact absurd hi (by simp)
    · intro f u own hsame hsn hall
      have q22 : f.tmps.getD 22 undef = .pointer (some ⟨b, 0, none⟩) := finO (V := (VEr5 b g c L x)) hall 0 22 rfl
      have q23 : f.tmps.getD 23 undef = .pointer (some ⟨b, 0, none⟩) := finO (V := (VEr5 b g c L x)) hall 1 23 rfl
      have q24 : f.tmps.getD 24 undef = .pointer (some ⟨b, 2, none⟩) := finO (V := (VEr5 b g c L x)) hall 2 24 rfl
      have q25 : f.tmps.getD 25 undef = .slice (some ⟨g, 0, none⟩) L c := finO (V := (VEr5 b g c L x)) hall 3 25 rfl
      have q26 : f.tmps.getD 26 undef = .pointer (some ⟨b, 0, none⟩) := finO (V := (VEr5 b g c L x)) hall 4 26 rfl
      have q27 : f.tmps.getD 27 undef = .pointer (some ⟨b, 0, none⟩) := finO (V := (VEr5 b g c L x)) hall 5 27 rfl
      have q28 : f.tmps.getD 28 undef = .pointer (some ⟨b, 2, none⟩) := finO (V := (VEr5 b g c L x)) hall 6 28 rfl
      have q29 : f.tmps.getD 29 undef = .slice (some ⟨g, 0, none⟩) L c := finO (V := (VEr5 b g c L x)) hall 7 29 rfl
      have q30 : f.tmps.getD 30 undef = .int .i64 (L : Int) := finO (V := (VEr5 b g c L x)) hall 8 30 rfl
      have q31 : f.tmps.getD 31 undef = .int .i64 ((L - 1 : Nat) : Int) := finO (V := (VEr5 b g c L x)) hall 9 31 rfl
      have q32 : f.tmps.getD 32 undef = .pointer (some ⟨g, (L - 1) * 32, none⟩) := finO (V := (VEr5 b g c L x)) hall 10 32 rfl
      have q33 : f.tmps.getD 33 undef = .agg (ocells (x)) := finO (V := (VEr5 b g c L x)) hall 11 33 rfl
      obtain ⟨g3, q3, o3, m3⟩ := AllocV.stored (finO (V := (VEr5 b g c L x)) hall 12 3 rfl) (finN (V := (VEr5 b g c L x)) hall 13 rfl)
      obtain rfl := frame_eq hsame [(22, .pointer (some ⟨b, 0, none⟩)), (23, .pointer (some ⟨b, 0, none⟩)), (24, .pointer (some ⟨b, 2, none⟩)), (25, .slice (some ⟨g, 0, none⟩) L c), (26, .pointer (some ⟨b, 0, none⟩)), (27, .pointer (some ⟨b, 0, none⟩)), (28, .pointer (some ⟨b, 2, none⟩)), (29, .slice (some ⟨g, 0, none⟩) L c), (30, .int .i64 (L : Int)), (31, .int .i64 ((L - 1 : Nat) : Int)), (32, .pointer (some ⟨g, (L - 1) * 32, none⟩)), (33, .agg (ocells (x))), (3, .pointer (some ⟨g3, 0, none⟩))] (by kernel_rfl) ⟨q22, q23, q24, q25, q26, q27, q28, q29, q30, q31, q32, q33, q3, trivial⟩
      clear hall hsame q22 q23 q24 q25 q26 q27 q28 q29 q30 q31 q32 q33 q3
      simp only [List.foldl, List.setIfInBounds_toArray, List.set_cons_succ, List.set_cons_zero]
      have b6 := hsn.below (B := W.heap.size) (fun _ _ => rfl) (Nat.le_refl _)
      have hge := hsn.ge o3 (fun k _ => by simp)
      have Z3 := Bx.mk m3; have BZ := Bx.mk b6; have G3 := Bx.mk hge
      clear b6 hge m3 o3 hsn
      obtain ⟨W1, hW1⟩ : ∃ W1, W1 = u := ⟨_, rfl⟩
      rw [← hW1] at Z3 BZ ⊢
      clear hW1
      have c2 := er_cellAt ((BZ.out.block b (Array.getElem?_eq_some_iff.1 XB.out).1).trans XB.out) 2 _ rfl
      rw [← LL.out] at c2
      go_wp2_with fail
      go_loopw [4] (fun iv wr => ∃ K : Nat, K ≤ L - 1 ∧ iv = .int .i64 ((K : Int) - 1) ∧ wr.heap[g3]? = some (.cells (ocells (upB (ls.drop K))) 66 (0, 0)) ∧ Below W.heap.size W wr) (fun iv _ => (intOf iv + 1).toNat)
      case atStart => exact ⟨L - 1, Nat.le_refl _, by have := LP.out; go_num, by rw [HLS.out]; exact Z3.out, BZ.out⟩
      case round =>
        obtain ⟨K0, hK, rfl, h3, hb⟩ := hrel
        have Y3 := Bx.mk h3; have BW := Bx.mk hb
        clear h3 hb c2
        by_cases hlt : 0 < K0
        · obtain ⟨K, rfl⟩ : ∃ K, K0 = K + 1 := ⟨K0 - 1, by omega⟩
          have hKl : K + 1 < ls.length := by have := LL.out; omega
          have hst := upB_drop hKl
          obtain ⟨_, _, _, B, off, e, hBl, hr, hxl⟩ := HH.out.at K (by omega)
          cases e
          rw [Nat.zero_add] at hr
          have hyl : (upB (ls.drop (K + 1))).length = 32 := upB_length _ (fun x hx => H32.out x (List.mem_of_mem_drop hx))
          have h3 := Y3.out
          clear Y3
          obtain ⟨x, hx⟩ : ∃ px, px = ls[K] := ⟨_, rfl⟩
          rw [← hx] at hr hxl hst
          obtain ⟨y, hy⟩ : ∃ y, y = upB (ls.drop (K + 1)) := ⟨_, rfl⟩
          rw [← hy] at hyl hst h3
          obtain ⟨z, hz⟩ : ∃ z, z = nd x y := ⟨_, rfl⟩
          rw [← hz] at hst
          have hzl : z.length = 32 := by rw [hz]; exact nd_length _ _
          have RX := Bx.mk (fun u (hu : Below W.heap.size W u) => rangeAt_below hr hBl (by rw [← HN.out]; exact KB.out.trans (hu.mono (Nat.le_of_lt (Array.getElem?_eq_some_iff.1 XN.out).1))))
          have XL := Bx.mk hxl; have YL := Bx.mk hyl; have ZL := Bx.mk hzl; have HST := Bx.mk hst; have Y3 := Bx.mk h3; have KL := Bx.mk (show K < L by omega)
          have ND := Bx.mk (show sha (1 :: (x ++ y)) = z from hz.symm)
          rw [show (((K + 1 : Nat) : Int) - 1) = (K : Int) by omega]
          clear hr hBl hxl hyl hzl hst h3 hx hy hz hKl hlt hK
          go_upto_region 9 with (fail)
          refine wp_region_own8 (n := 54) VEr9mk (ownTwo g3 g3 9 9) (VEr9 b g c L g3 K x y z) (by kernel_rfl) (by kernel_rfl) rfl (fun k hk => ownTwo_none (by have := (Array.getElem?_eq_some_iff.1 Y3.out).1; omega) (by have := (Array.getElem?_eq_some_iff.1 Y3.out).1; omega)) (fun j i hj _ => by cases hj) ?_ ?_ ?_
          · exact fun oi oj v own w own' w' hij _ h r => VEr9_mono b g c L g3 K x y z oi oj v own w own' w' hij h r
          · intro oi o hi f u own hsame hsn hfr hlate hkeep8 hdep
            have hkeep := hkeep8 _ (.inl rfl)
            have hk6 := hsn.keepTwo
            have hb6 : Below W.heap.size W u := BW.out.trans (hk6.below BW.out.size (fun k hk => by have := G3.out; omega))
            match oi, hi with
            | 0, hi =>
              cases (show some _ = some o from hi)
              have e0 : f.tmps.getD 0 undef = .pointer (some ⟨b, 0, none⟩) := hsame.slot 0 (fun i o h => invB2_not 0 (by kernel_rfl) h)
              clear hdep hsame hi hlate hfr hkeep
              exact .inl ⟨wanted_none rfl, showsO_move hsn rfl _ rfl e0⟩
            | 1, hi =>
              cases (show some _ = some o from hi)
              have e44 : (f.tmps.getD 44 undef) = .pointer (some ⟨b, 0, none⟩) := depO (V := (VEr9 b g c L g3 K x y z)) hdep 0 44 (by kernel_rfl) (by kernel_rfl)
              clear hdep hsame hi hlate hfr hkeep
              exact .inl ⟨wanted_none rfl, showsO_pure hsn rfl (.pointer (some ⟨b, 0, none⟩)) (by simp only [execOp, Act.eval]; go_simp) rfl⟩
            | 2, hi =>
              cases (show some _ = some o from hi)
              have e45 : (f.tmps.getD 45 undef) = .pointer (some ⟨b, 0, none⟩) := depO (V := (VEr9 b g c L g3 K x y z)) hdep 1 45 (by kernel_rfl) (by kernel_rfl)
              clear hdep hsame hi hlate hfr hkeep
              exact .inl ⟨wanted_none rfl, showsO_pure hsn rfl (.pointer (some ⟨b, 2, none⟩)) (by simp only [execOp, Act.eval]; go_simp) rfl⟩
            | 3, hi =>
              cases (show some _ = some o from hi)
              have e46 : (f.tmps.getD 46 undef) = .pointer (some ⟨b, 2, none⟩) := depO (V := (VEr9 b g c L g3 K x y z)) hdep 2 46 (by kernel_rfl) (by kernel_rfl)
              clear hdep hsame hi hlate hfr hkeep
              have c2 := er_cellAt ((hb6.block b (Array.getElem?_eq_some_iff.1 XB.out).1).trans XB.out) 2 _ rfl
              rw [← LL.out] at c2
              exact .inl ⟨wanted_none rfl, showsO_pure hsn rfl (.slice (some ⟨g, 0, none⟩) L c) (by simp only [execOp, Act.eval]; go_simp) rfl⟩
            | 4, hi =>
              cases (show some _ = some o from hi)
              have e4 : f.tmps.getD 4 undef = .int .i64 (K : Int) := hsame.slot 4 (fun i o h => invB2_not 4 (by kernel_rfl) h)
              clear hdep hsame hi hlate hfr hkeep
              exact .inl ⟨wanted_none rfl, showsO_move hsn rfl _ rfl e4⟩
            | 5, hi =>
              cases (show some _ = some o from hi)
              have e47 : (f.tmps.getD 47 undef) = .slice (some ⟨g, 0, none⟩) L c := depO (V := (VEr9 b g c L g3 K x y z)) hdep 3 47 (by kernel_rfl) (by kernel_rfl)
              have e48 : (f.tmps.getD 48 undef) = .int .i64 (K : Int) := depO (V := (VEr9 b g c L g3 K x y z)) hdep 4 48 (by kernel_rfl) (by kernel_rfl)
              clear hdep hsame hi hlate hfr hkeep
              have hl := KL.out
              have hl2 : ¬ L ≤ K := by omega
              exact .inl ⟨wanted_none rfl, showsO_pure hsn rfl (.pointer (some ⟨g, K * 32, none⟩)) (by simp only [execOp, Act.eval]; go_simp) rfl⟩
            | 6, hi =>
              cases (show some _ = some o from hi)
              have e49 : (f.tmps.getD 49 undef) = .pointer (some ⟨g, K * 32, none⟩) := depO (V := (VEr9 b g c L g3 K x y z)) hdep 5 49 (by kernel_rfl) (by kernel_rfl)
              clear hdep hsame hi hlate hfr hkeep
              exact .inl ⟨wanted_none rfl, showsO_mid hsn rfl 66 (.tmp 49) rfl g (K * 32) e49 (bcells x) (RX.out u hb6) underH rfl (hszB' XL.out) rfl⟩
            | 7, hi =>
              cases (show some _ = some o from hi)
              have e3 : f.tmps.getD 3 undef = .pointer (some ⟨g3, 0, none⟩) := hsame.slot 3 (fun i o h => invB2_not 3 (by kernel_rfl) h)
              clear hdep hsame hi hlate hfr hkeep
              have hgu := (hkeep8 9 (.inr (by kernel_rfl)) g3 (Array.getElem?_eq_some_iff.1 Y3.out).1 (ownTwo_one _ _ _ _)).trans Y3.out
              exact .inl ⟨wanted_none rfl, showsO_row hsn rfl 66 (.tmp 3) rfl g3 e3 (ocells y) hgu underH rfl (hszL YL.out) rfl⟩
            | 8, hi =>
              cases (show some _ = some o from hi)
              have e50 : (f.tmps.getD 50 undef) = .agg (ocells (x)) := depO (V := (VEr9 b g c L g3 K x y z)) hdep 6 50 (by kernel_rfl) (by kernel_rfl)
              have e51 : (f.tmps.getD 51 undef) = .agg (ocells (y)) := depO (V := (VEr9 b g c L g3 K x y z)) hdep 7 51 (by kernel_rfl) (by kernel_rfl)
              clear hdep hsame hi hlate hfr hkeep
              have c := node_any u x y XL.out YL.out (HT.out.below hb6)
              rw [hv_agg, hv_agg, hv_agg, show sha (1 :: (x ++ y)) = z from ND.out] at c
              exact .inl ⟨wanted_none rfl, showsO_call1 hsn rfl 83 #[.agg (ocells (x)), .agg (ocells (y))] (by simp only [execOp, Act.eval]; go_simp) (c) (fun _ => rfl)⟩
            | 9, hi =>
              cases (show some _ = some o from hi)
              have e3 : f.tmps.getD 3 undef = .pointer (some ⟨g3, 0, none⟩) := hsame.slot 3 (fun i o h => invB2_not 3 (by kernel_rfl) h)
              have e52 : (f.tmps.getD 52 undef) = .agg (ocells (z)) := depO (V := (VEr9 b g c L g3 K x y z)) hdep 8 52 (by kernel_rfl) (by kernel_rfl)
              clear hdep hsame hi hlate hfr hkeep
              exact .inl ⟨wanted_none rfl, showsO_store_out hsn rfl 66 (.tmp 3) (.tmp 52) rfl (g3) e3 Y3.out (ownTwo_one _ _ _ _) (ocells z) e52 (hszL ZL.out) (by rw [ocells_size, ocells_size, YL.out, ZL.out]) (ocells_one _) (fun _ h => h)⟩
            | n + 10, hi => exact absurd hi (by simp)
          · intro f u own hsame hsn hall
            have q44 : f.tmps.getD 44 undef = .pointer (some ⟨b, 0, none⟩) := finO (V := (VEr9 b g c L g3 K x y z)) hall 0 44 rfl
            have q45 : f.tmps.getD 45 undef = .pointer (some ⟨b, 0, none⟩) := finO (V := (VEr9 b g c L g3 K x y z)) hall 1 45 rfl
            have q46 : f.tmps.getD 46 undef = .pointer (some ⟨b, 2, none⟩) := finO (V := (VEr9 b g c L g3 K x y z)) hall 2 46 rfl
            have q47 : f.tmps.getD 47 undef = .slice (some ⟨g, 0, none⟩) L c := finO (V := (VEr9 b g c L g3 K x y z)) hall 3 47 rfl
            have q48 : f.tmps.getD 48 undef = .int .i64 (K : Int) := finO (V := (VEr9 b g c L g3 K x y z)) hall 4 48 rfl
            have q49 : f.tmps.getD 49 undef = .pointer (some ⟨g, K * 32, none⟩) := finO (V := (VEr9 b g c L g3 K x y z)) hall 5 49 rfl
            have q50 : f.tmps.getD 50 undef = .agg (ocells (x)) := finO (V := (VEr9 b g c L g3 K x y z)) hall 6 50 rfl
            have q51 : f.tmps.getD 51 undef = .agg (ocells (y)) := finO (V := (VEr9 b g c L g3 K x y z)) hall 7 51 rfl
            have q52 : f.tmps.getD 52 undef = .agg (ocells (z)) := finO (V := (VEr9 b g c L g3 K x y z)) hall 8 52 rfl
            obtain ⟨o_9, m_9⟩ : OutV own u (g3) 9 66 (ocells z) := finN (V := (VEr9 b g c L g3 K x y z)) hall 9 rfl
            obtain rfl := frame_eq hsame [(44, .pointer (some ⟨b, 0, none⟩)), (45, .pointer (some ⟨b, 0, none⟩)), (46, .pointer (some ⟨b, 2, none⟩)), (47, .slice (some ⟨g, 0, none⟩) L c), (48, .int .i64 (K : Int)), (49, .pointer (some ⟨g, K * 32, none⟩)), (50, .agg (ocells (x))), (51, .agg (ocells (y))), (52, .agg (ocells (z)))] (by kernel_rfl) ⟨q44, q45, q46, q47, q48, q49, q50, q51, q52, trivial⟩
            clear hall hsame q44 q45 q46 q47 q48 q49 q50 q51 q52
            simp only [List.foldl, List.setIfInBounds_toArray, List.set_cons_succ, List.set_cons_zero]
            have hk6 := hsn.keepTwo
            have hb6 : Below W.heap.size W u := BW.out.trans (hk6.below BW.out.size (fun k hk => by have := G3.out; omega))
            have B6 := Bx.mk hb6; have M9 := Bx.mk m_9
            clear hk6 hb6 m_9 o_9 hsn
            have hkl : K < L := KL.out
            go_wp2_with fail
            go_roundw
            case rel => exact ⟨K, by have := KL.out; omega, by go_num, by rw [HST.out]; exact M9.out, B6.out⟩
            case measure => first | (simp only [intOf]; omega) | (show ((K : Int) - 1 + 1).toNat < ((K : Int) + 1).toNat; omega)
        · obtain rfl : K0 = 0 := by omega
          have y3 := Y3.out
          rw [List.drop_zero] at y3
          have hxn := (BW.out.block N (Array.getElem?_eq_some_iff.1 XN.out).1).trans XN.out
          have kz : Below N w wr := KB.out.trans (BW.out.mono (Nat.le_of_lt (Array.getElem?_eq_some_iff.1 XN.out).1))
          have Z4 := Bx.mk y3; have ZN := Bx.mk hxn; have HSZ := Bx.mk (hszL UL.out); have HSO := Bx.mk (hsoL UL.out); have KZ := Bx.mk kz
          clear y3 hxn kz Y3 hlt hK
          go_wp2_with (first
            | (guard_target =~ wpList _ _ _ (⟨some 53, _, _, _, _, _⟩ :: _) _ _; refine wpList_load_row rfl 66 (.tmp 3) rfl g3 rfl _ _ _ _ Z4.out underH rfl HSZ.out ?_)
            | (guard_target =~ wpList _ _ _ (⟨none, _, _, _, _, _⟩ :: _) _ _; refine wpList_store_row rfl 66 (.tmp 2) (.tmp 53) rfl N (ocells (upB ls)) rfl rfl _ _ ZN.out HSZ.out HSO.out (ocells_one _) ?_))
          refine bodyPost_ret (results_cell_row rfl _ _ N _ (ocells (upB ls)) _ _ rfl (setRow_heap _ _ _ _ _ _ ZN.out) underH rfl HSZ.out) rfl ⟨rfl, by rw [← HN.out]; exact below_setRow KZ.out (Nat.le_refl _) _⟩

end Go.Proofs.YtbhcaalelfaceaaGreatDoor
