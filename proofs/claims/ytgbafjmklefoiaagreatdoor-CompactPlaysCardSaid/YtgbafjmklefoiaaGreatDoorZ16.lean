/- (*compact.Range).Root; a range that is not there: Root, Span, Hashes, Copy, Join. -/
import Derived.Test.YtgbafjmklefoiaaGreatDoorZ15
namespace Go.Proofs.YtgbafjmklefoiaaGreatDoor
set_option maxRecDepth 100000
open Go.RowKit
def upC : List (List UInt8) → List UInt8
  | [] => sha []
  | [x] => x
  | x :: y :: l => nd x (upC (y :: l))
theorem upC_length : ∀ (l : List (List UInt8)), (∀ x ∈ l, x.length = 32) → (upC l).length = 32
  | [], _ => sha_length _
  | [x], h => h x (by simp)
  | x :: y :: l, _ => nd_length _ _
theorem upC_drop {l : List (List UInt8)} {k : Nat} (h : k + 1 < l.length) : upC (l.drop k) = nd (l[k]'(by omega)) (upC (l.drop (k + 1))) := by
  rw [List.drop_eq_getElem_cons (by omega), List.drop_eq_getElem_cons h]
  rfl
theorem upC_last {l : List (List UInt8)} {K : Nat} (h : K + 1 = l.length) : upC (l.drop K) = l[K]'(by omega) := by
  rw [List.drop_eq_getElem_cons (by omega), List.drop_of_length_le (by omega)]; rfl
theorem hsC_get {l : List (Nat × Nat × List UInt8)} {K : Nat} (h : K < l.length) : (hsC l)[K]'(by rw [hsC_len]; exact h) = l[K].2.2 := by simp [hsC]
theorem node_partsC {w : World} {B o : Nat} {p : Nat × Nat × List UInt8} (h : w.rangeAt B o (ncell p).toList) : w.rangeAt B (o + 2) (bcells p.2.2) := by
  have e : (ncell p).toList = [.int .u8 (p.1 : Int), .int .u64 (p.2.1 : Int)] ++ bcells p.2.2 := by simp [ncell, ocells]
  rw [e] at h
  intro j v hv
  have := h (2 + j) v (by rw [List.getElem?_append_right (by simp)]; simpa using hv)
  rwa [← Nat.add_assoc] at this
theorem res_hbC {fn : Func} {p u : Tmp} (h : fn.results = #[.cell p 81, .tmp u]) (tmps : Array Value) (w : World) (g : Nat) (t : TypeId) (cs : Array Value) (fr : Nat × Nat)
    (hp : tmps.getD p undef = .pointer (some ⟨g, 0, none⟩)) (hg : w.heap[g]? = some (.cells cs t fr)) (hi : (Tryz.prog.info? 81).map (·.size) = some cs.size) :
    (results fn tmps).run Tryz.prog w = .ok (.tuple #[.agg cs, tmps.getD u undef]) w := by
  rw [results_cell_tmp h, hp]
  simp [asAddr, run_loadVar_row w g t 81 cs fr _ hg underH rfl hi, Result.andThen]
theorem built_zeroC : Tryz.prog.built 81 [] = some (ocells zero32') := by kernel_rfl
def VE7 (r M g0 sc : Nat) (x : Nat × Nat × List UInt8) (oi : Nat) (v : Value) (own : Nat → Option Nat) (w : World) : Prop :=
  match oi with
  | 0 => v = .pointer (some ⟨r, 0, none⟩)
  | 1 => v = .pointer (some ⟨r, 0, none⟩)
  | 2 => v = .pointer (some ⟨r, 3, none⟩)
  | 3 => v = .slice (some ⟨g0, 0, none⟩) (M + 1) sc
  | 4 => v = .pointer (some ⟨r, 0, none⟩)
  | 5 => v = .pointer (some ⟨r, 0, none⟩)
  | 6 => v = .pointer (some ⟨r, 3, none⟩)
  | 7 => v = .slice (some ⟨g0, 0, none⟩) (M + 1) sc
  | 8 => v = .int .i64 ((M + 1 : Nat) : Int)
  | 9 => v = .int .i64 (M : Int)
  | 10 => v = .pointer (some ⟨g0, M * 34, none⟩)
  | 11 => v = .pointer (some ⟨g0, M * 34 + 2, none⟩)
  | 12 => v = .agg (ocells (x.2.2))
  | 13 => AllocV own w v 14 81 32
  | 14 => StoredV own w 14 81 (ocells (x.2.2))
  | _ => True
def VE7mk : Nat → Option Nat := fun j => match j with | 14 => some 13 | _ => none
theorem VE7_mono (r M g0 sc : Nat) (x : Nat × Nat × List UInt8) (oi oj : Nat) (v : Value) (own : Nat → Option Nat) (w : World) (own' : Nat → Option Nat) (w' : World) (hij : oi ≠ oj)   (h : VE7 r M g0 sc x oj v own w) (r1 : Rel VE7mk oi own w own' w') : VE7 r M g0 sc x oj v own' w' := by
  unfold VE7 at h ⊢
  split at h
  · exact h
  · exact h
  · exact h
  · exact h
  · exact h
  · exact h
  · exact h
  · exact h
  · exact h
  · exact h
  · exact h
  · exact h
  · exact h
  · exact h.stable r1 rfl hij
  · exact h.stable r1 hij
  · trivial

def VE11 (r M g0 sc g4 K : Nat) (y : Nat × Nat × List UInt8) (z vz : List UInt8) (oi : Nat) (v : Value) (own : Nat → Option Nat) (w : World) : Prop :=
  match oi with
  | 0 => v = .pointer (some ⟨r, 0, none⟩)
  | 1 => v = .pointer (some ⟨r, 0, none⟩)
  | 2 => v = .pointer (some ⟨r, 3, none⟩)
  | 3 => v = .slice (some ⟨g0, 0, none⟩) (M + 1) sc
  | 4 => v = .int .i64 (K : Int)
  | 5 => v = .pointer (some ⟨g0, K * 34, none⟩)
  | 6 => v = .pointer (some ⟨g0, K * 34 + 2, none⟩)
  | 7 => v = .agg (ocells (y.2.2))
  | 8 => v = .agg (ocells (z))
  | 9 => v = .agg (ocells (vz))
  | 10 => OutV own w (g4) 10 81 (ocells (vz))
  | _ => True
def VE11mk : Nat → Option Nat := fun _ => none
theorem VE11_mono (r M g0 sc g4 K : Nat) (y : Nat × Nat × List UInt8) (z vz : List UInt8) (oi oj : Nat) (v : Value) (own : Nat → Option Nat) (w : World) (own' : Nat → Option Nat) (w' : World) (hij : oi ≠ oj)   (h : VE11 r M g0 sc g4 K y z vz oj v own w) (r1 : Rel VE11mk oi own w own' w') : VE11 r M g0 sc g4 K y z vz oj v own' w' := by
  unfold VE11 at h ⊢
  split at h
  · exact h
  · exact h
  · exact h
  · exact h
  · exact h
  · exact h
  · exact h
  · exact h
  · exact h
  · exact h
  · exact h.stable r1 hij
  · trivial

set_option maxHeartbeats 3200000 in
theorem rroot_any (base : Nat) (w : World) (r E : Nat) (l : List (Nat × Nat × List UInt8)) (s : Value) (hR : RaP base w r 0 E l s) (hT : TabS w) (hm : l.length ≤ 1001) :
    Calls Tryz.prog 24 #[.pointer (some ⟨r, 0, none⟩)] w fun e w' => e = .returned (.tuple #[hv (upC (hsC l)), .nilIface]) ∧ Below w.heap.size w w' := by
  have kb := er_al (Below.refl w.heap.size w) (.cells zeros32 81)
  have xN := heap_alloc_new w (.cells zeros32 81)
  have h2 := hR.below kb
  go_enter Tryz.func24, Tryz.ntmps24
  go_upto_region 1 with (fail)
  change Code.wp _ _ _ _ (w.alloc (.cells zeros32 81))
  generalize w.alloc (.cells zeros32 81) = W0 at kb xN h2 ⊢
  obtain ⟨N, hN⟩ : ∃ N, N = w.heap.size := ⟨_, rfl⟩
  rw [← hN] at xN ⊢
  have KB := Bx.mk kb; have XN0 := Bx.mk xN; have R0 := Bx.mk h2; have NL := Bx.mk (show w.heap.size ≤ N by omega); have HT := Bx.mk hT; have LM := Bx.mk hm
  clear kb xN h2 hN hR hT hm
  go_wp2_with fail
  refine (there_any R0.out).mono ?_
  rintro e W ⟨rfl, hb⟩
  have K1 := Bx.mk (KB.out.trans (hb.mono KB.out.size)); have R1 := Bx.mk (R0.out.below hb); have XN := Bx.mk ((hb.block _ (Array.getElem?_eq_some_iff.1 XN0.out).1).trans XN0.out)
  clear hb KB R0 XN0
  have TS : Bx (∀ u, Below W.heap.size W u → TabS u) := ⟨fun u hu => HT.out.below (K1.out.trans (hu.mono K1.out.size))⟩
  have hown := R1.out.own
  have HL := Bx.mk (hsC_mem R1.out.h32)
  by_cases hz : l = []
  · subst hz
    obtain ⟨sa, sc, hs, -, -, -⟩ := own_shape hown
    subst hs
    have c1 := er_cellAt R1.out.hb 1 _ rfl
    have c3 := er_cellAt R1.out.hb 3 _ rfl
    clear hown
    go_wp2_with fail
    refine (empty_any W (TS.out W (Below.refl _ _))).mono ?_
    rintro e W2 ⟨rfl, hb⟩
    have X2 := Bx.mk ((hb.block _ (Array.getElem?_eq_some_iff.1 XN.out).1).trans XN.out); have K2 := Bx.mk (K1.out.trans (hb.mono K1.out.size))
    have SL := Bx.mk (sha_length [])
    clear hb c1 c3
    rw [hv_agg]
    go_wp2_with (guard_target =~ wpList _ _ _ (⟨none, _, _, _, _, _⟩ :: _) _ _; refine wpList_store_row rfl 81 (.tmp 2) (.tmp 25) rfl N (ocells (sha [])) rfl rfl _ _ X2.out (hszL SL.out) (hsoL SL.out) (ocells_one _) ?_)
    exact bodyPost_ret (res_hbC rfl _ _ N _ (ocells (sha [])) _ rfl (setRow_heap _ _ _ _ _ _ X2.out) (hszL SL.out)) rfl ⟨rfl, below_setRow K2.out NL.out _⟩
  · obtain ⟨M, hM⟩ : ∃ M, l.length = M + 1 := ⟨l.length - 1, by have := List.length_pos_iff.2 hz; omega⟩
    rw [hM] at hown
    obtain ⟨g0, sc, hs⟩ : ∃ g c', s = .slice (some ⟨g, 0, none⟩) (M + 1) c' := by
      rcases Go.Joins.ownsRow_forms hown with ⟨-, h0⟩ | h1
      · omega
      · exact h1
    subst hs
    have NS := nss_own hown R1.out.h32 hM.symm
    have RN : Bx (∀ k (h : k < l.length), W.rangeAt g0 (k * 34) (ncell l[k]).toList ∧ g0 < W.heap.size) := ⟨fun k h => by
      obtain ⟨-, -, -, Bq, oq, e, hbq, hrq, -⟩ := NS.at k h
      cases e
      rw [Nat.zero_add] at hrq
      exact ⟨hrq, hbq⟩⟩
    have HM := Bx.mk hM; have ML := Bx.mk (show M ≤ 1001 by have := LM.out; omega)
    have c1 := er_cellAt R1.out.hb 1 _ rfl
    have c3 := er_cellAt R1.out.hb 3 _ rfl
    have XR := Bx.mk R1.out.hb
    clear hown hM hz NS
    obtain ⟨x, hx⟩ : ∃ x, x = l[M]'(by rw [HM.out]; omega) := ⟨_, rfl⟩
    have XL := Bx.mk (show x.2.2.length = 32 by rw [hx]; exact R1.out.h32 _ (List.getElem_mem _))
    have RX : Bx (∀ u, Below W.heap.size W u → u.rangeAt g0 (M * 34 + 2) (bcells x.2.2)) := ⟨fun u hu => by
      have h := RN.out M (by rw [HM.out]; omega)
      rw [← hx] at h
      exact node_partsC (rangeAt_below h.1 h.2 hu)⟩
    have HU : Bx (upC ((hsC l).drop M) = x.2.2) := ⟨by rw [upC_last (by rw [hsC_len, HM.out]), hsC_get, hx]⟩
    clear hx
    go_upto_region 7 with (fail)
    clear c1 c3
    refine wp_region_own8 (n := 60) VE7mk (fun _ => none) (VE7 r M g0 sc x) (by kernel_rfl) (by kernel_rfl) rfl (fun _ _ => rfl) (fun _ _ _ _ h => by cases h) ?_ ?_ ?_
    · exact fun oi oj v own w own' w' hij _ h r1 => VE7_mono r M g0 sc x oi oj v own w own' w' hij h r1
    · intro oi o hi f u own hsame hsn hfr hlate hkeep8 hdep
      have hkeep := hkeep8 _ (.inl rfl)
      have hb6 := hsn.below (B := W.heap.size) (fun _ _ => rfl) (Nat.le_refl _)
      match oi, hi with
      | 0, hi =>
        cases (show some _ = some o from hi)
        have e0 : f.tmps.getD 0 undef = .pointer (some ⟨r, 0, none⟩) := hsame.slot 0 (fun i o h => invB2_not 0 (by kernel_rfl) h)
        clear hdep hsame hi hlate hfr hkeep
        exact .inl ⟨wanted_none rfl, showsO_move hsn rfl _ rfl e0⟩
      | 1, hi =>
        cases (show some _ = some o from hi)
        have e26 : (f.tmps.getD 26 undef) = .pointer (some ⟨r, 0, none⟩) := depO (V := (VE7 r M g0 sc x)) hdep 0 26 (by kernel_rfl) (by kernel_rfl)
        clear hdep hsame hi hlate hfr hkeep
        exact .inl ⟨wanted_none rfl, showsO_pure hsn rfl (.pointer (some ⟨r, 0, none⟩)) (by simp only [execOp, Act.eval]; go_simp) rfl⟩
      | 2, hi =>
        cases (show some _ = some o from hi)
        have e27 : (f.tmps.getD 27 undef) = .pointer (some ⟨r, 0, none⟩) := depO (V := (VE7 r M g0 sc x)) hdep 1 27 (by kernel_rfl) (by kernel_rfl)
        clear hdep hsame hi hlate hfr hkeep
        exact .inl ⟨wanted_none rfl, showsO_pure hsn rfl (.pointer (some ⟨r, 3, none⟩)) (by simp only [execOp, Act.eval]; go_simp) rfl⟩
      | 3, hi =>
        cases (show some _ = some o from hi)
        have e28 : (f.tmps.getD 28 undef) = .pointer (some ⟨r, 3, none⟩) := depO (V := (VE7 r M g0 sc x)) hdep 2 28 (by kernel_rfl) (by kernel_rfl)
        clear hdep hsame hi hlate hfr hkeep
        have c29 := er_cellAt ((hb6.block _ (Array.getElem?_eq_some_iff.1 XR.out).1).trans XR.out) 3 _ rfl
        exact .inl ⟨wanted_none rfl, showsO_pure hsn rfl (.slice (some ⟨g0, 0, none⟩) (M + 1) sc) (by simp only [execOp, Act.eval]; go_simp) rfl⟩
      | 4, hi =>
        cases (show some _ = some o from hi)
        have e0 : f.tmps.getD 0 undef = .pointer (some ⟨r, 0, none⟩) := hsame.slot 0 (fun i o h => invB2_not 0 (by kernel_rfl) h)
        clear hdep hsame hi hlate hfr hkeep
        exact .inl ⟨wanted_none rfl, showsO_move hsn rfl _ rfl e0⟩
      | 5, hi =>
        cases (show some _ = some o from hi)
        have e30 : (f.tmps.getD 30 undef) = .pointer (some ⟨r, 0, none⟩) := depO (V := (VE7 r M g0 sc x)) hdep 4 30 (by kernel_rfl) (by kernel_rfl)
        clear hdep hsame hi hlate hfr hkeep
        exact .inl ⟨wanted_none rfl, showsO_pure hsn rfl (.pointer (some ⟨r, 0, none⟩)) (by simp only [execOp, Act.eval]; go_simp) rfl⟩
      | 6, hi =>
        cases (show some _ = some o from hi)
        have e31 : (f.tmps.getD 31 undef) = .pointer (some ⟨r, 0, none⟩) := depO (V := (VE7 r M g0 sc x)) hdep 5 31 (by kernel_rfl) (by kernel_rfl)
        clear hdep hsame hi hlate hfr hkeep
        exact .inl ⟨wanted_none rfl, showsO_pure hsn rfl (.pointer (some ⟨r, 3, none⟩)) (by simp only [execOp, Act.eval]; go_simp) rfl⟩
      | 7, hi =>
        cases (show some _ = some o from hi)
        have e32 : (f.tmps.getD 32 undef) = .pointer (some ⟨r, 3, none⟩) := depO (V := (VE7 r M g0 sc x)) hdep 6 32 (by kernel_rfl) (by kernel_rfl)
        clear hdep hsame hi hlate hfr hkeep
        have c33 := er_cellAt ((hb6.block _ (Array.getElem?_eq_some_iff.1 XR.out).1).trans XR.out) 3 _ rfl
        exact .inl ⟨wanted_none rfl, showsO_pure hsn rfl (.slice (some ⟨g0, 0, none⟩) (M + 1) sc) (by simp only [execOp, Act.eval]; go_simp) rfl⟩
      | 8, hi =>
        cases (show some _ = some o from hi)
        have e33 : (f.tmps.getD 33 undef) = .slice (some ⟨g0, 0, none⟩) (M + 1) sc := depO (V := (VE7 r M g0 sc x)) hdep 7 33 (by kernel_rfl) (by kernel_rfl)
        clear hdep hsame hi hlate hfr hkeep
        exact .inl ⟨wanted_none rfl, showsO_pure hsn rfl (.int .i64 ((M + 1 : Nat) : Int)) (by simp only [execOp, Act.eval]; go_simp) rfl⟩
      | 9, hi =>
        cases (show some _ = some o from hi)
        have e34 : (f.tmps.getD 34 undef) = .int .i64 ((M + 1 : Nat) : Int) := depO (V := (VE7 r M g0 sc x)) hdep 8 34 (by kernel_rfl) (by kernel_rfl)
        clear hdep hsame hi hlate hfr hkeep
        have h1 := ML.out
        exact .inl ⟨wanted_none rfl, showsO_pure hsn rfl (.int .i64 (M : Int)) (by simp only [execOp, Act.eval]; go_simp; simp [IntKind.wrap, IntKind.bits, IntKind.signed]; omega) rfl⟩
      | 10, hi =>
        cases (show some _ = some o from hi)
        have e29 : (f.tmps.getD 29 undef) = .slice (some ⟨g0, 0, none⟩) (M + 1) sc := depO (V := (VE7 r M g0 sc x)) hdep 3 29 (by kernel_rfl) (by kernel_rfl)
        have e35 : (f.tmps.getD 35 undef) = .int .i64 (M : Int) := depO (V := (VE7 r M g0 sc x)) hdep 9 35 (by kernel_rfl) (by kernel_rfl)
        clear hdep hsame hi hlate hfr hkeep
        have f2 : ¬ (M : Int) + 1 ≤ (M : Int) := by omega
        have f3 : (M : Int) < (M : Int) + 1 := by omega
        exact .inl ⟨wanted_none rfl, showsO_pure hsn rfl (.pointer (some ⟨g0, M * 34, none⟩)) (by simp only [execOp, Act.eval]; go_simp) rfl⟩
      | 11, hi =>
        cases (show some _ = some o from hi)
        have e36 : (f.tmps.getD 36 undef) = .pointer (some ⟨g0, M * 34, none⟩) := depO (V := (VE7 r M g0 sc x)) hdep 10 36 (by kernel_rfl) (by kernel_rfl)
        clear hdep hsame hi hlate hfr hkeep
        exact .inl ⟨wanted_none rfl, showsO_pure hsn rfl (.pointer (some ⟨g0, M * 34 + 2, none⟩)) (by simp only [execOp, Act.eval]; go_simp) rfl⟩
      | 12, hi =>
        cases (show some _ = some o from hi)
        have e37 : (f.tmps.getD 37 undef) = .pointer (some ⟨g0, M * 34 + 2, none⟩) := depO (V := (VE7 r M g0 sc x)) hdep 11 37 (by kernel_rfl) (by kernel_rfl)
        clear hdep hsame hi hlate hfr hkeep
        exact .inl ⟨wanted_none rfl, showsO_mid hsn rfl 81 (.tmp 37) rfl g0 (M * 34 + 2) e37 (bcells (x.2.2)) (RX.out u hb6) underH rfl (hszB' XL.out) rfl⟩
      | 13, hi =>
        cases (show some _ = some o from hi)
        clear hdep hsame hi hlate hkeep
        exact .inl ⟨wanted_none rfl, showsO_alloc hsn hfr rfl zeros32 81 14 rfl (by simp only [execOp, Act.eval]; go_simp; rfl) (fun h => h)⟩
      | 14, hi =>
        cases (show some _ = some o from hi)
        have e4 : AllocV own u (f.tmps.getD 4 undef) 14 81 32 := depO (V := (VE7 r M g0 sc x)) hdep 13 4 (by kernel_rfl) (by kernel_rfl)
        have e38 : (f.tmps.getD 38 undef) = .agg (ocells (x.2.2)) := depO (V := (VE7 r M g0 sc x)) hdep 12 38 (by kernel_rfl) (by kernel_rfl)
        clear hdep hsame hi hlate hfr hkeep
        exact .inl ⟨wanted_none rfl, showsO_store_alloc hsn rfl 81 (.tmp 4) (.tmp 38) rfl e4 (ocells (x.2.2)) e38 (hszL XL.out) (by rw [ocells_size, XL.out]) (ocells_one _) (fun _ h => h)⟩
      | n + 15, hi => exact absurd hi (by simp)
    intro fr W2 own hsame hsn hall
    have q26 : fr.tmps.getD 26 undef = .pointer (some ⟨r, 0, none⟩) := finO (V := (VE7 r M g0 sc x)) hall 0 26 rfl
    have q27 : fr.tmps.getD 27 undef = .pointer (some ⟨r, 0, none⟩) := finO (V := (VE7 r M g0 sc x)) hall 1 27 rfl
    have q28 : fr.tmps.getD 28 undef = .pointer (some ⟨r, 3, none⟩) := finO (V := (VE7 r M g0 sc x)) hall 2 28 rfl
    have q29 : fr.tmps.getD 29 undef = .slice (some ⟨g0, 0, none⟩) (M + 1) sc := finO (V := (VE7 r M g0 sc x)) hall 3 29 rfl
    have q30 : fr.tmps.getD 30 undef = .pointer (some ⟨r, 0, none⟩) := finO (V := (VE7 r M g0 sc x)) hall 4 30 rfl
    have q31 : fr.tmps.getD 31 undef = .pointer (some ⟨r, 0, none⟩) := finO (V := (VE7 r M g0 sc x)) hall 5 31 rfl
    have q32 : fr.tmps.getD 32 undef = .pointer (some ⟨r, 3, none⟩) := finO (V := (VE7 r M g0 sc x)) hall 6 32 rfl
    have q33 : fr.tmps.getD 33 undef = .slice (some ⟨g0, 0, none⟩) (M + 1) sc := finO (V := (VE7 r M g0 sc x)) hall 7 33 rfl
    have q34 : fr.tmps.getD 34 undef = .int .i64 ((M + 1 : Nat) : Int) := finO (V := (VE7 r M g0 sc x)) hall 8 34 rfl
    have q35 : fr.tmps.getD 35 undef = .int .i64 (M : Int) := finO (V := (VE7 r M g0 sc x)) hall 9 35 rfl
    have q36 : fr.tmps.getD 36 undef = .pointer (some ⟨g0, M * 34, none⟩) := finO (V := (VE7 r M g0 sc x)) hall 10 36 rfl
    have q37 : fr.tmps.getD 37 undef = .pointer (some ⟨g0, M * 34 + 2, none⟩) := finO (V := (VE7 r M g0 sc x)) hall 11 37 rfl
    have q38 : fr.tmps.getD 38 undef = .agg (ocells (x.2.2)) := finO (V := (VE7 r M g0 sc x)) hall 12 38 rfl
    obtain ⟨g4, q4, o4, m4⟩ := AllocV.stored (finO (V := (VE7 r M g0 sc x)) hall 13 4 rfl) (finN (V := (VE7 r M g0 sc x)) hall 14 rfl)
    obtain rfl := frame_eq hsame [(26, .pointer (some ⟨r, 0, none⟩)), (27, .pointer (some ⟨r, 0, none⟩)), (28, .pointer (some ⟨r, 3, none⟩)), (29, .slice (some ⟨g0, 0, none⟩) (M + 1) sc), (30, .pointer (some ⟨r, 0, none⟩)), (31, .pointer (some ⟨r, 0, none⟩)), (32, .pointer (some ⟨r, 3, none⟩)), (33, .slice (some ⟨g0, 0, none⟩) (M + 1) sc), (34, .int .i64 ((M + 1 : Nat) : Int)), (35, .int .i64 (M : Int)), (36, .pointer (some ⟨g0, M * 34, none⟩)), (37, .pointer (some ⟨g0, M * 34 + 2, none⟩)), (38, .agg (ocells (x.2.2))), (4, .pointer (some ⟨g4, 0, none⟩))] (by kernel_rfl) ⟨q26, q27, q28, q29, q30, q31, q32, q33, q34, q35, q36, q37, q38, q4, trivial⟩
    clear hall hsame q26 q27 q28 q29 q30 q31 q32 q33 q34 q35 q36 q37 q38 q4
    simp only [List.foldl, List.setIfInBounds_toArray, List.set_cons_succ, List.set_cons_zero]
    have hb := hsn.below (B := W.heap.size) (fun _ _ => rfl) (Nat.le_refl _)
    have GE := Bx.mk (hsn.ge o4 (fun _ _ h => by cases h))
    have M0 : Bx (W2.heap[g4]? = some (.cells (ocells (upC ((hsC l).drop M))) 81 (0, 0))) := ⟨by rw [m4, HU.out]⟩
    have B0 := Bx.mk hb
    have c3 := er_cellAt ((hb.block _ (Array.getElem?_eq_some_iff.1 XR.out).1).trans XR.out) 3 _ rfl
    have ml := ML.out
    clear hb hsn o4 m4 HU
    go_wp2_with fail
    clear c3 ml
    go_loopw [5] (fun iv wr => ∃ K : Nat, K ≤ M ∧ iv = .int .i64 ((K : Int) - 1) ∧ wr.heap[g4]? = some (.cells (ocells (upC ((hsC l).drop K))) 81 (0, 0)) ∧ Below W.heap.size W wr) (fun iv _ => (intOf iv + 1).toNat)
    case atStart => exact ⟨M, Nat.le_refl _, by have := ML.out; go_num, M0.out, B0.out⟩
    case round =>
      obtain ⟨K0, hK, rfl, h3, hb⟩ := hrel
      have Y3 := Bx.mk h3; have BW := Bx.mk hb
      clear h3 hb M0 B0
      by_cases hlt : 0 < K0
      · obtain ⟨K, rfl⟩ : ∃ K, K0 = K + 1 := ⟨K0 - 1, by omega⟩
        have KL := Bx.mk (show K < M by omega)
        have KP := Bx.mk (show K < l.length by rw [HM.out]; omega)
        obtain ⟨y, hy⟩ : ∃ y, y = l[K]'(KP.out) := ⟨_, rfl⟩
        have YL := Bx.mk (show y.2.2.length = 32 by rw [hy]; exact R1.out.h32 _ (List.getElem_mem _))
        have RY : Bx (∀ u, Below W.heap.size W u → u.rangeAt g0 (K * 34 + 2) (bcells y.2.2)) := ⟨fun u hu => by
          have h := RN.out K KP.out
          rw [← hy] at h
          exact node_partsC (rangeAt_below h.1 h.2 hu)⟩
        have HU : Bx (upC ((hsC l).drop K) = nd y.2.2 (upC ((hsC l).drop (K + 1)))) := ⟨by
          rw [upC_drop (by rw [hsC_len, HM.out]; have := KL.out; omega), hsC_get KP.out, hy]⟩
        obtain ⟨z, hz⟩ : ∃ z, z = upC ((hsC l).drop (K + 1)) := ⟨_, rfl⟩
        have ZL := Bx.mk (show z.length = 32 by rw [hz]; exact upC_length _ (fun x hx => HL.out x (List.mem_of_mem_drop hx)))
        have y3 := Y3.out
        rw [← hz] at y3 HU
        have Y4 := Bx.mk y3
        obtain ⟨vz, hv2⟩ : ∃ v, v = nd y.2.2 z := ⟨_, rfl⟩
        have VL := Bx.mk (show vz.length = 32 by rw [hv2]; exact nd_length _ _)
        rw [← hv2] at HU
        have ND := Bx.mk (show sha (1 :: (y.2.2 ++ z)) = vz from hv2.symm)
        have CN : Bx (∀ u, Below W.heap.size W u → Calls Tryz.prog 80 #[.agg (ocells y.2.2), .agg (ocells z)] u fun e w' => e = .returned (.agg (ocells vz)) ∧ Below u.heap.size u w') := ⟨fun u hu => by
          have c := node_any u y.2.2 z YL.out ZL.out (TS.out u hu)
          rwa [hv_agg, hv_agg, hv_agg, ND.out] at c⟩
        clear hy hz y3 Y3 hv2 hlt hK
        rw [show (((K + 1 : Nat) : Int) - 1) = (K : Int) by omega]
        go_upto_region 11 with (fail)
        refine wp_region_own8 (n := 60) VE11mk (fun k => if k = g4 then some 10 else none) (VE11 r M g0 sc g4 K y z vz) (by kernel_rfl) (by kernel_rfl) rfl (fun k hk => if_neg (by have := (Array.getElem?_eq_some_iff.1 Y4.out).1; omega)) (fun j i hj _ => by cases hj) ?_ ?_ ?_
        · exact fun oi oj v own w own' w' hij _ h r1 => VE11_mono r M g0 sc g4 K y z vz oi oj v own w own' w' hij h r1
        · intro oi o hi f u own hsame hsn hfr hlate hkeep8 hdep
          have hkeep := hkeep8 _ (.inl rfl)
          have hk6 := hsn.keepOne
          have hb6 : Below W.heap.size W u := BW.out.trans (hk6.below BW.out.size (fun k hk => by have := GE.out; omega))
          match oi, hi with
          | 0, hi =>
            cases (show some _ = some o from hi)
            have e0 : f.tmps.getD 0 undef = .pointer (some ⟨r, 0, none⟩) := hsame.slot 0 (fun i o h => invB2_not 0 (by kernel_rfl) h)
            clear hdep hsame hi hlate hfr hkeep
            exact .inl ⟨wanted_none rfl, showsO_move hsn rfl _ rfl e0⟩
          | 1, hi =>
            cases (show some _ = some o from hi)
            have e49 : (f.tmps.getD 49 undef) = .pointer (some ⟨r, 0, none⟩) := depO (V := (VE11 r M g0 sc g4 K y z vz)) hdep 0 49 (by kernel_rfl) (by kernel_rfl)
            clear hdep hsame hi hlate hfr hkeep
            exact .inl ⟨wanted_none rfl, showsO_pure hsn rfl (.pointer (some ⟨r, 0, none⟩)) (by simp only [execOp, Act.eval]; go_simp) rfl⟩
          | 2, hi =>
            cases (show some _ = some o from hi)
            have e50 : (f.tmps.getD 50 undef) = .pointer (some ⟨r, 0, none⟩) := depO (V := (VE11 r M g0 sc g4 K y z vz)) hdep 1 50 (by kernel_rfl) (by kernel_rfl)
            clear hdep hsame hi hlate hfr hkeep
            exact .inl ⟨wanted_none rfl, showsO_pure hsn rfl (.pointer (some ⟨r, 3, none⟩)) (by simp only [execOp, Act.eval]; go_simp) rfl⟩
          | 3, hi =>
            cases (show some _ = some o from hi)
            have e51 : (f.tmps.getD 51 undef) = .pointer (some ⟨r, 3, none⟩) := depO (V := (VE11 r M g0 sc g4 K y z vz)) hdep 2 51 (by kernel_rfl) (by kernel_rfl)
            clear hdep hsame hi hlate hfr hkeep
            have c52 := er_cellAt ((hb6.block _ (Array.getElem?_eq_some_iff.1 XR.out).1).trans XR.out) 3 _ rfl
            exact .inl ⟨wanted_none rfl, showsO_pure hsn rfl (.slice (some ⟨g0, 0, none⟩) (M + 1) sc) (by simp only [execOp, Act.eval]; go_simp) rfl⟩
          | 4, hi =>
            cases (show some _ = some o from hi)
            have e5 : f.tmps.getD 5 undef = .int .i64 (K : Int) := hsame.slot 5 (fun i o h => invB2_not 5 (by kernel_rfl) h)
            clear hdep hsame hi hlate hfr hkeep
            exact .inl ⟨wanted_none rfl, showsO_move hsn rfl _ rfl e5⟩
          | 5, hi =>
            cases (show some _ = some o from hi)
            have e52 : (f.tmps.getD 52 undef) = .slice (some ⟨g0, 0, none⟩) (M + 1) sc := depO (V := (VE11 r M g0 sc g4 K y z vz)) hdep 3 52 (by kernel_rfl) (by kernel_rfl)
            have e53 : (f.tmps.getD 53 undef) = .int .i64 (K : Int) := depO (V := (VE11 r M g0 sc g4 K y z vz)) hdep 4 53 (by kernel_rfl) (by kernel_rfl)
            clear hdep hsame hi hlate hfr hkeep
            have f2 : ¬ (M : Int) + 1 ≤ (K : Int) := by have := KL.out; omega
            have f3 : (K : Int) < (M : Int) + 1 := by have := KL.out; omega
            exact .inl ⟨wanted_none rfl, showsO_pure hsn rfl (.pointer (some ⟨g0, K * 34, none⟩)) (by simp only [execOp, Act.eval]; go_simp) rfl⟩
          | 6, hi =>
            cases (show some _ = some o from hi)
            have e54 : (f.tmps.getD 54 undef) = .pointer (some ⟨g0, K * 34, none⟩) := depO (V := (VE11 r M g0 sc g4 K y z vz)) hdep 5 54 (by kernel_rfl) (by kernel_rfl)
            clear hdep hsame hi hlate hfr hkeep
            exact .inl ⟨wanted_none rfl, showsO_pure hsn rfl (.pointer (some ⟨g0, K * 34 + 2, none⟩)) (by simp only [execOp, Act.eval]; go_simp) rfl⟩
          | 7, hi =>
            cases (show some _ = some o from hi)
            have e55 : (f.tmps.getD 55 undef) = .pointer (some ⟨g0, K * 34 + 2, none⟩) := depO (V := (VE11 r M g0 sc g4 K y z vz)) hdep 6 55 (by kernel_rfl) (by kernel_rfl)
            clear hdep hsame hi hlate hfr hkeep
            exact .inl ⟨wanted_none rfl, showsO_mid hsn rfl 81 (.tmp 55) rfl g0 (K * 34 + 2) e55 (bcells (y.2.2)) (RY.out u hb6) underH rfl (hszB' YL.out) rfl⟩
          | 8, hi =>
            cases (show some _ = some o from hi)
            have e4 : f.tmps.getD 4 undef = .pointer (some ⟨g4, 0, none⟩) := hsame.slot 4 (fun i o h => invB2_not 4 (by kernel_rfl) h)
            clear hdep hsame hi hlate hfr hkeep
            have hgu := (hkeep8 10 (.inr (by kernel_rfl)) g4 (Array.getElem?_eq_some_iff.1 Y4.out).1 (if_pos rfl)).trans Y4.out
            exact .inl ⟨wanted_none rfl, showsO_row hsn rfl 81 (.tmp 4) rfl g4 e4 (ocells (z)) hgu underH rfl (hszL ZL.out) rfl⟩
          | 9, hi =>
            cases (show some _ = some o from hi)
            have e56 : (f.tmps.getD 56 undef) = .agg (ocells (y.2.2)) := depO (V := (VE11 r M g0 sc g4 K y z vz)) hdep 7 56 (by kernel_rfl) (by kernel_rfl)
            have e57 : (f.tmps.getD 57 undef) = .agg (ocells (z)) := depO (V := (VE11 r M g0 sc g4 K y z vz)) hdep 8 57 (by kernel_rfl) (by kernel_rfl)
            clear hdep hsame hi hlate hfr hkeep
            have c := CN.out u hb6
            exact .inl ⟨wanted_none rfl, showsO_call1 hsn rfl 80 #[.agg (ocells (y.2.2)), .agg (ocells (z))] (by simp only [execOp, Act.eval]; go_simp) (c) (fun _ => rfl)⟩
          | 10, hi =>
            cases (show some _ = some o from hi)
            have e4 : f.tmps.getD 4 undef = .pointer (some ⟨g4, 0, none⟩) := hsame.slot 4 (fun i o h => invB2_not 4 (by kernel_rfl) h)
            have e58 : (f.tmps.getD 58 undef) = .agg (ocells (vz)) := depO (V := (VE11 r M g0 sc g4 K y z vz)) hdep 9 58 (by kernel_rfl) (by kernel_rfl)
            clear hdep hsame hi hlate hfr hkeep
            exact .inl ⟨wanted_none rfl, showsO_store_out hsn rfl 81 (.tmp 4) (.tmp 58) rfl (g4) e4 Y4.out (if_pos rfl) (ocells (vz)) e58 (hszL VL.out) (by rw [ocells_size, ocells_size, ZL.out, VL.out]) (ocells_one _) (fun _ h => h)⟩
          | n + 11, hi => exact absurd hi (by simp)
        intro fr u own hsame hsn hall
        have q49 : fr.tmps.getD 49 undef = .pointer (some ⟨r, 0, none⟩) := finO (V := (VE11 r M g0 sc g4 K y z vz)) hall 0 49 rfl
        have q50 : fr.tmps.getD 50 undef = .pointer (some ⟨r, 0, none⟩) := finO (V := (VE11 r M g0 sc g4 K y z vz)) hall 1 50 rfl
        have q51 : fr.tmps.getD 51 undef = .pointer (some ⟨r, 3, none⟩) := finO (V := (VE11 r M g0 sc g4 K y z vz)) hall 2 51 rfl
        have q52 : fr.tmps.getD 52 undef = .slice (some ⟨g0, 0, none⟩) (M + 1) sc := finO (V := (VE11 r M g0 sc g4 K y z vz)) hall 3 52 rfl
        have q53 : fr.tmps.getD 53 undef = .int .i64 (K : Int) := finO (V := (VE11 r M g0 sc g4 K y z vz)) hall 4 53 rfl
        have q54 : fr.tmps.getD 54 undef = .pointer (some ⟨g0, K * 34, none⟩) := finO (V := (VE11 r M g0 sc g4 K y z vz)) hall 5 54 rfl
        have q55 : fr.tmps.getD 55 undef = .pointer (some ⟨g0, K * 34 + 2, none⟩) := finO (V := (VE11 r M g0 sc g4 K y z vz)) hall 6 55 rfl
        have q56 : fr.tmps.getD 56 undef = .agg (ocells (y.2.2)) := finO (V := (VE11 r M g0 sc g4 K y z vz)) hall 7 56 rfl
        have q57 : fr.tmps.getD 57 undef = .agg (ocells (z)) := finO (V := (VE11 r M g0 sc g4 K y z vz)) hall 8 57 rfl
        have q58 : fr.tmps.getD 58 undef = .agg (ocells (vz)) := finO (V := (VE11 r M g0 sc g4 K y z vz)) hall 9 58 rfl
        obtain ⟨o_10, m_10⟩ : OutV own u (g4) 10 81 (ocells (vz)) := finN (V := (VE11 r M g0 sc g4 K y z vz)) hall 10 rfl
        obtain rfl := frame_eq hsame [(49, .pointer (some ⟨r, 0, none⟩)), (50, .pointer (some ⟨r, 0, none⟩)), (51, .pointer (some ⟨r, 3, none⟩)), (52, .slice (some ⟨g0, 0, none⟩) (M + 1) sc), (53, .int .i64 (K : Int)), (54, .pointer (some ⟨g0, K * 34, none⟩)), (55, .pointer (some ⟨g0, K * 34 + 2, none⟩)), (56, .agg (ocells (y.2.2))), (57, .agg (ocells (z))), (58, .agg (ocells (vz)))] (by kernel_rfl) ⟨q49, q50, q51, q52, q53, q54, q55, q56, q57, q58, trivial⟩
        clear hall hsame q49 q50 q51 q52 q53 q54 q55 q56 q57 q58
        simp only [List.foldl, List.setIfInBounds_toArray, List.set_cons_succ, List.set_cons_zero]
        have hk6 := hsn.keepOne
        have B6 := Bx.mk (BW.out.trans (hk6.below BW.out.size (fun k hk => by have := GE.out; omega)))
        have M9 := Bx.mk m_10
        clear hk6 m_10 o_10 hsn
        have kl : K ≤ 1001 := by have := KL.out; have := ML.out; omega
        go_wp2_with fail
        go_roundw
        case rel => exact ⟨K, by have := KL.out; omega, by go_num, by rw [HU.out]; exact M9.out, B6.out⟩
        case measure => first | (simp only [intOf]; omega) | (show ((K : Int) - 1 + 1).toNat < ((K : Int) + 1).toNat; omega)
      · obtain rfl : K0 = 0 := by omega
        have y3 := Y3.out
        rw [List.drop_zero] at y3
        have Z4 := Bx.mk y3; have ZN := Bx.mk ((BW.out.block N (Array.getElem?_eq_some_iff.1 XN.out).1).trans XN.out); have KZ := Bx.mk (K1.out.trans (BW.out.mono K1.out.size))
        have UL := Bx.mk (upC_length _ HL.out)
        clear y3 Y3 hlt hK
        go_wp2_with (first
          | (guard_target =~ wpList _ _ _ (⟨some 59, _, _, _, _, _⟩ :: _) _ _; refine wpList_load_row rfl 81 (.tmp 4) rfl g4 rfl _ _ _ _ Z4.out underH rfl (hszL UL.out) ?_)
          | (guard_target =~ wpList _ _ _ (⟨none, _, _, _, _, _⟩ :: _) _ _; refine wpList_store_row rfl 81 (.tmp 2) (.tmp 59) rfl N (ocells (upC (hsC l))) rfl rfl _ _ ZN.out (hszL UL.out) (hsoL UL.out) (ocells_one _) ?_))
        exact bodyPost_ret (res_hbC rfl _ _ N _ (ocells (upC (hsC l))) _ rfl (setRow_heap _ _ _ _ _ _ ZN.out) (hszL UL.out)) rfl ⟨rfl, below_setRow KZ.out NL.out _⟩
end Go.Proofs.YtgbafjmklefoiaaGreatDoor
