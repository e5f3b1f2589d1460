/- cartularylaw10.find. -/
import Derived.Test.YtbhcaalelfaceaaDoorEmW
import Derived.Test.YtbhcaalelfaceaaDoorEmH
import Derived.Test.YtbhcaalelfaceaaDoorRowN
import Derived.Test.YtbhcaalelfaceaaDoorCoB
namespace Go.Proofs.YtbhcaalelfaceaaDoor
set_option maxRecDepth 100000
open Go.RowKit
theorem cvx_eql (w : World) (L1 I1 L2 I2 : Nat) : (binOp .eql 52 (.agg #[.int .u8 (L1 : Int), .int .u64 (I1 : Int)]) (.agg #[.int .u8 (L2 : Int), .int .u64 (I2 : Int)])).run Tryd.prog w = .ok (.bool (decide (L1 = L2 ∧ I1 = I2))) w := by
  simp [go_sem]
  by_cases h1 : L1 = L2
  · by_cases h2 : I1 = I2
    · subst h1; subst h2; simp
    · have : ¬ (I1 : Int) = (I2 : Int) := by omega
      simp [h1, h2, this]
  · have : ¬ (L1 : Int) = (L2 : Int) := by omega
    simp [h1, this]
theorem res_hb {fn : Func} {p u : Tmp} (h : fn.results = #[.cell p 33, .tmp u]) (tmps : Array Value) (w : World) (g : Nat) (t : TypeId) (cs : Array Value) (fr : Nat × Nat)
    (hp : tmps.getD p undef = .pointer (some ⟨g, 0, none⟩)) (hg : w.heap[g]? = some (.cells cs t fr)) (hi : (Tryd.prog.info? 33).map (·.size) = some cs.size) :
    (results fn tmps).run Tryd.prog w = .ok (.tuple #[.agg cs, tmps.getD u undef]) w := by
  rw [results_cell_tmp h, hp]
  simp [asAddr, run_loadVar_row w g t 33 cs fr _ hg underH rfl hi, Result.andThen]
/-- the two parts of a node in memory -/
theorem node_parts {w : World} {B o : Nat} {p : Nat × Nat × List UInt8} (h : w.rangeAt B o (ncell p).toList) : w.rangeAt B o [.int .u8 (p.1 : Int), .int .u64 (p.2.1 : Int)] ∧ w.rangeAt B (o + 2) (bcells p.2.2) := by
  have e : (ncell p).toList = [.int .u8 (p.1 : Int), .int .u64 (p.2.1 : Int)] ++ bcells p.2.2 := by simp [ncell, ocells]
  rw [e] at h
  refine ⟨fun j v hv => h j v ?_, fun j v hv => ?_⟩
  · rw [List.getElem?_append_left (List.getElem?_eq_some_iff.1 hv).1]; exact hv
  · have := h (2 + j) v (by rw [List.getElem?_append_right (by simp)]; simpa using hv)
    rwa [← Nat.add_assoc] at this
def fdV (l : List (Nat × Nat × List UInt8)) (L I : Nat) : List UInt8 := match fdB l L I with | some p => p.2.2 | none => zero32'

def VX4 (_N _M l cap t B2 off L I : Nat) (q : Bool) (x : Nat × Nat × List UInt8) (oi : Nat) (v : Value) (_own : Nat → Option Nat) (_w : World) : Prop :=
  match oi with
  | 0 => v = .slice (some ⟨B2, off, none⟩) l cap
  | 1 => v = .int .i64 (t : Int)
  | 2 => v = .pointer (some ⟨B2, off + t * 34, none⟩)
  | 3 => v = .pointer (some ⟨B2, off + t * 34, none⟩)
  | 4 => v = .agg #[.int .u8 (x.1 : Int), .int .u64 (x.2.1 : Int)]
  | 5 => v = .agg #[.int .u8 (L : Int), .int .u64 (I : Int)]
  | 6 => v = .bool q
  | _ => True
def VX4mk : Nat → Option Nat := fun _ => none
theorem VX4_mono (N M l cap t B2 off L I : Nat) (q : Bool) (x : Nat × Nat × List UInt8) (oi oj : Nat) (v : Value) (own : Nat → Option Nat) (w : World) (own' : Nat → Option Nat) (w' : World) (hij : oi ≠ oj)   (h : VX4 N M l cap t B2 off L I q x oj v own w) (_r : Rel VX4mk oi own w own' w') : VX4 N M l cap t B2 off L I q x oj v own' w' := by
  unfold VX4 at h ⊢
  split at h
  · exact h
  · exact h
  · exact h
  · exact h
  · exact h
  · exact h
  · exact h
  · trivial

set_option maxHeartbeats 1600000 in
theorem find_any (w : World) (ad : Option Addr) (l cap : Nat) (ps : List (Nat × Nat × List UInt8)) (hN : Nss w (.slice ad l cap) ps) (L I : Nat) : Calls Tryd.prog 25 #[.slice ad l cap, cv L I] w fun e w' => e = .returned (.tuple #[.agg (ocells (fdV ps L I)), .bool (fdB ps L I).isSome]) ∧ Below w.heap.size w w' := by
  have hl : l = ps.length := by obtain ⟨_, _, e, _⟩ := hN.len; cases e; rfl
  have hm : l ≤ 9223372036854775807 := by obtain ⟨_, _, e, q1, q2⟩ := hN.len; cases e; omega
  have kb := er_al (er_al (Below.refl w.heap.size w) (.cells #[.int .u8 (L : Int), .int .u64 (I : Int)] 52)) (.cells zeros32 33)
  have x3 : ((w.alloc (.cells #[.int .u8 (L : Int), .int .u64 (I : Int)] 52)).alloc (.cells zeros32 33)).heap[w.heap.size]? = some (.cells #[.int .u8 (L : Int), .int .u64 (I : Int)] 52 (0, 0)) := by
    rw [Below.heap_alloc _ _ _ (by simp)]; exact heap_alloc_new _ _
  have x4 : ((w.alloc (.cells #[.int .u8 (L : Int), .int .u64 (I : Int)] 52)).alloc (.cells zeros32 33)).heap[w.heap.size + 1]? = some (.cells zeros32 33 (0, 0)) := by
    have := heap_alloc_new (w.alloc (.cells #[.int .u8 (L : Int), .int .u64 (I : Int)] 52)) (.cells zeros32 33)
    simpa using this
  have hN2 := hN.below kb
  unfold cv
  go_enter Tryd.func25, Tryd.ntmps25
  go_upto_region 1 with (fail)
  change Code.wp _ _ _ _ ((w.alloc (.cells #[.int .u8 (L : Int), .int .u64 (I : Int)] 52)).alloc (.cells zeros32 33))
  generalize ((w.alloc (.cells #[.int .u8 (L : Int), .int .u64 (I : Int)] 52)).alloc (.cells zeros32 33)) = W at kb x3 x4 hN2 ⊢
  obtain ⟨N, hNN⟩ : ∃ N, N = w.heap.size := ⟨_, rfl⟩
  obtain ⟨M, hMM⟩ : ∃ M, M = N + 1 := ⟨_, rfl⟩
  rw [← hNN] at x3
  rw [← hNN, ← hMM] at x4
  rw [show Value.pointer (some ⟨w.heap.size + 1, 0, none⟩) = Value.pointer (some ⟨M, 0, none⟩) by rw [hMM, hNN], show Value.pointer (some ⟨w.heap.size, 0, none⟩) = Value.pointer (some ⟨N, 0, none⟩) by rw [hNN]]
  have KB := Bx.mk kb; have X3 := Bx.mk x3; have X4 := Bx.mk x4; have HN := Bx.mk hN2; have HL := Bx.mk hl; have ML := Bx.mk hm; have MN := Bx.mk (show w.heap.size ≤ M by omega)
  clear kb x3 x4 hN2 hN hl hm hNN hMM
  go_wp2_with fail
  go_loopw [6] (fun iv wr => ∃ t : Nat, t ≤ l ∧ iv = .int .i64 (t : Int) ∧ fdB (ps.drop t) L I = fdB ps L I ∧ Below W.heap.size W wr) (fun iv _ => l - (intOf iv).toNat)
  case atStart => exact ⟨0, Nat.zero_le _, rfl, rfl, Below.refl _ _⟩
  case round =>
    obtain ⟨t, ht, rfl, hf, hb⟩ := hrel
    have FD := Bx.mk hf; have BW := Bx.mk hb
    clear hf hb
    have ml := ML.out
    by_cases hlt : t < l
    · obtain ⟨-, -, -, B2, off, e, hBl, hr0, hxl0⟩ := HN.out.at t (by rw [← HL.out]; exact hlt)
      subst e
      obtain ⟨x, hx⟩ : ∃ px, px = ps[t]'(by rw [← HL.out]; exact hlt) := ⟨_, rfl⟩
      have hr : W.rangeAt B2 (off + t * 34) (ncell x).toList := by rw [hx]; exact hr0
      have XL := Bx.mk (show x.2.2.length = 32 by rw [hx]; exact hxl0)
      have HX : Bx (∀ h : t < ps.length, x = ps[t]) := ⟨fun _ => hx⟩
      have R1 : Bx (∀ u, Below W.heap.size W u → u.rangeAt B2 (off + t * 34) [.int .u8 (x.1 : Int), .int .u64 (x.2.1 : Int)]) := ⟨fun u hu => (node_parts (rangeAt_below hr hBl hu)).1⟩
      have R2 : Bx (∀ u, Below W.heap.size W u → u.rangeAt B2 (off + t * 34 + 2) (bcells x.2.2)) := ⟨fun u hu => (node_parts (rangeAt_below hr hBl hu)).2⟩
      have TL := Bx.mk hlt; have TP := Bx.mk (show t < ps.length by rw [← HL.out]; exact hlt)
      have Y3 := Bx.mk ((BW.out.block _ (Array.getElem?_eq_some_iff.1 X3.out).1).trans X3.out); have Y4 := Bx.mk ((BW.out.block _ (Array.getElem?_eq_some_iff.1 X4.out).1).trans X4.out)
      have f2 : ¬ (l : Int) ≤ (t : Int) := by omega
      have f3 : (t : Int) < (l : Int) := by omega
      clear hr hBl hr0 hxl0 hx ht hlt
      obtain ⟨q, hq⟩ : ∃ q : Bool, q = decide (x.1 = L ∧ x.2.1 = I) := ⟨_, rfl⟩
      have HQ := Bx.mk hq
      clear hq
      go_upto_region 4 with (fail)
      refine wp_region_own8 (n := 26) VX4mk (fun _ => none) (VX4 N M l cap t B2 off L I q x) (by kernel_rfl) (by kernel_rfl) rfl (fun _ _ => rfl) (fun j i hj _ => by cases hj) ?_ ?_ ?_
      · exact fun oi oj v own w own' w' hij _ h r => VX4_mono N M l cap t B2 off L I q x oi oj v own w own' w' hij h r
      · intro oi o hi f u own hsame hsn hfr hlate hkeep8 hdep
        have hkeep := hkeep8 _ (.inl rfl)
        have hb6 := hsn.below (B := wr.heap.size) (fun _ _ => rfl) (Nat.le_refl _)
        have hbw := BW.out.trans (hb6.mono BW.out.size)
        match oi, hi with
        | 0, hi =>
          cases (show some _ = some o from hi)
          have e0 : f.tmps.getD 0 undef = .slice (some ⟨B2, off, none⟩) l cap := hsame.slot 0 (fun i o h => invB2_not 0 (by kernel_rfl) h)
          clear hdep hsame hi hlate hfr hkeep
          exact .inl ⟨wanted_none rfl, showsO_move hsn rfl _ rfl e0⟩
        | 1, hi =>
          cases (show some _ = some o from hi)
          have e6 : f.tmps.getD 6 undef = .int .i64 (t : Int) := hsame.slot 6 (fun i o h => invB2_not 6 (by kernel_rfl) h)
          clear hdep hsame hi hlate hfr hkeep
          exact .inl ⟨wanted_none rfl, showsO_move hsn rfl _ rfl e6⟩
        | 2, hi =>
          cases (show some _ = some o from hi)
          have e13 : (f.tmps.getD 13 undef) = .slice (some ⟨B2, off, none⟩) l cap := depO (V := (VX4 N M l cap t B2 off L I q x)) hdep 0 13 (by kernel_rfl) (by kernel_rfl)
          have e14 : (f.tmps.getD 14 undef) = .int .i64 (t : Int) := depO (V := (VX4 N M l cap t B2 off L I q x)) hdep 1 14 (by kernel_rfl) (by kernel_rfl)
          clear hdep hsame hi hlate hfr hkeep
          have f2 : ¬ (l : Int) ≤ (t : Int) := by have := TL.out; omega
          have f3 : (t : Int) < (l : Int) := by have := TL.out; omega
          exact .inl ⟨wanted_none rfl, showsO_pure hsn rfl (.pointer (some ⟨B2, off + t * 34, none⟩)) (by simp only [execOp, Act.eval]; go_simp) rfl⟩
        | 3, hi =>
          cases (show some _ = some o from hi)
          have e15 : (f.tmps.getD 15 undef) = .pointer (some ⟨B2, off + t * 34, none⟩) := depO (V := (VX4 N M l cap t B2 off L I q x)) hdep 2 15 (by kernel_rfl) (by kernel_rfl)
          clear hdep hsame hi hlate hfr hkeep
          exact .inl ⟨wanted_none rfl, showsO_pure hsn rfl (.pointer (some ⟨B2, off + t * 34, none⟩)) (by simp only [execOp, Act.eval]; go_simp) rfl⟩
        | 4, hi =>
          cases (show some _ = some o from hi)
          have e16 : (f.tmps.getD 16 undef) = .pointer (some ⟨B2, off + t * 34, none⟩) := depO (V := (VX4 N M l cap t B2 off L I q x)) hdep 3 16 (by kernel_rfl) (by kernel_rfl)
          clear hdep hsame hi hlate hfr hkeep
          exact .inl ⟨wanted_none rfl, showsO_mid hsn rfl 52 (.tmp 16) rfl B2 (off + t * 34) e16 [.int .u8 (x.1 : Int), .int .u64 (x.2.1 : Int)] (R1.out u hbw) Tryd.underlying52 rfl sizeC rfl⟩
        | 5, hi =>
          cases (show some _ = some o from hi)
          have e3 : f.tmps.getD 3 undef = .pointer (some ⟨N, 0, none⟩) := hsame.slot 3 (fun i o h => invB2_not 3 (by kernel_rfl) h)
          clear hdep hsame hi hlate hfr hkeep
          exact .inl ⟨wanted_none rfl, showsO_row hsn rfl 52 (.tmp 3) rfl N e3 #[.int .u8 (L : Int), .int .u64 (I : Int)] ((hb6.block _ (Array.getElem?_eq_some_iff.1 Y3.out).1).trans Y3.out) Tryd.underlying52 rfl sizeC rfl⟩
        | 6, hi =>
          cases (show some _ = some o from hi)
          have e17 : (f.tmps.getD 17 undef) = .agg #[.int .u8 (x.1 : Int), .int .u64 (x.2.1 : Int)] := depO (V := (VX4 N M l cap t B2 off L I q x)) hdep 4 17 (by kernel_rfl) (by kernel_rfl)
          have e18 : (f.tmps.getD 18 undef) = .agg #[.int .u8 (L : Int), .int .u64 (I : Int)] := depO (V := (VX4 N M l cap t B2 off L I q x)) hdep 5 18 (by kernel_rfl) (by kernel_rfl)
          clear hdep hsame hi hlate hfr hkeep
          exact .inl ⟨wanted_none rfl, showsO_pure hsn rfl (.bool q) (by simp only [execOp, Act.eval]; go_simp; rw [HQ.out]; by_cases h1 : x.1 = L <;> by_cases h2 : x.2.1 = I <;> simp [h1, h2] <;> intros <;> omega) rfl⟩
        | n + 7, hi => exact absurd hi (by simp)
      intro f u own hsame hsn hall
      have q13 : f.tmps.getD 13 undef = .slice (some ⟨B2, off, none⟩) l cap := finO (V := (VX4 N M l cap t B2 off L I q x)) hall 0 13 rfl
      have q14 : f.tmps.getD 14 undef = .int .i64 (t : Int) := finO (V := (VX4 N M l cap t B2 off L I q x)) hall 1 14 rfl
      have q15 : f.tmps.getD 15 undef = .pointer (some ⟨B2, off + t * 34, none⟩) := finO (V := (VX4 N M l cap t B2 off L I q x)) hall 2 15 rfl
      have q16 : f.tmps.getD 16 undef = .pointer (some ⟨B2, off + t * 34, none⟩) := finO (V := (VX4 N M l cap t B2 off L I q x)) hall 3 16 rfl
      have q17 : f.tmps.getD 17 undef = .agg #[.int .u8 (x.1 : Int), .int .u64 (x.2.1 : Int)] := finO (V := (VX4 N M l cap t B2 off L I q x)) hall 4 17 rfl
      have q18 : f.tmps.getD 18 undef = .agg #[.int .u8 (L : Int), .int .u64 (I : Int)] := finO (V := (VX4 N M l cap t B2 off L I q x)) hall 5 18 rfl
      have q19 : f.tmps.getD 19 undef = .bool q := finO (V := (VX4 N M l cap t B2 off L I q x)) hall 6 19 rfl
      obtain rfl := frame_eq hsame [(13, .slice (some ⟨B2, off, none⟩) l cap), (14, .int .i64 (t : Int)), (15, .pointer (some ⟨B2, off + t * 34, none⟩)), (16, .pointer (some ⟨B2, off + t * 34, none⟩)), (17, .agg #[.int .u8 (x.1 : Int), .int .u64 (x.2.1 : Int)]), (18, .agg #[.int .u8 (L : Int), .int .u64 (I : Int)]), (19, .bool q)] (by kernel_rfl) ⟨q13, q14, q15, q16, q17, q18, q19, trivial⟩
      clear hall hsame q13 q14 q15 q16 q17 q18 q19
      simp only [List.foldl, List.setIfInBounds_toArray, List.set_cons_succ, List.set_cons_zero]
      have hb := hsn.below (B := wr.heap.size) (fun _ _ => rfl) (Nat.le_refl _)
      have BW1 := Bx.mk (BW.out.trans (hb.mono BW.out.size))
      have Z4 := Bx.mk ((hb.block _ (Array.getElem?_eq_some_iff.1 Y4.out).1).trans Y4.out)
      clear hb hsn Y3 Y4
      have hqq := HQ.out
      cases q
      · go_wp2_with fail
        go_roundw
        case rel => exact ⟨t + 1, TL.out, by have := TL.out; have := ML.out; go_num, fdB_none FD.out TP.out (fun h => by rw [← HX.out] at h; exact absurd (decide_eq_true h) (by rw [← hqq]; decide)), BW1.out⟩
        case measure => have := TL.out; simp [intOf]; omega
      · have hfd : fdB ps L I = some x := (fdB_hit FD.out TP.out (by rw [← HX.out]; exact of_decide_eq_true hqq.symm)).trans (by rw [← HX.out])
        have HF := Bx.mk (show fdV ps L I = x.2.2 by unfold fdV; rw [hfd]); have HF2 := Bx.mk (show (fdB ps L I).isSome = true by rw [hfd]; rfl)
        clear hfd hqq
        go_upto_region 5 with (fail)
        go_wp2_with (first | (guard_target =~ wpList _ _ _ (⟨some 24, _, _, _, _, _⟩ :: _) _ _; refine wpList_load_mid rfl 33 (.tmp 23) rfl B2 (off + t * 34 + 2) rfl (bcells x.2.2) _ (R2.out u BW1.out) underH rfl (hszB' XL.out) ?_) | (guard_target =~ wpList _ _ _ (⟨none, _, _, _, _, _⟩ :: _) _ _; refine wpList_store_row rfl 33 (.tmp 4) (.tmp 24) rfl M (ocells x.2.2) rfl rfl _ _ Z4.out (hszL XL.out) (hsoL XL.out) (ocells_one _) ?_))
        exact bodyPost_ret (res_hb rfl _ _ M _ (ocells x.2.2) _ rfl (setRow_heap _ _ _ _ _ _ Z4.out) (hszL XL.out)) rfl ⟨by rw [HF.out, HF2.out]; rfl, below_setRow (KB.out.trans (BW1.out.mono KB.out.size)) MN.out _⟩
    · obtain rfl : t = l := by omega
      have hfd : fdB ps L I = none := by rw [← FD.out, HL.out, List.drop_length]; rfl
      have Y4 := Bx.mk ((BW.out.block _ (Array.getElem?_eq_some_iff.1 X4.out).1).trans X4.out)
      have HF := Bx.mk (show fdV ps L I = zero32' by unfold fdV; rw [hfd]); have HF2 := Bx.mk (show (fdB ps L I).isSome = false by rw [hfd]; rfl)
      have q1 := built_zeroH
      clear hfd ht hlt
      go_wp2_with (guard_target =~ wpList _ _ _ (⟨none, _, _, _, _, _⟩ :: _) _ _; refine wpList_store_row rfl 33 (.tmp 4) (.tmp 25) rfl M (ocells zero32') rfl rfl _ _ Y4.out (hszL (by decide)) (hsoL (by decide)) (ocells_one _) ?_)
      exact bodyPost_ret (res_hb rfl _ _ M _ (ocells zero32') _ rfl (setRow_heap _ _ _ _ _ _ Y4.out) (hszL (by decide))) rfl ⟨by rw [HF.out, HF2.out]; rfl, below_setRow (KB.out.trans (BW.out.mono KB.out.size)) MN.out _⟩
end Go.Proofs.YtbhcaalelfaceaaDoor
