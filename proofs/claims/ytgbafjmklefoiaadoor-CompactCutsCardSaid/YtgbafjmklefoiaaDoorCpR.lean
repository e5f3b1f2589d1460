/- cartularylaw09.start; ranges that a region made; Join of a range without leaves. -/
import Derived.Test.YtgbafjmklefoiaaDoorCpI
import Derived.Test.YtgbafjmklefoiaaDoorCpK
import Derived.Test.YtgbafjmklefoiaaDoorCpL
import Derived.Test.YtgbafjmklefoiaaDoorCpO
namespace Go.Proofs.YtgbafjmklefoiaaDoor
set_option maxRecDepth 100000
open Go.RowKit
/-- a number that leaves room for so many -/
def startN (b k : Nat) : Nat := if 9223372036854775808 - k < b then 9223372036854775808 - k - b % 1000 else b
theorem startN_le {b k : Nat} (hk : k ≤ 1000) : startN b k + k ≤ 2 ^ 63 := by
  unfold startN
  split <;> omega
theorem start_any (w : World) (b k : Nat) (hk : k ≤ 1000) (hb : b < 18446744073709551616) : Calls Tryd.prog 15 #[.int .u64 (b : Int), .int .i64 (k : Int)] w fun e w' => e = .returned (.int .u64 (startN b k : Int)) ∧ Below w.heap.size w w' := by
  have d1 : IntKind.u64.wrap (k : Int) = (k : Int) := by simp [IntKind.wrap, IntKind.bits, IntKind.signed]; omega
  have d2 : IntKind.u64.wrap (9223372036854775808 - (k : Int)) = 9223372036854775808 - (k : Int) := by simp [IntKind.wrap, IntKind.bits, IntKind.signed]; omega
  have d4 : ((b : Int)).tmod 1000 = ((b % 1000 : Nat) : Int) := by rw [Int.tmod_eq_emod_of_nonneg (by omega)]; omega
  have d5 : IntKind.u64.wrap ((b % 1000 : Nat) : Int) = ((b % 1000 : Nat) : Int) := by simp [IntKind.wrap, IntKind.bits, IntKind.signed]; omega
  obtain ⟨q, hq⟩ : ∃ q, q = b % 1000 := ⟨_, rfl⟩
  rw [← hq] at d4 d5
  have hq1 : q < 1000 := by omega
  by_cases hc : 9223372036854775808 - k < b
  · have d3 : IntKind.u64.wrap (9223372036854775808 - (k : Int) - (q : Int)) = 9223372036854775808 - (k : Int) - (q : Int) := by simp [IntKind.wrap, IntKind.bits, IntKind.signed]; omega
    have f1 : 9223372036854775808 - (k : Int) < (b : Int) := by omega
    have e1 : (startN b k : Int) = 9223372036854775808 - (k : Int) - (q : Int) := by unfold startN; rw [if_pos hc]; omega
    rw [e1]
    clear hc e1 hq
    go_enter Tryd.func15, Tryd.ntmps15
    go_wp2_with fail
    go_ret
    exact ⟨rfl, Below.refl _ _⟩
  · have f1 : ¬ 9223372036854775808 - (k : Int) < (b : Int) := by omega
    have e1 : startN b k = b := by unfold startN; rw [if_neg hc]
    rw [e1]
    clear hc e1 d4 d5
    go_enter Tryd.func15, Tryd.ntmps15
    go_wp2_with fail
    go_ret
    exact ⟨rfl, Below.refl _ _⟩
/-- a cell written over with what it holds -/
theorem below_setSame {w : World} {g i : Nat} {cs : Array Value} {T : TypeId} {v : Value} (h : w.heap[g]? = some (.cells cs T (0, 0))) (hv : cs[i]? = some v) : Below w.heap.size w (w.setCell ⟨g, i, none⟩ v) := by
  have h1 : (w.setCell ⟨g, i, none⟩ v).heap = w.heap := by
    apply Array.ext_getElem?
    intro k
    have e : cs.setIfInBounds i v = cs := by
      apply Array.ext_getElem?
      intro j
      by_cases hj : i = j
      · subst hj
        obtain ⟨h1, h2⟩ := Array.getElem?_eq_some_iff.1 hv
        simp [h1, ← h2]
      · rw [Array.getElem?_setIfInBounds_ne hj]
    by_cases hk : g = k
    · subst hk
      simp [World.setCell, Array.getElem?_modify, h, e]
    · simp [World.setCell, Array.getElem?_modify, hk]
  exact ⟨rfl, rfl, rfl, by rw [h1]; exact Nat.le_refl _, fun k hk => by rw [h1]⟩
/-- a range that nothing owns any more -/
def RaN (own : Nat → Option Nat) (w : World) (r B E base : Nat) (l : List (Nat × Nat × List UInt8)) (s : Value) : Prop := RaP base w r B E l s ∧ ∀ k, RaS r s k → own k = none
theorem RaN.stable {mk own own' : Nat → Option Nat} {w w' : World} {i r B E base : Nat} {l : List (Nat × Nat × List UInt8)} {s : Value} (h : RaN own w r B E base l s) (q : Rel mk i own w own' w') : RaN own' w' r B E base l s :=
  ⟨h.1.kept (T := fun k => own k = some i) ⟨q.os, q.tape, q.output, q.size, fun k hk hn => q.keep k hk hn⟩ (fun j hj ht => by rw [h.2 j hj] at ht; cases ht), fun k hk => (q.owns k (h.1.lt k hk)).trans (h.2 k hk)⟩
/-- what a call of a region hands back that made a range -/
def MadeR (own : Nat → Option Nat) (w : World) (v : Value) (B E base : Nat) (l : List (Nat × Nat × List UInt8)) : Prop := ∃ r s, v = .pointer (some ⟨r, 0, none⟩) ∧ RaN own w r B E base l s
theorem MadeR.stable {mk own own' : Nat → Option Nat} {w w' : World} {i B E base : Nat} {l : List (Nat × Nat × List UInt8)} {v : Value} (h : MadeR own w v B E base l) (q : Rel mk i own w own' w') : MadeR own' w' v B E base l := by
  obtain ⟨r, s, e, h⟩ := h
  exact ⟨r, s, e, h.stable q⟩
def MadeT (own : Nat → Option Nat) (w : World) (v : Value) (B E base : Nat) (l : List (Nat × Nat × List UInt8)) : Prop := ∃ r s, v = .tuple #[.pointer (some ⟨r, 0, none⟩), .nilIface] ∧ RaN own w r B E base l s
theorem MadeT.stable {mk own own' : Nat → Option Nat} {w w' : World} {i B E base : Nat} {l : List (Nat × Nat × List UInt8)} {v : Value} (h : MadeT own w v B E base l) (q : Rel mk i own w own' w') : MadeT own' w' v B E base l := by
  obtain ⟨r, s, e, h⟩ := h
  exact ⟨r, s, e, h.stable q⟩
theorem rhss_any (base : Nat) (w : World) (r B E : Nat) (l : List (Nat × Nat × List UInt8)) (s : Value) (n : Nat) (hn : n = l.length) (hs : List (List UInt8)) (hhs : hs = hsC l) (hR : RaP base w r B E l s) (hm : n ≤ 1001) (B0 : Nat) (hB0 : B0 ≤ w.heap.size) :
    Calls Tryd.prog 13 #[.pointer (some ⟨r, 0, none⟩)] w fun e w' => ∃ v, e = .returned v ∧ (w'.ownsRow B0 28 32 v n (hcells hs) ∧ ∀ k, v.ownBlock = some k → w.heap.size ≤ k) ∧ Below w.heap.size w w' := by
  subst hn hhs
  exact (rhash_any base w r B E l s hR hm).mono fun e w' ⟨v, h1, h2, h3⟩ => ⟨v, h1, ⟨ownsRow_mono h2 hB0, fun k hk => ownsRow_fresh h2 k hk⟩, h3⟩
set_option maxHeartbeats 800000 in
theorem rjoin_nil (base : Nat) (w : World) (r B E : Nat) (l : List (Nat × Nat × List UInt8)) (s : Value) (hR : RaP base w r B E l s) (base2 q : Nat) (t : Value) (hQ : RaP base2 w q E E [] t) :
    Calls Tryd.prog 18 #[.pointer (some ⟨r, 0, none⟩), .pointer (some ⟨q, 0, none⟩)] w fun e w' => e = .returned .nilIface ∧ Below w.heap.size w w' := by
  obtain ⟨m, hm⟩ : ∃ m, m = ([] : List (Nat × Nat × List UInt8)).length := ⟨_, rfl⟩
  have HM := Bx.mk hm
  have hQo := hQ.own
  rw [← hm] at hQo
  obtain ⟨ta, tc, hs, htn, htm, hta⟩ := own_shape hQo
  subst hs
  clear htn htm hta hm hQo
  go_enter Tryd.func18, Tryd.ntmps18
  have R0 := Bx.mk hR; have Q0 := Bx.mk hQ
  clear hR hQ
  go_wp2_with fail
  refine (there_any R0.out).mono ?_
  rintro e W1 ⟨rfl, hb⟩
  have K1 := Bx.mk hb; have R1 := Bx.mk (R0.out.below hb); have Q1 := Bx.mk (Q0.out.below hb)
  clear hb R0 Q0
  go_wp2_with fail
  refine (there_any Q1.out).mono ?_
  rintro e W ⟨rfl, hb⟩
  have K2 := Bx.mk (K1.out.trans (hb.mono K1.out.size)); have R2 := Bx.mk (R1.out.below hb); have Q2 := Bx.mk (Q1.out.below hb)
  clear hb R1 Q1 K1
  have XR := Bx.mk R2.out.hb; have XQ := Bx.mk Q2.out.hb
  go_upto_region 3 with (fail)
  refine wp_region_own8 (n := 50) VI3mk (fun _ => none) (VI3 r q E) (by kernel_rfl) (by kernel_rfl) rfl (fun _ _ => rfl) (fun j i hj _ => by cases hj) ?_ ?_ ?_
  · exact fun oi oj v own w own' w' hij _ h r1 => VI3_mono r q E oi oj v own w own' w' hij h r1
  · intro oi o hi f u own hsame hsn hfr hlate hkeep8 hdep
    have hkeep := hkeep8 _ (.inl rfl)
    have hb6 := hsn.below (B := W.heap.size) (fun _ _ => rfl) (Nat.le_refl _)
    match oi, hi with
    | 0, hi =>
      cases (show some _ = some o from hi)
      have e1 : f.tmps.getD 1 undef = .pointer (some ⟨q, 0, none⟩) := hsame.slot 1 (fun i o h => invB2_not 1 (by kernel_rfl) h)
      clear hdep hsame hi hlate hfr hkeep
      exact .inl ⟨wanted_none rfl, showsO_move hsn rfl _ rfl e1⟩
    | 1, hi =>
      cases (show some _ = some o from hi)
      have e16 : (f.tmps.getD 16 undef) = .pointer (some ⟨q, 0, none⟩) := depO (V := (VI3 r q E)) hdep 0 16 (by kernel_rfl) (by kernel_rfl)
      clear hdep hsame hi hlate hfr hkeep
      exact .inl ⟨wanted_none rfl, showsO_pure hsn rfl (.pointer (some ⟨q, 0, none⟩)) (by simp only [execOp, Act.eval]; go_simp) rfl⟩
    | 2, hi =>
      cases (show some _ = some o from hi)
      have e17 : (f.tmps.getD 17 undef) = .pointer (some ⟨q, 0, none⟩) := depO (V := (VI3 r q E)) hdep 1 17 (by kernel_rfl) (by kernel_rfl)
      clear hdep hsame hi hlate hfr hkeep
      exact .inl ⟨wanted_none rfl, showsO_pure hsn rfl (.pointer (some ⟨q, 1, none⟩)) (by simp only [execOp, Act.eval]; go_simp) rfl⟩
    | 3, hi =>
      cases (show some _ = some o from hi)
      have e18 : (f.tmps.getD 18 undef) = .pointer (some ⟨q, 1, none⟩) := depO (V := (VI3 r q E)) hdep 2 18 (by kernel_rfl) (by kernel_rfl)
      clear hdep hsame hi hlate hfr hkeep
      exact .inl ⟨wanted_none rfl, showsO_pure hsn rfl (.pointer (some ⟨q, 1, none⟩)) (by simp only [execOp, Act.eval]; go_simp) rfl⟩
    | 4, hi =>
      cases (show some _ = some o from hi)
      have e19 : (f.tmps.getD 19 undef) = .pointer (some ⟨q, 1, none⟩) := depO (V := (VI3 r q E)) hdep 3 19 (by kernel_rfl) (by kernel_rfl)
      clear hdep hsame hi hlate hfr hkeep
      have c20 := er_cellAt ((hb6.block _ (Array.getElem?_eq_some_iff.1 XQ.out).1).trans XQ.out) (1) _ rfl
      exact .inl ⟨wanted_none rfl, showsO_pure hsn rfl (.int .u64 (E : Int)) (by simp only [execOp, Act.eval]; go_simp) rfl⟩
    | 5, hi =>
      cases (show some _ = some o from hi)
      have e0 : f.tmps.getD 0 undef = .pointer (some ⟨r, 0, none⟩) := hsame.slot 0 (fun i o h => invB2_not 0 (by kernel_rfl) h)
      clear hdep hsame hi hlate hfr hkeep
      exact .inl ⟨wanted_none rfl, showsO_move hsn rfl _ rfl e0⟩
    | 6, hi =>
      cases (show some _ = some o from hi)
      have e21 : (f.tmps.getD 21 undef) = .pointer (some ⟨r, 0, none⟩) := depO (V := (VI3 r q E)) hdep 5 21 (by kernel_rfl) (by kernel_rfl)
      clear hdep hsame hi hlate hfr hkeep
      exact .inl ⟨wanted_none rfl, showsO_pure hsn rfl (.pointer (some ⟨r, 0, none⟩)) (by simp only [execOp, Act.eval]; go_simp) rfl⟩
    | 7, hi =>
      cases (show some _ = some o from hi)
      have e22 : (f.tmps.getD 22 undef) = .pointer (some ⟨r, 0, none⟩) := depO (V := (VI3 r q E)) hdep 6 22 (by kernel_rfl) (by kernel_rfl)
      clear hdep hsame hi hlate hfr hkeep
      exact .inl ⟨wanted_none rfl, showsO_pure hsn rfl (.pointer (some ⟨r, 1, none⟩)) (by simp only [execOp, Act.eval]; go_simp) rfl⟩
    | 8, hi =>
      cases (show some _ = some o from hi)
      have e23 : (f.tmps.getD 23 undef) = .pointer (some ⟨r, 1, none⟩) := depO (V := (VI3 r q E)) hdep 7 23 (by kernel_rfl) (by kernel_rfl)
      clear hdep hsame hi hlate hfr hkeep
      exact .inl ⟨wanted_none rfl, showsO_pure hsn rfl (.pointer (some ⟨r, 2, none⟩)) (by simp only [execOp, Act.eval]; go_simp) rfl⟩
    | 9, hi =>
      cases (show some _ = some o from hi)
      have e24 : (f.tmps.getD 24 undef) = .pointer (some ⟨r, 2, none⟩) := depO (V := (VI3 r q E)) hdep 8 24 (by kernel_rfl) (by kernel_rfl)
      clear hdep hsame hi hlate hfr hkeep
      have c25 := er_cellAt ((hb6.block _ (Array.getElem?_eq_some_iff.1 XR.out).1).trans XR.out) (2) _ rfl
      exact .inl ⟨wanted_none rfl, showsO_pure hsn rfl (.int .u64 (E : Int)) (by simp only [execOp, Act.eval]; go_simp) rfl⟩
    | 10, hi =>
      cases (show some _ = some o from hi)
      have e20 : (f.tmps.getD 20 undef) = .int .u64 (E : Int) := depO (V := (VI3 r q E)) hdep 4 20 (by kernel_rfl) (by kernel_rfl)
      have e25 : (f.tmps.getD 25 undef) = .int .u64 (E : Int) := depO (V := (VI3 r q E)) hdep 9 25 (by kernel_rfl) (by kernel_rfl)
      clear hdep hsame hi hlate hfr hkeep
      exact .inl ⟨wanted_none rfl, showsO_pure hsn rfl (.bool false) (by simp only [execOp, Act.eval]; go_simp) rfl⟩
    | n + 11, hi => exact absurd hi (by simp)
  intro fr u own hsame hsn hall
  have q16 : fr.tmps.getD 16 undef = .pointer (some ⟨q, 0, none⟩) := finO (V := (VI3 r q E)) hall 0 16 rfl
  have q17 : fr.tmps.getD 17 undef = .pointer (some ⟨q, 0, none⟩) := finO (V := (VI3 r q E)) hall 1 17 rfl
  have q18 : fr.tmps.getD 18 undef = .pointer (some ⟨q, 1, none⟩) := finO (V := (VI3 r q E)) hall 2 18 rfl
  have q19 : fr.tmps.getD 19 undef = .pointer (some ⟨q, 1, none⟩) := finO (V := (VI3 r q E)) hall 3 19 rfl
  have q20 : fr.tmps.getD 20 undef = .int .u64 (E : Int) := finO (V := (VI3 r q E)) hall 4 20 rfl
  have q21 : fr.tmps.getD 21 undef = .pointer (some ⟨r, 0, none⟩) := finO (V := (VI3 r q E)) hall 5 21 rfl
  have q22 : fr.tmps.getD 22 undef = .pointer (some ⟨r, 0, none⟩) := finO (V := (VI3 r q E)) hall 6 22 rfl
  have q23 : fr.tmps.getD 23 undef = .pointer (some ⟨r, 1, none⟩) := finO (V := (VI3 r q E)) hall 7 23 rfl
  have q24 : fr.tmps.getD 24 undef = .pointer (some ⟨r, 2, none⟩) := finO (V := (VI3 r q E)) hall 8 24 rfl
  have q25 : fr.tmps.getD 25 undef = .int .u64 (E : Int) := finO (V := (VI3 r q E)) hall 9 25 rfl
  have q26 : fr.tmps.getD 26 undef = .bool false := finO (V := (VI3 r q E)) hall 10 26 rfl
  obtain rfl := frame_eq hsame [(16, .pointer (some ⟨q, 0, none⟩)), (17, .pointer (some ⟨q, 0, none⟩)), (18, .pointer (some ⟨q, 1, none⟩)), (19, .pointer (some ⟨q, 1, none⟩)), (20, .int .u64 (E : Int)), (21, .pointer (some ⟨r, 0, none⟩)), (22, .pointer (some ⟨r, 0, none⟩)), (23, .pointer (some ⟨r, 1, none⟩)), (24, .pointer (some ⟨r, 2, none⟩)), (25, .int .u64 (E : Int)), (26, .bool false)] (by kernel_rfl) ⟨q16, q17, q18, q19, q20, q21, q22, q23, q24, q25, q26, trivial⟩
  clear hall hsame q16 q17 q18 q19 q20 q21 q22 q23 q24 q25 q26
  simp only [List.foldl, List.setIfInBounds_toArray, List.set_cons_succ, List.set_cons_zero]
  have hb := hsn.below (B := W.heap.size) (fun _ _ => rfl) (Nat.le_refl _)
  have K3 := Bx.mk (K2.out.trans (hb.mono K2.out.size)); have R3 := Bx.mk (R2.out.below hb); have Q3 := Bx.mk (Q2.out.below hb)
  clear hb hsn K2 R2 Q2 XR XQ
  have c3 := er_cellAt Q3.out.hb 3 _ rfl
  go_wp2_with fail
  clear c3
  go_loopw [33] (fun iv wr => ∃ t : Nat, t ≤ m ∧ iv = .int .i64 (t : Int) ∧ wr = u) (fun iv _ => m - (intOf iv).toNat)
  case atStart => exact ⟨0, Nat.zero_le _, rfl, rfl⟩
  case round =>
    obtain ⟨t, ht, rfl, rfl⟩ := hrel
    obtain rfl : t = m := by have := HM.out; simp at this; omega
    have f1 : ¬ (t : Int) < (t : Int) := by omega
    have c2 := er_cellAt Q3.out.hb 2 _ rfl
    have c2r := er_cellAt R3.out.hb 2 _ rfl
    have f2 := er_frozen R3.out.hb 2
    clear ht
    go_wp2_with fail
    go_ret
    exact ⟨rfl, K3.out.trans ((below_setSame R3.out.hb rfl).mono K3.out.size)⟩
end Go.Proofs.YtgbafjmklefoiaaDoor
