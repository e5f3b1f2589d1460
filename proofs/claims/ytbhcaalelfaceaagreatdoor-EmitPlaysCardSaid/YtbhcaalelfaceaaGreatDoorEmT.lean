/- cartularylaw01.SameNodes. -/
import Derived.Test.YtbhcaalelfaceaaGreatDoorEmQ
namespace Go.Proofs.YtbhcaalelfaceaaGreatDoor
set_option maxRecDepth 100000
open Go.RowKit
theorem nszB {p : Nat × Nat × List UInt8} (h : p.2.2.length = 32) : (Tryz.prog.info? 130).map (·.size) = some (ncell p).toList.length := by
  rw [Array.length_toList, ncell_size h]; kernel_rfl
theorem neq_nodeB (w : World) (p q : Nat × Nat × List UInt8) (hp : p.2.2.length = 32) (hq : q.2.2.length = 32) :
    (binOp .neq 130 (.agg (ncell p)) (.agg (ncell q))).run Tryz.prog w = .ok (.bool (!(p == q))) w := by
  rw [neq_node w p q hp hq, Bool.and_assoc]; rfl
/-- nodes in memory -/
def Nss (w : World) (v : Value) (hs : List (Nat × Nat × List UInt8)) : Prop :=
  (∀ h ∈ hs, h.2.2.length = 32) ∧ ∃ (a : Option Addr) (cap : Nat), v = .slice a hs.length cap ∧ hs.length ≤ cap ∧ cap ≤ maxLen ∧
    (hs ≠ [] → ∃ B off, a = some ⟨B, off, none⟩ ∧ B < w.heap.size ∧ ∀ i, (h : i < hs.length) → w.rangeAt B (off + i * 34) (ncell hs[i]).toList)
theorem Nss.below {w w' : World} {v : Value} {hs : List (Nat × Nat × List UInt8)} (h : Nss w v hs) (k : Below w.heap.size w w') : Nss w' v hs := by
  obtain ⟨h0, a, cap, h1, h2, h3, h4⟩ := h
  refine ⟨h0, a, cap, h1, h2, h3, fun hne => ?_⟩
  obtain ⟨B, off, e1, e2, e3⟩ := h4 hne
  exact ⟨B, off, e1, Nat.lt_of_lt_of_le e2 k.size, fun i hi => rangeAt_below (e3 i hi) e2 k⟩
theorem Nss.len {w : World} {v : Value} {hs : List (Nat × Nat × List UInt8)} (h : Nss w v hs) : ∃ a cap, v = .slice a hs.length cap ∧ hs.length ≤ cap ∧ cap ≤ 9223372036854775807 := by
  obtain ⟨_, a, cap, h1, h2, h3, _⟩ := h
  exact ⟨a, cap, h1, h2, by unfold maxLen at h3; omega⟩
theorem Nss.at {w : World} {a : Option Addr} {n cap : Nat} {hs : List (Nat × Nat × List UInt8)} (h : Nss w (.slice a n cap) hs) (i : Nat) (hi : i < hs.length) :
    n = hs.length ∧ hs.length ≤ cap ∧ cap ≤ 9223372036854775807 ∧ ∃ B off, a = some ⟨B, off, none⟩ ∧ B < w.heap.size ∧ w.rangeAt B (off + i * 34) (ncell hs[i]).toList ∧ hs[i].2.2.length = 32 := by
  obtain ⟨h0, a', cap', h1, h2, h3, h4⟩ := h
  cases h1
  have hne : hs ≠ [] := fun e => by subst e; simp at hi
  obtain ⟨B, off, e1, e2, e3⟩ := h4 hne
  exact ⟨rfl, h2, by unfold maxLen at h3; omega, B, off, e1, e2, e3 i hi, h0 _ (List.getElem_mem hi)⟩
/-- a row of one's own reads as its nodes -/
theorem nss_own {w : World} {base n : Nat} {v : Value} {ls : List (Nat × Nat × List UInt8)} (h : w.ownsRow base 130 34 v n (ncells ls)) (hl : ∀ x ∈ ls, x.2.2.length = 32) (hn : n = ls.length) : Nss w v ls := by
  subst hn
  rcases id h.2 with ⟨rfl, h0⟩ | ⟨g, cap, cur, rfl, hb, hg, h1, h2, h3, h4⟩
  · obtain rfl : ls = [] := List.length_eq_zero_iff.1 h0
    exact ⟨(fun _ h => (by cases h)), none, 0, rfl, Nat.le_refl _, (by unfold maxLen; decide), fun h => absurd rfl h⟩
  · refine ⟨hl, _, cap, rfl, h1, h2, fun _ => ⟨g, 0, rfl, (Array.getElem?_eq_some_iff.1 hg).1, fun i hi => ?_⟩⟩
    intro j x hx
    have hj : j < 34 := by
      have := (List.getElem?_eq_some_iff.1 hx).1
      rwa [Array.length_toList, ncell_size (hl _ (List.getElem_mem hi))] at this
    rw [Nat.zero_add, h.cellAt (i * 34 + j) (by omega), ncells_get hl i hi j hj]
    simpa using hx
def VSn (B1 o1 c1 B2 o2 c2 l t : Nat) (x y : Nat × Nat × List UInt8) (oi : Nat) (v : Value) (_own : Nat → Option Nat) (_w : World) : Prop :=
  match oi with
  | 0 => v = .slice (some ⟨B1, o1, none⟩) l c1
  | 1 => v = .int .i64 (t : Int)
  | 2 => v = .pointer (some ⟨B1, o1 + t * 34, none⟩)
  | 3 => v = .agg (ncell x)
  | 4 => v = .slice (some ⟨B2, o2, none⟩) l c2
  | 5 => v = .int .i64 (t : Int)
  | 6 => v = .pointer (some ⟨B2, o2 + t * 34, none⟩)
  | 7 => v = .agg (ncell y)
  | 8 => v = .bool (!(x == y))
  | _ => True
def VSnmk : Nat → Option Nat := fun _ => none
theorem VSn_mono (B1 o1 c1 B2 o2 c2 l t : Nat) (x y : Nat × Nat × List UInt8) (oi oj : Nat) (v : Value) (own : Nat → Option Nat) (w : World) (own' : Nat → Option Nat) (w' : World) (hij : oi ≠ oj) (h : VSn B1 o1 c1 B2 o2 c2 l t x y oj v own w) (_r : Rel VSnmk oi own w own' w') : VSn B1 o1 c1 B2 o2 c2 l t x y oj v own' w' := by
  unfold VSn at h ⊢
  split at h
  · exact h
  · exact h
  · exact h
  · exact h
  · exact h
  · exact h
  · exact h
  · exact h
  · exact h
  · trivial

theorem getElem_neN {a b : List (Nat × Nat × List UInt8)} {t : Nat} (ha : t < a.length) (hb : t < b.length) (h : (a[t] == b[t]) = false) : (a == b) = false := by
  rw [beq_eq_false_iff_ne] at h ⊢
  intro e
  subst e
  exact h rfl
set_option maxHeartbeats 1600000 in
theorem sameN_any (w : World) (a1 : Option Addr) (n1 c1 : Nat) (ps : List (Nat × Nat × List UInt8)) (a2 : Option Addr) (n2 c2 : Nat) (qs : List (Nat × Nat × List UInt8)) (h1 : Nss w (.slice a1 n1 c1) ps) (h2 : Nss w (.slice a2 n2 c2) qs) :
    Calls Tryz.prog 72 #[.slice a1 n1 c1, .slice a2 n2 c2] w fun e w' => e = .returned (.bool (ps == qs)) ∧ Below w.heap.size w w' := by
  obtain ⟨_, _, e1, b1, b1'⟩ := h1.len
  obtain ⟨_, _, e2, b2, b2'⟩ := h2.len
  have hn1 : n1 = ps.length := by cases e1; rfl
  have hn2 : n2 = qs.length := by cases e2; rfl
  subst hn1; subst hn2
  have H1 := Bx.mk h1; have H2 := Bx.mk h2
  clear h1 h2 e1 e2
  go_enter Tryz.func72, Tryz.ntmps72
  by_cases hl : ps.length = qs.length
  · obtain ⟨l, hl1⟩ : ∃ l, l = ps.length := ⟨_, rfl⟩
    have hlb : l ≤ 9223372036854775807 := by omega
    rw [← hl, ← hl1]
    have HL := Bx.mk hl; have HL1 := Bx.mk hl1
    clear hl hl1
    go_wp2_with fail
    go_loopw [5] (fun i wr => ∃ t : Nat, t ≤ l ∧ i = .int .i64 (t : Int) ∧ ps.take t = qs.take t ∧ Below w.heap.size w wr) (fun i _ => l - (intOf i).toNat)
    case atStart => exact ⟨0, Nat.zero_le _, rfl, rfl, Below.refl _ _⟩
    case round =>
      obtain ⟨t, ht, rfl, heq, hb⟩ := hrel
      have HE := Bx.mk heq; have B0 := Bx.mk hb; clear heq hb
      by_cases hlt : t < l
      · have htp : t < ps.length := by rw [← HL1.out]; exact hlt
        have htq : t < qs.length := by rw [← HL.out, ← HL1.out]; exact hlt
        obtain ⟨_, hc1, hc1', B1, o1, rfl, l1, r1, x1⟩ := (H1.out.below B0.out).at t htp
        obtain ⟨_, hc2, hc2', B2, o2, rfl, l2, r2, x2⟩ := (H2.out.below B0.out).at t htq
        have hne := getElem_neN (a := ps) (b := qs) htp htq
        have htk1 : ps.take (t + 1) = ps.take t ++ [ps[t]] := List.take_succ_eq_append_getElem htp
        have htk2 : qs.take (t + 1) = qs.take t ++ [qs[t]] := List.take_succ_eq_append_getElem htq
        generalize ps[t] = x at r1 x1 hne htk1
        generalize qs[t] = y at r2 x2 hne htk2
        have R1 := Bx.mk r1; have R2 := Bx.mk r2; have L1 := Bx.mk l1; have L2 := Bx.mk l2; have XL := Bx.mk x1; have YL := Bx.mk x2; have NE := Bx.mk hne; have T1 := Bx.mk htk1; have T2 := Bx.mk htk2
        clear r1 r2 l1 l2 x1 x2 hne htk1 htk2 htp htq hc1 hc2 hc1' hc2'
        go_upto_region 6 with (fail)
        refine wp_region_own (n := 26) VSnmk (fun _ => none) (VSn B1 o1 c1 B2 o2 c2 l t x y) (by kernel_rfl) (by kernel_rfl) rfl ?_ ?_ (VSn_mono B1 o1 c1 B2 o2 c2 l t x y) ?_ ?_
        · exact fun _ _ => rfl
        · exact fun _ _ h => by cases h
        · intro oi o hi f u own hsame hsn hfr hdep
          have hb := hsn.below (B := wr.heap.size) (fun _ _ => rfl) (Nat.le_refl _)
          have hr1 := rangeAt_below R1.out L1.out hb
          have hr2 := rangeAt_below R2.out L2.out hb
          match oi, hi with
          | 0, hi =>
            cases (show some _ = some o from hi)
            have e0 : f.tmps.getD 0 undef = .slice (some ⟨B1, o1, none⟩) l c1 := hsame.slot 0 (fun i o h => invB2_not 0 (by kernel_rfl) h)
            clear hdep hsame hi hfr
            exact ⟨wanted_none rfl, showsO_move hsn rfl _ rfl e0⟩
          | 1, hi =>
            cases (show some _ = some o from hi)
            have e5 : f.tmps.getD 5 undef = .int .i64 (t : Int) := hsame.slot 5 (fun i o h => invB2_not 5 (by kernel_rfl) h)
            clear hdep hsame hi hfr
            exact ⟨wanted_none rfl, showsO_move hsn rfl _ rfl e5⟩
          | 2, hi =>
            cases (show some _ = some o from hi)
            have e17 : f.tmps.getD 17 undef = .slice (some ⟨B1, o1, none⟩) l c1 := depO (V := (VSn B1 o1 c1 B2 o2 c2 l t x y)) hdep 0 17 (by kernel_rfl) (by kernel_rfl)
            have e18 : f.tmps.getD 18 undef = .int .i64 (t : Int) := depO (V := (VSn B1 o1 c1 B2 o2 c2 l t x y)) hdep 1 18 (by kernel_rfl) (by kernel_rfl)
            clear hdep hsame hi hfr
            have f1 : ¬ (l : Int) ≤ (t : Int) := by omega
            have f2 : (t : Int) < (l : Int) := by omega
            exact ⟨wanted_none rfl, showsO_pure hsn rfl (.pointer (some ⟨B1, o1 + t * 34, none⟩)) (by simp only [execOp, Act.eval]; go_simp) rfl⟩
          | 3, hi =>
            cases (show some _ = some o from hi)
            have e19 : f.tmps.getD 19 undef = .pointer (some ⟨B1, o1 + t * 34, none⟩) := depO (V := (VSn B1 o1 c1 B2 o2 c2 l t x y)) hdep 2 19 (by kernel_rfl) (by kernel_rfl)
            clear hdep hsame hi hfr
            exact ⟨wanted_none rfl, showsO_mid hsn rfl 130 (.tmp 19) rfl B1 (o1 + t * 34) e19 ((ncell x).toList) hr1 underNd rfl (nszB XL.out) rfl⟩
          | 4, hi =>
            cases (show some _ = some o from hi)
            have e1 : f.tmps.getD 1 undef = .slice (some ⟨B2, o2, none⟩) l c2 := hsame.slot 1 (fun i o h => invB2_not 1 (by kernel_rfl) h)
            clear hdep hsame hi hfr
            exact ⟨wanted_none rfl, showsO_move hsn rfl _ rfl e1⟩
          | 5, hi =>
            cases (show some _ = some o from hi)
            have e5 : f.tmps.getD 5 undef = .int .i64 (t : Int) := hsame.slot 5 (fun i o h => invB2_not 5 (by kernel_rfl) h)
            clear hdep hsame hi hfr
            exact ⟨wanted_none rfl, showsO_move hsn rfl _ rfl e5⟩
          | 6, hi =>
            cases (show some _ = some o from hi)
            have e21 : f.tmps.getD 21 undef = .slice (some ⟨B2, o2, none⟩) l c2 := depO (V := (VSn B1 o1 c1 B2 o2 c2 l t x y)) hdep 4 21 (by kernel_rfl) (by kernel_rfl)
            have e22 : f.tmps.getD 22 undef = .int .i64 (t : Int) := depO (V := (VSn B1 o1 c1 B2 o2 c2 l t x y)) hdep 5 22 (by kernel_rfl) (by kernel_rfl)
            clear hdep hsame hi hfr
            have f1 : ¬ (l : Int) ≤ (t : Int) := by omega
            have f2 : (t : Int) < (l : Int) := by omega
            exact ⟨wanted_none rfl, showsO_pure hsn rfl (.pointer (some ⟨B2, o2 + t * 34, none⟩)) (by simp only [execOp, Act.eval]; go_simp) rfl⟩
          | 7, hi =>
            cases (show some _ = some o from hi)
            have e23 : f.tmps.getD 23 undef = .pointer (some ⟨B2, o2 + t * 34, none⟩) := depO (V := (VSn B1 o1 c1 B2 o2 c2 l t x y)) hdep 6 23 (by kernel_rfl) (by kernel_rfl)
            clear hdep hsame hi hfr
            exact ⟨wanted_none rfl, showsO_mid hsn rfl 130 (.tmp 23) rfl B2 (o2 + t * 34) e23 ((ncell y).toList) hr2 underNd rfl (nszB YL.out) rfl⟩
          | 8, hi =>
            cases (show some _ = some o from hi)
            have e20 : f.tmps.getD 20 undef = .agg (ncell x) := depO (V := (VSn B1 o1 c1 B2 o2 c2 l t x y)) hdep 3 20 (by kernel_rfl) (by kernel_rfl)
            have e24 : f.tmps.getD 24 undef = .agg (ncell y) := depO (V := (VSn B1 o1 c1 B2 o2 c2 l t x y)) hdep 7 24 (by kernel_rfl) (by kernel_rfl)
            clear hdep hsame hi hfr
            have q := fun u => neq_nodeB u x y XL.out YL.out
            exact ⟨wanted_none rfl, showsO_pure hsn rfl (.bool (!(x == y))) (by simp only [execOp, Act.eval]; go_simp) rfl⟩
          | n + 9, hi => exact absurd hi (by simp)
        · intro f u own hsame hsn hall
          have hb := hsn.below (B := wr.heap.size) (fun _ _ => rfl) (Nat.le_refl _)
          have q17 : f.tmps.getD 17 undef = .slice (some ⟨B1, o1, none⟩) l c1 := finO (V := (VSn B1 o1 c1 B2 o2 c2 l t x y)) hall 0 17 rfl
          have q18 : f.tmps.getD 18 undef = .int .i64 (t : Int) := finO (V := (VSn B1 o1 c1 B2 o2 c2 l t x y)) hall 1 18 rfl
          have q19 : f.tmps.getD 19 undef = .pointer (some ⟨B1, o1 + t * 34, none⟩) := finO (V := (VSn B1 o1 c1 B2 o2 c2 l t x y)) hall 2 19 rfl
          have q20 : f.tmps.getD 20 undef = .agg (ncell x) := finO (V := (VSn B1 o1 c1 B2 o2 c2 l t x y)) hall 3 20 rfl
          have q21 : f.tmps.getD 21 undef = .slice (some ⟨B2, o2, none⟩) l c2 := finO (V := (VSn B1 o1 c1 B2 o2 c2 l t x y)) hall 4 21 rfl
          have q22 : f.tmps.getD 22 undef = .int .i64 (t : Int) := finO (V := (VSn B1 o1 c1 B2 o2 c2 l t x y)) hall 5 22 rfl
          have q23 : f.tmps.getD 23 undef = .pointer (some ⟨B2, o2 + t * 34, none⟩) := finO (V := (VSn B1 o1 c1 B2 o2 c2 l t x y)) hall 6 23 rfl
          have q24 : f.tmps.getD 24 undef = .agg (ncell y) := finO (V := (VSn B1 o1 c1 B2 o2 c2 l t x y)) hall 7 24 rfl
          have q25 : f.tmps.getD 25 undef = .bool (!(x == y)) := finO (V := (VSn B1 o1 c1 B2 o2 c2 l t x y)) hall 8 25 rfl
          obtain rfl := frame_eq hsame [(17, .slice (some ⟨B1, o1, none⟩) l c1), (18, .int .i64 (t : Int)), (19, .pointer (some ⟨B1, o1 + t * 34, none⟩)), (20, .agg (ncell x)), (21, .slice (some ⟨B2, o2, none⟩) l c2), (22, .int .i64 (t : Int)), (23, .pointer (some ⟨B2, o2 + t * 34, none⟩)), (24, .agg (ncell y)), (25, .bool (!(x == y)))] (by kernel_rfl) ⟨q17, q18, q19, q20, q21, q22, q23, q24, q25, trivial⟩
          clear hall hsame q17 q18 q19 q20 q21 q22 q23 q24 q25
          simp only [List.foldl, List.setIfInBounds_toArray, List.set_cons_succ, List.set_cons_zero]
          have HB := Bx.mk (B0.out.trans (hb.mono B0.out.size))
          clear hb hsn
          by_cases hxy : (x == y) = true
          · rw [hxy]
            have HXY := Bx.mk (eq_of_beq hxy); clear hxy
            go_wp2_with fail
            go_roundw
            case rel => exact ⟨t + 1, hlt, by go_num, by rw [T1.out, T2.out, HE.out, HXY.out], HB.out⟩
            case measure => simp [intOf]; omega
          · rw [show (x == y) = false by simpa using hxy]
            have HXY := Bx.mk (NE.out (by simpa using hxy)); clear hxy
            go_wp2_with fail
            go_ret
            exact ⟨by rw [HXY.out]; rfl, HB.out⟩
      · obtain rfl : t = l := by omega
        have hv : (ps == qs) = true := by
          have := HE.out
          rw [HL1.out, List.take_length, HL.out, List.take_length] at this
          rw [this]; simp
        have HV := Bx.mk hv; clear hv
        go_wp2_with fail
        go_ret
        exact ⟨by rw [HV.out]; rfl, B0.out⟩
  · have hv : (ps == qs) = false := by rw [beq_eq_false_iff_ne]; exact fun e => hl (by rw [e])
    have HV := Bx.mk hv; clear hv
    have hl' : ¬ (ps.length : Int) = (qs.length : Int) := by omega
    have hl'' : ((ps.length : Int) == (qs.length : Int)) = false := beq_eq_false_iff_ne.2 hl'
    have hl3 : (ps.length == qs.length) = false := beq_eq_false_iff_ne.2 hl
    go_wp2_with fail
    go_ret
    exact ⟨by rw [HV.out]; rfl, Below.refl _ _⟩
end Go.Proofs.YtbhcaalelfaceaaGreatDoor
