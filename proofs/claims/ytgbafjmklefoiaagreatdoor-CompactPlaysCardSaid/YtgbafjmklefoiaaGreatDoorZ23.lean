/- cartularyref09: Append at the limit, Join. -/
import Derived.Test.YtgbafjmklefoiaaGreatDoorZ22
namespace Go.Proofs.YtgbafjmklefoiaaGreatDoor
set_option maxRecDepth 100000
open Go.RowKit
set_option maxHeartbeats 1600000 in
theorem rmapp_limit (base : Nat) (w : World) (d B E : Nat) (l : List (Nat × Nat × List UInt8)) (s : Value) (h : RmP base w d B E l s) (hE : 9223372036854775808 ≤ E) (p : List UInt8) (hp : p.length = 32) :
    Calls Tryz.prog 19 #[.pointer (some ⟨d, 0, none⟩), .agg (ocells p)] w fun e w' => e = .returned (.agg #[.int .i64 4, .int .i64 (-1)]) ∧ Below w.heap.size w w' := by
  have kb1 := er_al (Below.refl w.heap.size w) (.cells (ocells p) 81)
  have kb := er_al kb1 (.cells #[.int .i64 0, .int .i64 0] 75)
  have xG := heap_alloc_new (w.alloc (.cells (ocells p) 81)) (.cells #[.int .i64 0, .int .i64 0] 75)
  rw [show (w.alloc (.cells (ocells p) 81)).heap.size = w.heap.size + 1 by simp] at xG
  have h2 := h.below kb
  have PL := Bx.mk hp
  clear h kb1 hp
  go_enter Tryz.func19, Tryz.ntmps19
  go_upto_region 1 with (fail)
  change Code.wp _ _ _ _ ((w.alloc (.cells (ocells p) 81)).alloc (.cells #[.int .i64 0, .int .i64 0] 75))
  generalize (w.alloc (.cells (ocells p) 81)).alloc (.cells #[.int .i64 0, .int .i64 0] 75) = W at kb xG h2 ⊢
  obtain ⟨G, hG⟩ : ∃ G, G = w.heap.size + 1 := ⟨_, rfl⟩
  rw [← hG] at xG ⊢
  have HG := Bx.mk hG; have XG := Bx.mk xG; have KB := Bx.mk kb
  have c1 := er_cellAt h2.hb 1 _ rfl
  have n1 : (9223372036854775808 : Int) ≤ (E : Int) := by omega
  have CP := Bx.mk (plainP_any W 4 (by decide))
  clear kb xG h2 hG hE
  go_wp2_with fail
  refine CP.out.mono ?_
  rintro e w4 ⟨rfl, hb⟩
  have X4 := Bx.mk ((hb.block G (Array.getElem?_eq_some_iff.1 XG.out).1).trans XG.out)
  have FIN : Bx (Below w.heap.size w (w4.setRow G #[.int .i64 4, .int .i64 (-1)])) := ⟨below_setRow (KB.out.trans (hb.mono KB.out.size)) (by have := HG.out; omega) _⟩
  clear hb CP c1 n1
  go_wp2_with (guard_target =~ wpList _ _ _ (⟨none, _, _, _, _, _⟩ :: _) _ _; refine wpList_store_row rfl 75 (.tmp 4) (.tmp 11) rfl G #[.int .i64 4, .int .i64 (-1)] rfl rfl _ _ X4.out (by kernel_rfl) rfl (by simp [Value.oneCell']) ?_)
  refine bodyPost_ret (results_cell_row rfl _ _ G _ #[.int .i64 4, .int .i64 (-1)] _ _ rfl (setRow_heap _ G _ _ _ _ X4.out) Tryz.underlying75 rfl (by kernel_rfl)) rfl ⟨rfl, FIN.out⟩
def VQh (d o Bo Eo : Nat) (b : Bool) (oi : Nat) (v : Value) (own : Nat → Option Nat) (w : World) : Prop :=
  match oi with
  | 0 => v = .pointer (some ⟨o, 0, none⟩)
  | 1 => v = .pointer (some ⟨o, 0, none⟩)
  | 2 => v = .pointer (some ⟨o, 0, none⟩)
  | 3 => v = .pointer (some ⟨o, 0, none⟩)
  | 4 => v = .int .u64 (Bo : Int)
  | 5 => v = .pointer (some ⟨d, 0, none⟩)
  | 6 => v = .pointer (some ⟨d, 0, none⟩)
  | 7 => v = .pointer (some ⟨d, 0, none⟩)
  | 8 => v = .pointer (some ⟨d, 1, none⟩)
  | 9 => v = .int .u64 (Eo : Int)
  | 10 => v = .bool b
  | _ => True
def VQhmk : Nat → Option Nat := fun _ => none
theorem VQh_mono (d o Bo Eo : Nat) (b : Bool) (oi oj : Nat) (v : Value) (own : Nat → Option Nat) (w : World) (own' : Nat → Option Nat) (w' : World) (hij : oi ≠ oj)   (h : VQh d o Bo Eo b oj v own w) (r : Rel VQhmk oi own w own' w') : VQh d o Bo Eo b oj v own' w' := by
  unfold VQh at h ⊢
  split at h
  · exact h
  · exact h
  · exact h
  · exact h
  · exact h
  · exact h
  · exact h
  · exact h
  · exact h
  · exact h
  · exact h
  · trivial

set_option maxHeartbeats 1600000 in
theorem rmjoin_bad (base : Nat) (w : World) (d B E : Nat) (l : List (Nat × Nat × List UInt8)) (s : Value) (h : RmP base w d B E l s) (o B2 E2 : Nat) (l2 : List (Nat × Nat × List UInt8)) (s2 : Value) (h2 : RmP base w o B2 E2 l2 s2) (hne : B2 ≠ E) :
    Calls Tryz.prog 21 #[.pointer (some ⟨d, 0, none⟩), .pointer (some ⟨o, 0, none⟩)] w fun e w' => e = .returned (.agg #[.int .i64 2, .int .i64 (-1)]) ∧ Below w.heap.size w w' := by
  have kb := er_al (Below.refl w.heap.size w) (.cells #[.int .i64 0, .int .i64 0] 75)
  have xG := heap_alloc_new w (.cells #[.int .i64 0, .int .i64 0] 75)
  have h3 := h.below kb
  have h4 := h2.below kb
  clear h h2
  go_enter Tryz.func21, Tryz.ntmps21
  go_upto_region 1 with (fail)
  change Code.wp _ _ _ _ (w.alloc (.cells #[.int .i64 0, .int .i64 0] 75))
  generalize w.alloc (.cells #[.int .i64 0, .int .i64 0] 75) = W at kb xG h3 h4 ⊢
  obtain ⟨G, hG⟩ : ∃ G, G = w.heap.size := ⟨_, rfl⟩
  rw [← hG] at xG ⊢
  have HG := Bx.mk hG; have XG := Bx.mk xG; have KB := Bx.mk kb
  have HCO := Bx.mk (fun u (hu : Below W.heap.size W u) => And.intro (er_cellAt (h4.below hu).hb 0 _ rfl) (er_cellAt (h3.below hu).hb 1 _ rfl))
  have HNB := Bx.mk (show ¬ (B2 : Int) = (E : Int) by omega)
  clear kb xG h3 h4 hG hne
  refine wp_region_own8 (n := 41) VQhmk (fun _ => none) (VQh d o B2 E true) (by kernel_rfl) (by kernel_rfl) rfl (fun _ _ => rfl) (fun j i hj _ => by cases hj) ?_ ?_ ?_
  · exact fun oi oj v own w own' w' hij _ h r => VQh_mono d o B2 E true oi oj v own w own' w' hij h r
  · intro oi o hi f u own hsame hsn hfr hlate hkeep8 hdep
    have hkeep := hkeep8 _ (.inl rfl)
    have hb6 := hsn.below (B := W.heap.size) (fun _ _ => rfl) (Nat.le_refl _)
    match oi, hi with
    | 0, hi =>
      cases (show some _ = some o from hi)
      have e1 : f.tmps.getD 1 undef = .pointer (some ⟨o, 0, none⟩) := hsame.slot 1 (fun i o h => invB2_not 1 (by kernel_rfl) h)
      clear hdep hsame hi hlate hfr hkeep
      exact .inl ⟨wanted_none rfl, showsO_move hsn rfl _ rfl e1⟩
    | 1, hi =>
      cases (show some _ = some o from hi)
      have e5 : (f.tmps.getD 5 undef) = .pointer (some ⟨o, 0, none⟩) := depO (V := (VQh d o B2 E true)) hdep 0 5 (by kernel_rfl) (by kernel_rfl)
      clear hdep hsame hi hlate hfr hkeep
      exact .inl ⟨wanted_none rfl, showsO_pure hsn rfl (.pointer (some ⟨o, 0, none⟩)) (by simp only [execOp, Act.eval]; go_simp) rfl⟩
    | 2, hi =>
      cases (show some _ = some o from hi)
      have e6 : (f.tmps.getD 6 undef) = .pointer (some ⟨o, 0, none⟩) := depO (V := (VQh d o B2 E true)) hdep 1 6 (by kernel_rfl) (by kernel_rfl)
      clear hdep hsame hi hlate hfr hkeep
      exact .inl ⟨wanted_none rfl, showsO_pure hsn rfl (.pointer (some ⟨o, 0, none⟩)) (by simp only [execOp, Act.eval]; go_simp) rfl⟩
    | 3, hi =>
      cases (show some _ = some o from hi)
      have e7 : (f.tmps.getD 7 undef) = .pointer (some ⟨o, 0, none⟩) := depO (V := (VQh d o B2 E true)) hdep 2 7 (by kernel_rfl) (by kernel_rfl)
      clear hdep hsame hi hlate hfr hkeep
      exact .inl ⟨wanted_none rfl, showsO_pure hsn rfl (.pointer (some ⟨o, 0, none⟩)) (by simp only [execOp, Act.eval]; go_simp) rfl⟩
    | 4, hi =>
      cases (show some _ = some o from hi)
      have e8 : (f.tmps.getD 8 undef) = .pointer (some ⟨o, 0, none⟩) := depO (V := (VQh d o B2 E true)) hdep 3 8 (by kernel_rfl) (by kernel_rfl)
      clear hdep hsame hi hlate hfr hkeep
      have c8 := (HCO.out u hb6).1
      exact .inl ⟨wanted_none rfl, showsO_pure hsn rfl (.int .u64 (B2 : Int)) (by simp only [execOp, Act.eval]; go_simp) rfl⟩
    | 5, hi =>
      cases (show some _ = some o from hi)
      have e0 : f.tmps.getD 0 undef = .pointer (some ⟨d, 0, none⟩) := hsame.slot 0 (fun i o h => invB2_not 0 (by kernel_rfl) h)
      clear hdep hsame hi hlate hfr hkeep
      exact .inl ⟨wanted_none rfl, showsO_move hsn rfl _ rfl e0⟩
    | 6, hi =>
      cases (show some _ = some o from hi)
      have e10 : (f.tmps.getD 10 undef) = .pointer (some ⟨d, 0, none⟩) := depO (V := (VQh d o B2 E true)) hdep 5 10 (by kernel_rfl) (by kernel_rfl)
      clear hdep hsame hi hlate hfr hkeep
      exact .inl ⟨wanted_none rfl, showsO_pure hsn rfl (.pointer (some ⟨d, 0, none⟩)) (by simp only [execOp, Act.eval]; go_simp) rfl⟩
    | 7, hi =>
      cases (show some _ = some o from hi)
      have e11 : (f.tmps.getD 11 undef) = .pointer (some ⟨d, 0, none⟩) := depO (V := (VQh d o B2 E true)) hdep 6 11 (by kernel_rfl) (by kernel_rfl)
      clear hdep hsame hi hlate hfr hkeep
      exact .inl ⟨wanted_none rfl, showsO_pure hsn rfl (.pointer (some ⟨d, 0, none⟩)) (by simp only [execOp, Act.eval]; go_simp) rfl⟩
    | 8, hi =>
      cases (show some _ = some o from hi)
      have e12 : (f.tmps.getD 12 undef) = .pointer (some ⟨d, 0, none⟩) := depO (V := (VQh d o B2 E true)) hdep 7 12 (by kernel_rfl) (by kernel_rfl)
      clear hdep hsame hi hlate hfr hkeep
      exact .inl ⟨wanted_none rfl, showsO_pure hsn rfl (.pointer (some ⟨d, 1, none⟩)) (by simp only [execOp, Act.eval]; go_simp) rfl⟩
    | 9, hi =>
      cases (show some _ = some o from hi)
      have e13 : (f.tmps.getD 13 undef) = .pointer (some ⟨d, 1, none⟩) := depO (V := (VQh d o B2 E true)) hdep 8 13 (by kernel_rfl) (by kernel_rfl)
      clear hdep hsame hi hlate hfr hkeep
      have c13 := (HCO.out u hb6).2
      exact .inl ⟨wanted_none rfl, showsO_pure hsn rfl (.int .u64 (E : Int)) (by simp only [execOp, Act.eval]; go_simp) rfl⟩
    | 10, hi =>
      cases (show some _ = some o from hi)
      have e9 : (f.tmps.getD 9 undef) = .int .u64 (B2 : Int) := depO (V := (VQh d o B2 E true)) hdep 4 9 (by kernel_rfl) (by kernel_rfl)
      have e14 : (f.tmps.getD 14 undef) = .int .u64 (E : Int) := depO (V := (VQh d o B2 E true)) hdep 9 14 (by kernel_rfl) (by kernel_rfl)
      clear hdep hsame hi hlate hfr hkeep
      have n1 := HNB.out
      exact .inl ⟨wanted_none rfl, showsO_pure hsn rfl (.bool true) (by simp only [execOp, Act.eval]; go_simp) rfl⟩
    | n + 11, hi => exact absurd hi (by simp)
  · intro f W2 own hsame hsn hall
    have q5 : f.tmps.getD 5 undef = .pointer (some ⟨o, 0, none⟩) := finO (V := (VQh d o B2 E true)) hall 0 5 rfl
    have q6 : f.tmps.getD 6 undef = .pointer (some ⟨o, 0, none⟩) := finO (V := (VQh d o B2 E true)) hall 1 6 rfl
    have q7 : f.tmps.getD 7 undef = .pointer (some ⟨o, 0, none⟩) := finO (V := (VQh d o B2 E true)) hall 2 7 rfl
    have q8 : f.tmps.getD 8 undef = .pointer (some ⟨o, 0, none⟩) := finO (V := (VQh d o B2 E true)) hall 3 8 rfl
    have q9 : f.tmps.getD 9 undef = .int .u64 (B2 : Int) := finO (V := (VQh d o B2 E true)) hall 4 9 rfl
    have q10 : f.tmps.getD 10 undef = .pointer (some ⟨d, 0, none⟩) := finO (V := (VQh d o B2 E true)) hall 5 10 rfl
    have q11 : f.tmps.getD 11 undef = .pointer (some ⟨d, 0, none⟩) := finO (V := (VQh d o B2 E true)) hall 6 11 rfl
    have q12 : f.tmps.getD 12 undef = .pointer (some ⟨d, 0, none⟩) := finO (V := (VQh d o B2 E true)) hall 7 12 rfl
    have q13 : f.tmps.getD 13 undef = .pointer (some ⟨d, 1, none⟩) := finO (V := (VQh d o B2 E true)) hall 8 13 rfl
    have q14 : f.tmps.getD 14 undef = .int .u64 (E : Int) := finO (V := (VQh d o B2 E true)) hall 9 14 rfl
    have q15 : f.tmps.getD 15 undef = .bool true := finO (V := (VQh d o B2 E true)) hall 10 15 rfl
    obtain rfl := frame_eq hsame [(5, .pointer (some ⟨o, 0, none⟩)), (6, .pointer (some ⟨o, 0, none⟩)), (7, .pointer (some ⟨o, 0, none⟩)), (8, .pointer (some ⟨o, 0, none⟩)), (9, .int .u64 (B2 : Int)), (10, .pointer (some ⟨d, 0, none⟩)), (11, .pointer (some ⟨d, 0, none⟩)), (12, .pointer (some ⟨d, 0, none⟩)), (13, .pointer (some ⟨d, 1, none⟩)), (14, .int .u64 (E : Int)), (15, .bool true)] (by kernel_rfl) ⟨q5, q6, q7, q8, q9, q10, q11, q12, q13, q14, q15, trivial⟩
    clear hall hsame q5 q6 q7 q8 q9 q10 q11 q12 q13 q14 q15
    simp only [List.foldl, List.setIfInBounds_toArray, List.set_cons_succ, List.set_cons_zero]
    have hb2 := hsn.below (B := W.heap.size) (fun _ _ => rfl) (Nat.le_refl _)
    have KB2 := Bx.mk (KB.out.trans (hb2.mono KB.out.size)); have XG2 := Bx.mk ((hb2.block G (Array.getElem?_eq_some_iff.1 XG.out).1).trans XG.out)
    have CP := Bx.mk (plainP_any W2 2 (by decide))
    clear hsn hb2
    go_wp2_with fail
    refine CP.out.mono ?_
    rintro e w4 ⟨rfl, hb⟩
    have X4 := Bx.mk ((hb.block G (Array.getElem?_eq_some_iff.1 XG2.out).1).trans XG2.out)
    have FIN : Bx (Below w.heap.size w (w4.setRow G #[.int .i64 2, .int .i64 (-1)])) := ⟨below_setRow (KB2.out.trans (hb.mono KB2.out.size)) (by have := HG.out; omega) _⟩
    clear hb CP
    go_wp2_with (guard_target =~ wpList _ _ _ (⟨none, _, _, _, _, _⟩ :: _) _ _; refine wpList_store_row rfl 75 (.tmp 4) (.tmp 16) rfl G #[.int .i64 2, .int .i64 (-1)] rfl rfl _ _ X4.out (by kernel_rfl) rfl (by simp [Value.oneCell']) ?_)
    refine bodyPost_ret (results_cell_row rfl _ _ G _ #[.int .i64 2, .int .i64 (-1)] _ _ rfl (setRow_heap _ G _ _ _ _ X4.out) Tryz.underlying75 rfl (by kernel_rfl)) rfl ⟨rfl, FIN.out⟩
/-- what the walk asks of the other range -/
structure OthR (w : World) (d o B E E2 : Nat) (l2 : List (Nat × Nat × List UInt8)) (s : Value) (a2 : Option Addr) (c2 : Nat) : Prop where
  at1 : ∀ u, Keep (RmS d s) w u → u.heap[d]? = w.heap[d]? → u.cell? ⟨o, 0, none⟩ = some (.int .u64 (E : Int)) ∧ u.cell? ⟨o, 1, none⟩ = some (.int .u64 (E2 : Int))
  row : ∀ u, Keep (RmS d s) w u → u.cell? ⟨d, 2, none⟩ = some s → u.cell? ⟨o, 2, none⟩ = some (.slice a2 l2.length c2) ∧ ∀ ad, a2 = some ad → ∀ j x, (ncells l2)[j]? = some x → u.cell? (ad.add j) = some x
  nil : a2 = none → c2 = 0 ∧ l2.length = 0
  h32 : ∀ x ∈ l2, x.2.2.length = 32
def StD4 (own : Nat → Option Nat) (w : World) (d B E base m : Nat) (xs : List Value) (v0 : Value) (B2 : Nat) : Prop :=
  ∃ s', OutV own w d 12 67 #[.int .u64 (B : Int), .int .u64 (E : Int), s'] ∧ GrownW own w 9 base 105 34 s' m xs v0 B2
def VQj (a a2 : Option Addr) (d o m c m2 c2 B E2 base B2 : Nat) (l l2 : List (Nat × Nat × List UInt8)) (oi : Nat) (v : Value) (own : Nat → Option Nat) (w : World) : Prop :=
  match oi with
  | 0 => v = .pointer (some ⟨d, 0, none⟩)
  | 1 => v = .pointer (some ⟨d, 0, none⟩)
  | 2 => v = .pointer (some ⟨d, 0, none⟩)
  | 3 => v = .pointer (some ⟨d, 2, none⟩)
  | 4 => v = .slice a m c
  | 5 => v = .pointer (some ⟨o, 0, none⟩)
  | 6 => v = .pointer (some ⟨o, 0, none⟩)
  | 7 => v = .pointer (some ⟨o, 2, none⟩)
  | 8 => v = .slice a2 m2 c2
  | 9 => GrownW own w 9 base 105 34 v (m + m2) (ncells l ++ ncells l2) (.slice a m c) B2
  | 10 => v = .pointer (some ⟨d, 0, none⟩)
  | 11 => v = .pointer (some ⟨d, 2, none⟩)
  | 12 => StD4 own w d B E2 base (m + m2) (ncells l ++ ncells l2) (.slice a m c) B2
  | _ => True
def VQjmk : Nat → Option Nat := fun _ => none
theorem VQj_mono (a a2 : Option Addr) (d o m c m2 c2 B E2 base B2 : Nat) (l l2 : List (Nat × Nat × List UInt8)) (oi oj : Nat) (v : Value) (own : Nat → Option Nat) (w : World) (own' : Nat → Option Nat) (w' : World) (hij : oi ≠ oj)  (hx0 : oi = 9 → oj = 12 → False) (h : VQj a a2 d o m c m2 c2 B E2 base B2 l l2 oj v own w) (r : Rel VQjmk oi own w own' w') : VQj a a2 d o m c m2 c2 B E2 base B2 l l2 oj v own' w' := by
  unfold VQj at h ⊢
  split at h
  · exact h
  · exact h
  · exact h
  · exact h
  · exact h
  · exact h
  · exact h
  · exact h
  · exact h
  · exact h.stable r hij
  · exact h
  · exact h
  · obtain ⟨s1, h1, h2⟩ := h; exact ⟨s1, h1.stable r hij, h2.stable r (fun e => hx0 e rfl)⟩
  · trivial

set_option maxHeartbeats 3200000 in
theorem rmjoin_any (base : Nat) (w : World) (d B E : Nat) (l : List (Nat × Nat × List UInt8)) (s : Value) (h : RmP base w d B E l s) (o E2 : Nat) (l2 : List (Nat × Nat × List UInt8)) (a2 : Option Addr) (c2 : Nat) (ho : OthR w d o B E E2 l2 s a2 c2) (hm : l.length + l2.length ≤ 1000) (hI : ∀ x ∈ l ++ l2, x.2.1 < 2 ^ 64) (hbase : base ≤ w.heap.size) :
    Calls Tryz.prog 21 #[.pointer (some ⟨d, 0, none⟩), .pointer (some ⟨o, 0, none⟩)] w fun e w' => e = .returned (.agg #[.int .i64 0, .int .i64 0]) ∧ SetR base w d B E2 (setlF (l.length + l2.length) (l ++ l2)) s w' := by
  have kb := er_al (Below.refl w.heap.size w) (.cells #[.int .i64 0, .int .i64 0] 75)
  have xG := heap_alloc_new w (.cells #[.int .i64 0, .int .i64 0] 75)
  have h2 := h.below kb
  have hlt0 := h.lt
  have hdb := h.hb
  obtain ⟨a, c, hs, -, -, -⟩ := own_shape h.row
  obtain ⟨m, hm2⟩ : ∃ m, m = l.length := ⟨_, rfl⟩
  obtain ⟨m2, hm3⟩ : ∃ m, m = l2.length := ⟨_, rfl⟩
  rw [← hm2] at hs
  subst hs
  have HM := Bx.mk hm2; have HM2 := Bx.mk hm3; have LM := Bx.mk hm; have HI := Bx.mk hI; have H32 := Bx.mk h.h32; have H322 := Bx.mk ho.h32; have HBD := Bx.mk h.bd; have HBS := Bx.mk hbase; have HLT := Bx.mk hlt0
  have NL := Bx.mk (show (ncells l2).length = m2 * 34 by rw [hm3]; exact ncells_length ho.h32)
  have NIL := Bx.mk (show a2 = none → c2 = 0 ∧ m2 = 0 by rw [hm3]; exact ho.nil)
  have OTH := Bx.mk ho.row
  rw [← hm3] at OTH
  have OT1 := Bx.mk (ho.at1)
  clear h hm hI hbase hlt0 ho
  go_enter Tryz.func21, Tryz.ntmps21
  go_upto_region 1 with (fail)
  change Code.wp _ _ _ _ (w.alloc (.cells #[.int .i64 0, .int .i64 0] 75))
  generalize w.alloc (.cells #[.int .i64 0, .int .i64 0] 75) = W at kb xG h2 ⊢
  obtain ⟨G, hG⟩ : ∃ G, G = w.heap.size := ⟨_, rfl⟩
  rw [← hG] at xG ⊢
  have HG := Bx.mk hG
  have GLT0 := Bx.mk (Array.getElem?_eq_some_iff.1 xG).1
  have DG := Bx.mk (show d < G by rw [hG]; exact HLT.out d (.inl rfl))
  have or0 := h2.row
  rw [← hm2] at or0
  have XD := Bx.mk hdb
  have KA := Bx.mk (Keep.of_below kb (RmS d (.slice a m c))); have SW0 := Bx.mk kb.size; have XH := Bx.mk h2.hb; have XG0 := Bx.mk xG; have OR0 := Bx.mk or0
  have HCO := Bx.mk (fun u (hu : Below W.heap.size W u) => And.intro (OT1.out u (KA.out.trans (Keep.of_below hu (RmS d (.slice a m c))) (fun _ _ h => h)) (((hu.block d (Array.getElem?_eq_some_iff.1 XH.out).1).trans XH.out).trans XD.out.symm)).1 (er_cellAt ((hu.block d (Array.getElem?_eq_some_iff.1 XH.out).1).trans XH.out) 1 _ rfl))
  have HNB := Bx.mk (show ((E : Int) == (E : Int)) = true from beq_self_eq_true _)
  clear kb xG h2 hG or0 hm2 hm3 hdb
  refine wp_region_own8 (n := 41) VQhmk (fun _ => none) (VQh d o E E false) (by kernel_rfl) (by kernel_rfl) rfl (fun _ _ => rfl) (fun j i hj _ => by cases hj) ?_ ?_ ?_
  · exact fun oi oj v own w own' w' hij _ h r => VQh_mono d o E E false oi oj v own w own' w' hij h r
  · intro oi o hi f u own hsame hsn hfr hlate hkeep8 hdep
    have hkeep := hkeep8 _ (.inl rfl)
    have hb6 := hsn.below (B := W.heap.size) (fun _ _ => rfl) (Nat.le_refl _)
    match oi, hi with
    | 0, hi =>
      cases (show some _ = some o from hi)
      have e1 : f.tmps.getD 1 undef = .pointer (some ⟨o, 0, none⟩) := hsame.slot 1 (fun i o h => invB2_not 1 (by kernel_rfl) h)
      clear hdep hsame hi hlate hfr hkeep
      exact .inl ⟨wanted_none rfl, showsO_move hsn rfl _ rfl e1⟩
    | 1, hi =>
      cases (show some _ = some o from hi)
      have e5 : (f.tmps.getD 5 undef) = .pointer (some ⟨o, 0, none⟩) := depO (V := (VQh d o E E false)) hdep 0 5 (by kernel_rfl) (by kernel_rfl)
      clear hdep hsame hi hlate hfr hkeep
      exact .inl ⟨wanted_none rfl, showsO_pure hsn rfl (.pointer (some ⟨o, 0, none⟩)) (by simp only [execOp, Act.eval]; go_simp) rfl⟩
    | 2, hi =>
      cases (show some _ = some o from hi)
      have e6 : (f.tmps.getD 6 undef) = .pointer (some ⟨o, 0, none⟩) := depO (V := (VQh d o E E false)) hdep 1 6 (by kernel_rfl) (by kernel_rfl)
      clear hdep hsame hi hlate hfr hkeep
      exact .inl ⟨wanted_none rfl, showsO_pure hsn rfl (.pointer (some ⟨o, 0, none⟩)) (by simp only [execOp, Act.eval]; go_simp) rfl⟩
    | 3, hi =>
      cases (show some _ = some o from hi)
      have e7 : (f.tmps.getD 7 undef) = .pointer (some ⟨o, 0, none⟩) := depO (V := (VQh d o E E false)) hdep 2 7 (by kernel_rfl) (by kernel_rfl)
      clear hdep hsame hi hlate hfr hkeep
      exact .inl ⟨wanted_none rfl, showsO_pure hsn rfl (.pointer (some ⟨o, 0, none⟩)) (by simp only [execOp, Act.eval]; go_simp) rfl⟩
    | 4, hi =>
      cases (show some _ = some o from hi)
      have e8 : (f.tmps.getD 8 undef) = .pointer (some ⟨o, 0, none⟩) := depO (V := (VQh d o E E false)) hdep 3 8 (by kernel_rfl) (by kernel_rfl)
      clear hdep hsame hi hlate hfr hkeep
      have c8 := (HCO.out u hb6).1
      exact .inl ⟨wanted_none rfl, showsO_pure hsn rfl (.int .u64 (E : Int)) (by simp only [execOp, Act.eval]; go_simp) rfl⟩
    | 5, hi =>
      cases (show some _ = some o from hi)
      have e0 : f.tmps.getD 0 undef = .pointer (some ⟨d, 0, none⟩) := hsame.slot 0 (fun i o h => invB2_not 0 (by kernel_rfl) h)
      clear hdep hsame hi hlate hfr hkeep
      exact .inl ⟨wanted_none rfl, showsO_move hsn rfl _ rfl e0⟩
    | 6, hi =>
      cases (show some _ = some o from hi)
      have e10 : (f.tmps.getD 10 undef) = .pointer (some ⟨d, 0, none⟩) := depO (V := (VQh d o E E false)) hdep 5 10 (by kernel_rfl) (by kernel_rfl)
      clear hdep hsame hi hlate hfr hkeep
      exact .inl ⟨wanted_none rfl, showsO_pure hsn rfl (.pointer (some ⟨d, 0, none⟩)) (by simp only [execOp, Act.eval]; go_simp) rfl⟩
    | 7, hi =>
      cases (show some _ = some o from hi)
      have e11 : (f.tmps.getD 11 undef) = .pointer (some ⟨d, 0, none⟩) := depO (V := (VQh d o E E false)) hdep 6 11 (by kernel_rfl) (by kernel_rfl)
      clear hdep hsame hi hlate hfr hkeep
      exact .inl ⟨wanted_none rfl, showsO_pure hsn rfl (.pointer (some ⟨d, 0, none⟩)) (by simp only [execOp, Act.eval]; go_simp) rfl⟩
    | 8, hi =>
      cases (show some _ = some o from hi)
      have e12 : (f.tmps.getD 12 undef) = .pointer (some ⟨d, 0, none⟩) := depO (V := (VQh d o E E false)) hdep 7 12 (by kernel_rfl) (by kernel_rfl)
      clear hdep hsame hi hlate hfr hkeep
      exact .inl ⟨wanted_none rfl, showsO_pure hsn rfl (.pointer (some ⟨d, 1, none⟩)) (by simp only [execOp, Act.eval]; go_simp) rfl⟩
    | 9, hi =>
      cases (show some _ = some o from hi)
      have e13 : (f.tmps.getD 13 undef) = .pointer (some ⟨d, 1, none⟩) := depO (V := (VQh d o E E false)) hdep 8 13 (by kernel_rfl) (by kernel_rfl)
      clear hdep hsame hi hlate hfr hkeep
      have c13 := (HCO.out u hb6).2
      exact .inl ⟨wanted_none rfl, showsO_pure hsn rfl (.int .u64 (E : Int)) (by simp only [execOp, Act.eval]; go_simp) rfl⟩
    | 10, hi =>
      cases (show some _ = some o from hi)
      have e9 : (f.tmps.getD 9 undef) = .int .u64 (E : Int) := depO (V := (VQh d o E E false)) hdep 4 9 (by kernel_rfl) (by kernel_rfl)
      have e14 : (f.tmps.getD 14 undef) = .int .u64 (E : Int) := depO (V := (VQh d o E E false)) hdep 9 14 (by kernel_rfl) (by kernel_rfl)
      clear hdep hsame hi hlate hfr hkeep
      have n1 := HNB.out
      exact .inl ⟨wanted_none rfl, showsO_pure hsn rfl (.bool false) (by simp only [execOp, Act.eval]; go_simp) rfl⟩
    | n + 11, hi => exact absurd hi (by simp)
  intro f W1 own hsame hsn hall
  have q5 : f.tmps.getD 5 undef = .pointer (some ⟨o, 0, none⟩) := finO (V := (VQh d o E E false)) hall 0 5 rfl
  have q6 : f.tmps.getD 6 undef = .pointer (some ⟨o, 0, none⟩) := finO (V := (VQh d o E E false)) hall 1 6 rfl
  have q7 : f.tmps.getD 7 undef = .pointer (some ⟨o, 0, none⟩) := finO (V := (VQh d o E E false)) hall 2 7 rfl
  have q8 : f.tmps.getD 8 undef = .pointer (some ⟨o, 0, none⟩) := finO (V := (VQh d o E E false)) hall 3 8 rfl
  have q9 : f.tmps.getD 9 undef = .int .u64 (E : Int) := finO (V := (VQh d o E E false)) hall 4 9 rfl
  have q10 : f.tmps.getD 10 undef = .pointer (some ⟨d, 0, none⟩) := finO (V := (VQh d o E E false)) hall 5 10 rfl
  have q11 : f.tmps.getD 11 undef = .pointer (some ⟨d, 0, none⟩) := finO (V := (VQh d o E E false)) hall 6 11 rfl
  have q12 : f.tmps.getD 12 undef = .pointer (some ⟨d, 0, none⟩) := finO (V := (VQh d o E E false)) hall 7 12 rfl
  have q13 : f.tmps.getD 13 undef = .pointer (some ⟨d, 1, none⟩) := finO (V := (VQh d o E E false)) hall 8 13 rfl
  have q14 : f.tmps.getD 14 undef = .int .u64 (E : Int) := finO (V := (VQh d o E E false)) hall 9 14 rfl
  have q15 : f.tmps.getD 15 undef = .bool false := finO (V := (VQh d o E E false)) hall 10 15 rfl
  obtain rfl := frame_eq hsame [(5, .pointer (some ⟨o, 0, none⟩)), (6, .pointer (some ⟨o, 0, none⟩)), (7, .pointer (some ⟨o, 0, none⟩)), (8, .pointer (some ⟨o, 0, none⟩)), (9, .int .u64 (E : Int)), (10, .pointer (some ⟨d, 0, none⟩)), (11, .pointer (some ⟨d, 0, none⟩)), (12, .pointer (some ⟨d, 0, none⟩)), (13, .pointer (some ⟨d, 1, none⟩)), (14, .int .u64 (E : Int)), (15, .bool false)] (by kernel_rfl) ⟨q5, q6, q7, q8, q9, q10, q11, q12, q13, q14, q15, trivial⟩
  clear hall hsame q5 q6 q7 q8 q9 q10 q11 q12 q13 q14 q15
  simp only [List.foldl, List.setIfInBounds_toArray, List.set_cons_succ, List.set_cons_zero]
  have hb2 := hsn.below (B := W.heap.size) (fun _ _ => rfl) (Nat.le_refl _)
  have KA1 := Bx.mk (KA.out.trans (Keep.of_below hb2 (RmS d (.slice a m c))) (fun _ _ h => h)); have SW1 := Bx.mk (Nat.le_trans SW0.out hb2.size)
  have XH1 := Bx.mk ((hb2.block d (Array.getElem?_eq_some_iff.1 XH.out).1).trans XH.out); have XG1 := Bx.mk ((hb2.block G (Array.getElem?_eq_some_iff.1 XG0.out).1).trans XG0.out)
  have OR1 := Bx.mk (own_keep OR0.out (Keep.of_below hb2 (fun _ => False)) (fun _ _ e => e))
  clear hsn hb2 KA SW0 XH XG0 OR0 HCO GLT0
  clear own
  have c21 := (OT1.out W1 KA1.out (XH1.out.trans XD.out.symm)).2
  have c1 := er_cellAt XH1.out 1 _ rfl
  have f1 := er_frozen XH1.out 1
  have XR2 := Bx.mk (two_setE XH1.out (.int .u64 (E2 : Int)))
  have kb3 := Keep.setCell W1 ⟨d, 1, none⟩ (.int .u64 (E2 : Int))
  have XG2' := Bx.mk ((kb3.block G (Array.getElem?_eq_some_iff.1 XG1.out).1 (fun e => by have e2 : G = d := e; have := DG.out; omega)).trans XG1.out)
  have OR2 := Bx.mk (own_keep OR1.out kb3 (fun j hj e => own_ne_blk OR1.out XH1.out (by decide) j hj e))
  have KW2 := Bx.mk (KA1.out.trans kb3 (fun _ _ h => .inl h))
  have SW2 := Bx.mk (Nat.le_trans SW1.out kb3.size)
  clear kb3 XH1 KA1 XG1 OR1 SW1
  go_upto_region 4 with (fail)
  clear c21 c1 f1
  generalize W1.setCell ⟨d, 1, none⟩ (.int .u64 (E2 : Int)) = W2 at XR2 XG2' OR2 KW2 SW2 ⊢
  have XR := XR2; have XG := XG2'; have OR := OR2; have KW := KW2; have SW := SW2
  clear XR2 XG2' OR2 KW2 SW2
  have RLT := Bx.mk (Array.getElem?_eq_some_iff.1 XR.out).1
  have GLT := Bx.mk (Array.getElem?_eq_some_iff.1 XG.out).1
  have RNB := Bx.mk (fun j (hj : (Value.slice a m c).ownBlock = some j) => own_ne_blk OR.out XR.out (by decide) j hj)
  have ONB := Bx.mk (show ∀ j, (Value.slice a m c).ownBlock = some j → j < G from fun j hj => by rw [HG.out]; exact HLT.out j (.inr hj))
  have HTP := Bx.mk (fun k' (hk' : W2.heap.size ≤ k') => ownBG_none (b := d) (v := .slice a m c) (i := 12) (j := 9) (k := k') (fun e => by have := ownsRow_lt OR.out _ e; omega) (by have := RLT.out; omega))
  have OT := Bx.mk (show ∀ u, Keep (RmS d (.slice a m c)) w u → u.cell? ⟨d, 2, none⟩ = some (.slice a m c) → u.cell? ⟨o, 2, none⟩ = some (.slice a2 m2 c2) ∧ ∀ ad, a2 = some ad → ∀ j x, (ncells l2)[j]? = some x → u.cell? (ad.add j) = some x from OTH.out)
  obtain ⟨i0, hi0, hz0, hz1, hz2⟩ := info_parts infoNz
  have RI := Bx.mk (And.intro hi0 (And.intro hz0 (And.intro hz1 hz2)))
  have Q1 := Bx.mk (show m + m2 ≤ maxLen by have := LM.out; have := HM.out; have := HM2.out; unfold maxLen; omega); have Q2 := Bx.mk (show (m + m2) * 48 ≤ 140737488355328 by have := LM.out; have := HM.out; have := HM2.out; omega)
  have QB := Bx.mk (show base ≤ W2.heap.size by have := HBS.out; have := SW.out; omega)
  clear hi0 hz0 hz1 hz2 OTH OT1
  refine wp_region_own8 (n := 41) VQjmk (ownBG d (.slice a m c) 12 9) (VQj a a2 d o m c m2 c2 B E2 base (W2.heap.size) l l2) (by kernel_rfl) (by kernel_rfl) rfl (fun k hk => HTP.out k hk) (fun j i hj _ => by cases hj) ?_ ?_ ?_
  · exact fun oi oj v own w own' w' hij hnd h r => VQj_mono a a2 d o m c m2 c2 B E2 base (W2.heap.size) l l2 oi oj v own w own' w' hij (by rintro rfl rfl; exact Bool.noConfusion (hnd.symm.trans (show depB _ 12 9 = true by kernel_rfl))) h r
  · intro oi o hi f u own hsame hsn hfr hlate hkeep8 hdep
    have hkeep := hkeep8 _ (.inl rfl)
    match oi, hi with
    | 0, hi =>
      cases (show some _ = some o from hi)
      have e0 : f.tmps.getD 0 undef = .pointer (some ⟨d, 0, none⟩) := hsame.slot 0 (fun i o h => invB2_not 0 (by kernel_rfl) h)
      clear hdep hsame hi hlate hfr hkeep
      exact .inl ⟨wanted_none rfl, showsO_move hsn rfl _ rfl e0⟩
    | 1, hi =>
      cases (show some _ = some o from hi)
      have e0 : f.tmps.getD 0 undef = .pointer (some ⟨d, 0, none⟩) := hsame.slot 0 (fun i o h => invB2_not 0 (by kernel_rfl) h)
      clear hdep hsame hi hlate hfr hkeep
      exact .inl ⟨wanted_none rfl, showsO_move hsn rfl _ rfl e0⟩
    | 2, hi =>
      cases (show some _ = some o from hi)
      have e27 : (f.tmps.getD 27 undef) = .pointer (some ⟨d, 0, none⟩) := depO (V := (VQj a a2 d o m c m2 c2 B E2 base (W2.heap.size) l l2)) hdep 1 27 (by kernel_rfl) (by kernel_rfl)
      clear hdep hsame hi hlate hfr hkeep
      exact .inl ⟨wanted_none rfl, showsO_pure hsn rfl (.pointer (some ⟨d, 0, none⟩)) (by simp only [execOp, Act.eval]; go_simp) rfl⟩
    | 3, hi =>
      cases (show some _ = some o from hi)
      have e28 : (f.tmps.getD 28 undef) = .pointer (some ⟨d, 0, none⟩) := depO (V := (VQj a a2 d o m c m2 c2 B E2 base (W2.heap.size) l l2)) hdep 2 28 (by kernel_rfl) (by kernel_rfl)
      clear hdep hsame hi hlate hfr hkeep
      exact .inl ⟨wanted_none rfl, showsO_pure hsn rfl (.pointer (some ⟨d, 2, none⟩)) (by simp only [execOp, Act.eval]; go_simp) rfl⟩
    | 4, hi =>
      cases (show some _ = some o from hi)
      have e29 : (f.tmps.getD 29 undef) = .pointer (some ⟨d, 2, none⟩) := depO (V := (VQj a a2 d o m c m2 c2 B E2 base (W2.heap.size) l l2)) hdep 3 29 (by kernel_rfl) (by kernel_rfl)
      clear hdep hsame hi hlate hfr hkeep
      have c16 := er_cellAt ((hkeep8 12 (.inr (by kernel_rfl)) d RLT.out (ownBG_one _ _ _ _)).trans XR.out) 2 _ rfl
      exact .inl ⟨wanted_none rfl, showsO_pure hsn rfl (.slice a m c) (by simp only [execOp, Act.eval]; go_simp) rfl⟩
    | 5, hi =>
      cases (show some _ = some o from hi)
      have e1 : f.tmps.getD 1 undef = .pointer (some ⟨o, 0, none⟩) := hsame.slot 1 (fun i o h => invB2_not 1 (by kernel_rfl) h)
      clear hdep hsame hi hlate hfr hkeep
      exact .inl ⟨wanted_none rfl, showsO_move hsn rfl _ rfl e1⟩
    | 6, hi =>
      cases (show some _ = some o from hi)
      have e31 : (f.tmps.getD 31 undef) = .pointer (some ⟨o, 0, none⟩) := depO (V := (VQj a a2 d o m c m2 c2 B E2 base (W2.heap.size) l l2)) hdep 5 31 (by kernel_rfl) (by kernel_rfl)
      clear hdep hsame hi hlate hfr hkeep
      exact .inl ⟨wanted_none rfl, showsO_pure hsn rfl (.pointer (some ⟨o, 0, none⟩)) (by simp only [execOp, Act.eval]; go_simp) rfl⟩
    | 7, hi =>
      cases (show some _ = some o from hi)
      have e32 : (f.tmps.getD 32 undef) = .pointer (some ⟨o, 0, none⟩) := depO (V := (VQj a a2 d o m c m2 c2 B E2 base (W2.heap.size) l l2)) hdep 6 32 (by kernel_rfl) (by kernel_rfl)
      clear hdep hsame hi hlate hfr hkeep
      exact .inl ⟨wanted_none rfl, showsO_pure hsn rfl (.pointer (some ⟨o, 2, none⟩)) (by simp only [execOp, Act.eval]; go_simp) rfl⟩
    | 8, hi =>
      cases (show some _ = some o from hi)
      have e33 : (f.tmps.getD 33 undef) = .pointer (some ⟨o, 2, none⟩) := depO (V := (VQj a a2 d o m c m2 c2 B E2 base (W2.heap.size) l l2)) hdep 7 33 (by kernel_rfl) (by kernel_rfl)
      clear hdep hsame hi hlate hfr hkeep
      have c34 := (OT.out u (KW.out.trans hsn.keepBG (fun _ _ h => h)) (er_cellAt ((hkeep8 12 (.inr (by kernel_rfl)) d RLT.out (ownBG_one _ _ _ _)).trans XR.out) 2 _ rfl)).1
      exact .inl ⟨wanted_none rfl, showsO_pure hsn rfl (.slice a2 m2 c2) (by simp only [execOp, Act.eval]; go_simp) rfl⟩
    | 9, hi =>
      cases (show some _ = some o from hi)
      have e30 : (f.tmps.getD 30 undef) = .slice a m c := depO (V := (VQj a a2 d o m c m2 c2 B E2 base (W2.heap.size) l l2)) hdep 4 30 (by kernel_rfl) (by kernel_rfl)
      have e34 : (f.tmps.getD 34 undef) = .slice a2 m2 c2 := depO (V := (VQj a a2 d o m c m2 c2 B E2 base (W2.heap.size) l l2)) hdep 8 34 (by kernel_rfl) (by kernel_rfl)
      clear hdep hsame hi hlate hfr
      have c35 := (OT.out u (KW.out.trans hsn.keepBG (fun _ _ h => h)) (er_cellAt ((hkeep8 12 (.inr (by kernel_rfl)) d RLT.out (ownBG_one _ _ _ _)).trans XR.out) 2 _ rfl)).2
      exact .inl ⟨wanted_none rfl, showsO_appendX hsn hkeep rfl (.tmp 30) (.tmp 34) 63 rfl base 105 i0 (.agg zerosN) 34 48 underNs RI.out.1 RI.out.2.1 RI.out.2.2.1 RI.out.2.2.2 rfl (by decide) (.slice a m c) m (ncells l) e30 OR.out (fun j hj => ownBG_two hj (RNB.out j hj)) a2 m2 c2 (ncells l2) e34 NIL.out NL.out c35 (ncells_oneC l2) Q1.out Q2.out QB.out (fun v' w' own' h hn => h)⟩
    | 10, hi =>
      cases (show some _ = some o from hi)
      have e26 : (f.tmps.getD 26 undef) = .pointer (some ⟨d, 0, none⟩) := depO (V := (VQj a a2 d o m c m2 c2 B E2 base (W2.heap.size) l l2)) hdep 0 26 (by kernel_rfl) (by kernel_rfl)
      clear hdep hsame hi hlate hfr hkeep
      exact .inl ⟨wanted_none rfl, showsO_pure hsn rfl (.pointer (some ⟨d, 0, none⟩)) (by simp only [execOp, Act.eval]; go_simp) rfl⟩
    | 11, hi =>
      cases (show some _ = some o from hi)
      have e36 : (f.tmps.getD 36 undef) = .pointer (some ⟨d, 0, none⟩) := depO (V := (VQj a a2 d o m c m2 c2 B E2 base (W2.heap.size) l l2)) hdep 10 36 (by kernel_rfl) (by kernel_rfl)
      clear hdep hsame hi hlate hfr hkeep
      exact .inl ⟨wanted_none rfl, showsO_pure hsn rfl (.pointer (some ⟨d, 2, none⟩)) (by simp only [execOp, Act.eval]; go_simp) rfl⟩
    | 12, hi =>
      cases (show some _ = some o from hi)
      have e35 : GrownW own u 9 base 105 34 (f.tmps.getD 35 undef) (m + m2) (ncells l ++ ncells l2) (.slice a m c) (W2.heap.size) := depO (V := (VQj a a2 d o m c m2 c2 B E2 base (W2.heap.size) l l2)) hdep 9 35 (by kernel_rfl) (by kernel_rfl)
      have e37 : (f.tmps.getD 37 undef) = .pointer (some ⟨d, 2, none⟩) := depO (V := (VQj a a2 d o m c m2 c2 B E2 base (W2.heap.size) l l2)) hdep 11 37 (by kernel_rfl) (by kernel_rfl)
      clear hdep hsame hi hlate hfr hkeep
      have hst := er_cellAt ((hkeep8 12 (.inl rfl) d RLT.out (ownBG_one _ _ _ _)).trans XR.out) 2 _ rfl
      have hfr2 := frozenC ((hkeep8 12 (.inl rfl) d RLT.out (ownBG_one _ _ _ _)).trans XR.out) 2
      obtain ⟨a1, c1, ev, _, _, _⟩ := own_shape e35.1.1
      rw [ev] at e35
      have hob : own d = some 12 := (hsn.owns d RLT.out).trans (ownBG_one _ _ _ _)
      have HQ : ∀ {v}, GrownW own u 9 base 105 34 v (m + m2) (ncells l ++ ncells l2) (.slice a m c) (W2.heap.size) → GrownW own u 9 base 105 34 v (m + m2) (ncells l ++ ncells l2) (.slice a m c) (W2.heap.size) := fun h => h
      exact .inl ⟨wanted_none rfl, showsO_store_cell hsn hkeep8 rfl d 2 #[.int .u64 (B : Int), .int .u64 (E2 : Int), .slice a m c] 67 XR.out (ownBG_one _ _ _ _) (.slice a1 (m + m2) c1) (by simp only [execOp, Act.eval]; go_simp) (fun h => ⟨_, h, grownW_setCellG (HQ e35) d 2 _ hob (by decide)⟩)⟩
    | n + 13, hi => exact absurd hi (by simp)
  · intro f W3 own hsame hsn hall
    have q26 : f.tmps.getD 26 undef = .pointer (some ⟨d, 0, none⟩) := finO (V := (VQj a a2 d o m c m2 c2 B E2 base (W2.heap.size) l l2)) hall 0 26 rfl
    have q27 : f.tmps.getD 27 undef = .pointer (some ⟨d, 0, none⟩) := finO (V := (VQj a a2 d o m c m2 c2 B E2 base (W2.heap.size) l l2)) hall 1 27 rfl
    have q28 : f.tmps.getD 28 undef = .pointer (some ⟨d, 0, none⟩) := finO (V := (VQj a a2 d o m c m2 c2 B E2 base (W2.heap.size) l l2)) hall 2 28 rfl
    have q29 : f.tmps.getD 29 undef = .pointer (some ⟨d, 2, none⟩) := finO (V := (VQj a a2 d o m c m2 c2 B E2 base (W2.heap.size) l l2)) hall 3 29 rfl
    have q30 : f.tmps.getD 30 undef = .slice a m c := finO (V := (VQj a a2 d o m c m2 c2 B E2 base (W2.heap.size) l l2)) hall 4 30 rfl
    have q31 : f.tmps.getD 31 undef = .pointer (some ⟨o, 0, none⟩) := finO (V := (VQj a a2 d o m c m2 c2 B E2 base (W2.heap.size) l l2)) hall 5 31 rfl
    have q32 : f.tmps.getD 32 undef = .pointer (some ⟨o, 0, none⟩) := finO (V := (VQj a a2 d o m c m2 c2 B E2 base (W2.heap.size) l l2)) hall 6 32 rfl
    have q33 : f.tmps.getD 33 undef = .pointer (some ⟨o, 2, none⟩) := finO (V := (VQj a a2 d o m c m2 c2 B E2 base (W2.heap.size) l l2)) hall 7 33 rfl
    have q34 : f.tmps.getD 34 undef = .slice a2 m2 c2 := finO (V := (VQj a a2 d o m c m2 c2 B E2 base (W2.heap.size) l l2)) hall 8 34 rfl
    have m35 := finO (V := (VQj a a2 d o m c m2 c2 B E2 base (W2.heap.size) l l2)) hall 9 35 rfl
    obtain ⟨r35, q35⟩ : ∃ r, f.tmps.getD 35 undef = r := ⟨_, rfl⟩
    rw [q35] at m35
    have q36 : f.tmps.getD 36 undef = .pointer (some ⟨d, 0, none⟩) := finO (V := (VQj a a2 d o m c m2 c2 B E2 base (W2.heap.size) l l2)) hall 10 36 rfl
    have q37 : f.tmps.getD 37 undef = .pointer (some ⟨d, 2, none⟩) := finO (V := (VQj a a2 d o m c m2 c2 B E2 base (W2.heap.size) l l2)) hall 11 37 rfl
    obtain ⟨s1, ⟨ob, hbb⟩, ⟨gw, gf⟩, gz⟩ := finN (V := (VQj a a2 d o m c m2 c2 B E2 base (W2.heap.size) l l2)) hall 12 rfl
    obtain rfl := frame_eq hsame [(26, .pointer (some ⟨d, 0, none⟩)), (27, .pointer (some ⟨d, 0, none⟩)), (28, .pointer (some ⟨d, 0, none⟩)), (29, .pointer (some ⟨d, 2, none⟩)), (30, .slice a m c), (31, .pointer (some ⟨o, 0, none⟩)), (32, .pointer (some ⟨o, 0, none⟩)), (33, .pointer (some ⟨o, 2, none⟩)), (34, .slice a2 m2 c2), (35, r35), (36, .pointer (some ⟨d, 0, none⟩)), (37, .pointer (some ⟨d, 2, none⟩))] (by kernel_rfl) ⟨q26, q27, q28, q29, q30, q31, q32, q33, q34, q35, q36, q37, trivial⟩
    clear hall hsame q26 q27 q28 q29 q30 q31 q32 q33 q34 q35 q36 q37
    simp only [List.foldl, List.setIfInBounds_toArray, List.set_cons_succ, List.set_cons_zero]
    have kbr := hsn.keepBG
    clear hsn m35 ob gf
    have SZ := Bx.mk (Nat.le_trans SW.out kbr.size); have S2 := Bx.mk kbr.size
    have GS1 := Bx.mk (show ∀ k, RmS d s1 k → k ≠ G from fun k hk e => by
      have h2 := DG.out; have h3 := GLT.out
      rcases hk with hk | hk
      · omega
      · rcases gz k hk with h4 | h4
        · have := ONB.out k h4; omega
        · omega)
    have GR := Bx.mk (show ∀ k, s1.ownBlock = some k → (Value.slice a m c).ownBlock = some k ∨ w.heap.size ≤ k from fun k hk => (gz k hk).imp id (fun h => Nat.le_trans SW.out h))
    have XG2 := Bx.mk ((kbr.block G GLT.out (fun hj => by
      have h2 := DG.out
      rcases hj with hj | hj
      · omega
      · have := ONB.out G hj; omega)).trans XG.out)
    have K2 := Bx.mk (KW.out.trans kbr (fun _ _ h => h))
    have RM := Bx.mk (show RmP base W3 d B E2 (l ++ l2) s1 from by
      refine ⟨hbb, HBD.out, ?_, fun q hq => ?_⟩
      · have h2 := HM.out; have h3 := HM2.out
        rw [List.length_append, ← h2, ← h3, ncells_appendC]
        exact gw
      · exact (List.mem_append.1 hq).elim (H32.out q) (H322.out q))
    have CS := Bx.mk (rmsettle_any base _ d B E2 (l ++ l2) s1 RM.out (by have := LM.out; rw [List.length_append]; omega) HI.out (by have := HBS.out; have := SZ.out; omega))
    have G2 := Bx.mk (Array.getElem?_eq_some_iff.1 XG2.out).1
    clear gw gz hbb kbr
    go_wp2_with fail
    refine CS.out.mono ?_
    rintro e w3 ⟨rfl, s2, hM, hK, hF⟩
    have X3 := Bx.mk ((hK.block G G2.out (fun hj => GS1.out G hj rfl)).trans XG2.out)
    have FIN : Bx (SetR base w d B E2 (setlF (l.length + l2.length) (l ++ l2)) (.slice a m c) (w3.setRow G #[.int .i64 0, .int .i64 0])) := ⟨by
      refine ⟨s2, ?_, ?_, ?_⟩
      · have h1 := hM.kept (Keep.setRow w3 G #[.int .i64 0, .int .i64 0]) (fun j hj e => by
          have e2 : j = G := e
          rcases hj with hj | hj
          · have h2 := DG.out; omega
          · rcases hF j hj with h4 | h4
            · exact GS1.out j (.inr h4) e2
            · have h5 := G2.out; omega)
        rw [List.length_append] at h1
        exact h1
      · refine (K2.out.trans hK (fun k hk hj => ?_)).trans (Keep.setRow w3 G _) (fun k hk e => ?_)
        · rcases hj with hj | hj
          · exact .inl hj
          · rcases GR.out k hj with h4 | h4
            · exact .inr h4
            · omega
        · have e2 : k = G := e
          have h1 := HG.out; omega
      · intro k hk
        rcases hF k hk with h4 | h4
        · exact GR.out k h4
        · right; have := SZ.out; omega⟩
    clear hM hK hF CS
    go_wp2_with (guard_target =~ wpList _ _ _ (⟨none, _, _, _, _, _⟩ :: _) _ _; refine wpList_store_row rfl 75 (.tmp 4) (.tmp 40) rfl G #[.int .i64 0, .int .i64 0] rfl rfl _ _ X3.out (by kernel_rfl) rfl (by simp [Value.oneCell']) ?_)
    refine bodyPost_ret (results_cell_row rfl _ _ G _ #[.int .i64 0, .int .i64 0] _ _ rfl (setRow_heap _ G _ _ _ _ X3.out) Tryz.underlying75 rfl (by kernel_rfl)) rfl ⟨rfl, FIN.out⟩
/-- another range -/
theorem RmP.other {base : Nat} {w : World} {d B E : Nat} {l : List (Nat × Nat × List UInt8)} {s : Value} (h : RmP base w d B E l s) {o E2 : Nat} {l2 : List (Nat × Nat × List UInt8)} {s2 : Value} (h2 : RmP base w o E E2 l2 s2) (hsep : ∀ k, RmS o s2 k → ¬ RmS d s k) : ∃ a2 c2, OthR w d o B E E2 l2 s a2 c2 := by
  obtain ⟨a2, c2, hs, -, -, hnil⟩ := own_shape h2.row
  subst hs
  refine ⟨a2, c2, fun u hu _ => ⟨er_cellAt (h2.kept hu hsep).hb 0 _ rfl, er_cellAt (h2.kept hu hsep).hb 1 _ rfl⟩, fun u hu _ => ?_, hnil, h2.h32⟩
  have h3 := h2.kept hu hsep
  exact ⟨er_cellAt h3.hb 2 _ rfl, row_src h3.row⟩
/-- an empty range with itself -/
theorem RmP.self {base : Nat} {w : World} {d B : Nat} {s : Value} (h : RmP base w d B B [] s) : ∃ a2 c2, OthR w d d B B B [] s a2 c2 := by
  obtain ⟨a2, c2, hs, -, -, hnil⟩ := own_shape h.row
  subst hs
  exact ⟨a2, c2, fun u _ e => ⟨er_cellAt (e.trans h.hb) 0 _ rfl, er_cellAt (e.trans h.hb) 1 _ rfl⟩, fun u hu e => ⟨e, fun ad _ j x hx => by simp [ncells] at hx⟩, hnil, fun x hx => by cases hx⟩
end Go.Proofs.YtgbafjmklefoiaaGreatDoor
