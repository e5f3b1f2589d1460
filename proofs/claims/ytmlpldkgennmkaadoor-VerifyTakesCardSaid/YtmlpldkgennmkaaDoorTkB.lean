/- cartularylaw18.path. -/
import Derived.Test.YtmlpldkgennmkaaDoorTkA
import Derived.Test.YtmlpldkgennmkaaDoorBna
namespace Go.Proofs.YtmlpldkgennmkaaDoor
set_option maxRecDepth 100000
open Go.RowKit
def VTp5 (Ba off L cap k m B : Nat) (y : List UInt8) (q : List (List UInt8)) (oi : Nat) (v : Value) (own : Nat → Option Nat) (w : World) : Prop :=
  match oi with
  | 0 => v = .int .i64 (m : Int)
  | 1 => v = .slice (some ⟨Ba, off, none⟩) L cap
  | 2 => v = .int .i64 (k : Int)
  | 3 => v = .slice (some ⟨Ba, off, none⟩) k cap
  | 4 => RowV own w v 10 B 24 32 q.length (hcells q)
  | 5 => v = .slice (some ⟨Ba, off, none⟩) L cap
  | 6 => v = .int .i64 (k : Int)
  | 7 => v = .slice (some ⟨Ba, off + k * 32, none⟩) (L - k) (cap - k)
  | 8 => v = .agg (ocells (y))
  | 9 => BuiltV own w v 1 24 (ocells y)
  | 10 => GrownV own w 10 B 24 32 v (q.length + 1) (hcells q ++ (ocells y).toList)
  | 11 => GrownV own w 10 B 24 32 v (q.length + 1) (hcells q ++ (ocells y).toList)
  | _ => True
def VTp5mk : Nat → Option Nat := fun j => match j with | 10 => some 4 | _ => none
def VTp5till : Nat → Option Nat := fun j => match j with | 4 => some 10 | _ => none
theorem VTp5_mono (Ba off L cap k m B : Nat) (y : List UInt8) (q : List (List UInt8)) (oi oj : Nat) (v : Value) (own : Nat → Option Nat) (w : World) (own' : Nat → Option Nat) (w' : World) (hij : oi ≠ oj)  (ht : VTp5till oj ≠ some oi) (hx0 : oi = 10 → oj = 11 → False) (h : VTp5 Ba off L cap k m B y q oj v own w) (r : Rel VTp5mk oi own w own' w') : VTp5 Ba off L cap k m B y q oj v own' w' := by
  unfold VTp5 at h ⊢
  split at h
  · exact h
  · exact h
  · exact h
  · exact h
  · exact h.stable r (fun e => ht (by rw [e]; rfl))
  · exact h
  · exact h
  · exact h
  · exact h
  · exact h.stable r
  · exact h.stable r hij
  · exact h.stable r (fun e => hx0 e rfl)
  · trivial

def VTp6 (Ba off L cap k m B : Nat) (y : List UInt8) (q : List (List UInt8)) (oi : Nat) (v : Value) (own : Nat → Option Nat) (w : World) : Prop :=
  match oi with
  | 0 => v = .int .i64 (m : Int)
  | 1 => v = .int .i64 (k : Int)
  | 2 => v = .int .i64 ((m - k : Nat) : Int)
  | 3 => v = .slice (some ⟨Ba, off, none⟩) L cap
  | 4 => v = .int .i64 (k : Int)
  | 5 => v = .slice (some ⟨Ba, off + k * 32, none⟩) (L - k) (cap - k)
  | 6 => RowV own w v 12 B 24 32 q.length (hcells q)
  | 7 => v = .slice (some ⟨Ba, off, none⟩) L cap
  | 8 => v = .int .i64 (k : Int)
  | 9 => v = .slice (some ⟨Ba, off, none⟩) k cap
  | 10 => v = .agg (ocells (y))
  | 11 => BuiltV own w v 1 24 (ocells y)
  | 12 => GrownV own w 12 B 24 32 v (q.length + 1) (hcells q ++ (ocells y).toList)
  | 13 => GrownV own w 12 B 24 32 v (q.length + 1) (hcells q ++ (ocells y).toList)
  | _ => True
def VTp6mk : Nat → Option Nat := fun j => match j with | 12 => some 6 | _ => none
def VTp6till : Nat → Option Nat := fun j => match j with | 6 => some 12 | _ => none
theorem VTp6_mono (Ba off L cap k m B : Nat) (y : List UInt8) (q : List (List UInt8)) (oi oj : Nat) (v : Value) (own : Nat → Option Nat) (w : World) (own' : Nat → Option Nat) (w' : World) (hij : oi ≠ oj)  (ht : VTp6till oj ≠ some oi) (hx0 : oi = 12 → oj = 13 → False) (h : VTp6 Ba off L cap k m B y q oj v own w) (r : Rel VTp6mk oi own w own' w') : VTp6 Ba off L cap k m B y q oj v own' w' := by
  unfold VTp6 at h ⊢
  split at h
  · exact h
  · exact h
  · exact h
  · exact h
  · exact h
  · exact h
  · exact h.stable r (fun e => ht (by rw [e]; rfl))
  · exact h
  · exact h
  · exact h
  · exact h
  · exact h.stable r
  · exact h.stable r hij
  · exact h.stable r (fun e => hx0 e rfl)
  · trivial

theorem pathP_40 {m : Nat} {l : List (List UInt8)} {n : Nat} (hl : l.length = n) (hm : m < n) (hn : n ≤ 1099511627776) : (pathP m l).length ≤ 63 := by
  rw [pathP_len n l m hl hm]
  exact hdirs_len 63 m n (by omega)
theorem subP_40 {o : Nat} {l : List (List UInt8)} {n : Nat} {b : Bool} (hl : l.length = n) (h0 : 0 < o) (ho : o ≤ n) (hn : n ≤ 1099511627776) : (subP o l b).length ≤ 64 := by
  obtain ⟨h, _, _⟩ := subP_law n l o b (mthP (l.take o)) hl h0 ho (fun _ => rfl)
  unfold SubOk at h
  have := hsdirs_len 63 o n (by omega)
  split at h <;> omega
set_option maxHeartbeats 3200000 in
theorem path_any (A : Nat → Addr) (L : Nat) : ∀ (w : World) (m : Nat) (ad : Option Addr) (n cap : Nat) (l : List (List UInt8)), l.length = L → m < L → L ≤ 1099511627776 → Hss w (.slice ad n cap) l → Hs A w →
    Calls Tryd.prog 26 #[.int .i64 (m : Int), .slice ad n cap] w fun e w' => ∃ v, e = .returned v ∧ w'.ownsRow w.heap.size 24 32 v (pathP m l).length (hcells (pathP m l)) ∧ Below w.heap.size w w' := by
  induction L using Nat.strongRecOn with
  | _ L ih =>
    intro w m ad n cap l hlm hmL hL hH hT
    obtain ⟨_, c', e1, hc1, hc2⟩ := hH.len
    have hcc : cap = c' := by cases e1; rfl
    subst hcc
    have hn : n = l.length := by cases e1; rfl
    subst hn
    obtain ⟨i0, hi, hz0, hz1, hz2⟩ := info_parts infoHh
    have RI := Bx.mk (And.intro hi (And.intro hz0 (And.intro hz1 hz2)))
    rw [hlm] at hc1 hH ⊢
    have HHS := Bx.mk hH; have HT := Bx.mk hT; have LC := Bx.mk hc1; have CM := Bx.mk hc2; have HLM := Bx.mk hlm; have IHH := Bx.mk ih; have HM40 := Bx.mk hL
    clear e1 hH hT hc1 hc2 ih hL hlm hi hz0 hz1 hz2
    go_enter Tryd.func26, Tryd.ntmps26
    by_cases h1 : L = 1
    · subst h1
      have HV := Bx.mk (pathP_small (m := m) (l := l) (by rw [HLM.out]; omega))
      go_wp2_with fail
      go_ret
      exact ⟨_, rfl, by rw [HV.out]; exact ⟨rfl, .inl ⟨rfl, rfl⟩⟩, Below.refl _ _⟩
    · have e1 : ¬ (L : Int) = 1 := by omega
      have e1' : ((L : Int) == 1) = false := beq_eq_false_iff_ne.2 e1
      have e1n : (L == 1) = false := beq_eq_false_iff_ne.2 (by omega)
      have h2 : 2 ≤ L := by omega
      obtain ⟨g1, g2, g3⟩ := half_pos h2
      obtain ⟨hj1, hj2, hj3, Ba, off, rfl, hBl, hj4, hj5⟩ := HHS.out.at 0 (by rw [HLM.out]; omega)
      clear hj1 hj2 hj3 hj4 hj5
      obtain ⟨B, hB⟩ : ∃ B, B = w.heap.size := ⟨_, rfl⟩
      have HB0 := Bx.mk hB
      clear hB
      by_cases hlt : m < half L
      · have htk := HHS.out.take (half L) (by rw [HLM.out]; omega)
        have hdr := Hss.drop HHS.out (half L) (by rw [HLM.out]; omega)
        have l1 : (l.take (half L)).length = half L := by rw [List.length_take, HLM.out]; omega
        have l2 : (l.drop (half L)).length = L - half L := by rw [List.length_drop, HLM.out]
        have hv0 := pathP_lt (m := m) (l := l) (by rw [HLM.out]; exact h2) (by rw [HLM.out]; exact hlt)
        rw [HLM.out] at hv0
        have y32 := mthP_length _ _ (Nat.le_refl _) hdr.1
        have hh := fun u => half18_any u L h2 HM40.out
        have cy : ∀ u, Below w.heap.size w u → _ := fun u hu => mth_any A (L - half L) u (some ⟨Ba, off + half L * 32, none⟩) (L - half L) (cap - half L) (l.drop (half L)) l2 (by omega) (by have := HM40.out; omega) (hdr.below hu) (HT.out.below hu)
        have cq : ∀ u, Below w.heap.size w u → _ := fun u hu => IHH.out (half L) (by omega) u m (some ⟨Ba, off, none⟩) (half L) cap (l.take (half L)) l1 hlt (by have := HM40.out; omega) (htk.below hu) (HT.out.below hu)
        have ql := pathP_40 l1 hlt (by have := HM40.out; omega)
        obtain ⟨y, hy⟩ : ∃ y, y = mthP (l.drop (half L)) := ⟨_, rfl⟩
        obtain ⟨q, hq⟩ : ∃ q, q = pathP m (l.take (half L)) := ⟨_, rfl⟩
        rw [← hy] at cy y32 hv0; rw [← hq] at cq hv0 ql
        clear hy hq
        generalize half L = k at *
        simp only [hv_agg] at cy
        have CQ := Bx.mk cq; have CY := Bx.mk cy; have HF := Bx.mk hh; have HV := Bx.mk hv0; have KL := Bx.mk g2; have YL := Bx.mk y32; have QL := Bx.mk (show q.length ≤ 64 by omega)
        clear cq cy hh hv0 htk hdr y32 l1 l2 hBl g3 ql
        have hx : (m : Int) < (k : Int) := by omega
        go_upto_region 5 with (go_at_call 40; refine (HF.out _).mono ?_; rintro e w' ⟨rfl, rfl⟩)
        clear e1 e1' e1n HF hx
        refine wp_region_own6 VTp5till (n := 39) VTp5mk (fun _ => none) (VTp5 Ba off L cap k m B y q) (by kernel_rfl) (by kernel_rfl) rfl (fun _ _ => rfl) (fun _ _ _ _ h => by cases h) ?_ ?_ ?_
        · exact fun oi oj v own w own' w' hij hnd ht h r => VTp5_mono Ba off L cap k m B y q oi oj v own w own' w' hij ht (by rintro rfl rfl; exact Bool.noConfusion (hnd.symm.trans (show depB _ 11 10 = true by kernel_rfl))) h r
        · intro oi o hi f u own hsame hsn hfr hlate hkeep hdep
          have hb6 := hsn.below (B := w.heap.size) (fun _ _ => rfl) (Nat.le_refl _)
          have hbw : Below w.heap.size w u := hb6
          match oi, hi with
          | 0, hi =>
            cases (show some _ = some o from hi)
            have e0 : f.tmps.getD 0 undef = .int .i64 (m : Int) := hsame.slot 0 (fun i o h => invB2_not 0 (by kernel_rfl) h)
            clear hdep hsame hi hlate hfr hkeep
            exact .inl ⟨wanted_none rfl, showsO_move hsn rfl _ rfl e0⟩
          | 1, hi =>
            cases (show some _ = some o from hi)
            have e1 : f.tmps.getD 1 undef = .slice (some ⟨Ba, off, none⟩) L cap := hsame.slot 1 (fun i o h => invB2_not 1 (by kernel_rfl) h)
            clear hdep hsame hi hlate hfr hkeep
            exact .inl ⟨wanted_none rfl, showsO_move hsn rfl _ rfl e1⟩
          | 2, hi =>
            cases (show some _ = some o from hi)
            have e5 : f.tmps.getD 5 undef = .int .i64 (k : Int) := hsame.slot 5 (fun i o h => invB2_not 5 (by kernel_rfl) h)
            clear hdep hsame hi hlate hfr hkeep
            exact .inl ⟨wanted_none rfl, showsO_move hsn rfl _ rfl e5⟩
          | 3, hi =>
            cases (show some _ = some o from hi)
            have e16 : (f.tmps.getD 16 undef) = .slice (some ⟨Ba, off, none⟩) L cap := depT (V := (VTp5 Ba off L cap k m B y q)) hdep 1 16 (by kernel_rfl) (by kernel_rfl) (.inl rfl)
            have e17 : (f.tmps.getD 17 undef) = .int .i64 (k : Int) := depT (V := (VTp5 Ba off L cap k m B y q)) hdep 2 17 (by kernel_rfl) (by kernel_rfl) (.inl rfl)
            clear hdep hsame hi hlate hfr hkeep
            have h1 : (0 : Int) ≤ (k : Int) := by omega
            have h2 : (k : Int) ≤ (cap : Int) := by have := KL.out; have := LC.out; omega
            exact .inl ⟨wanted_none rfl, showsO_pure hsn rfl (.slice (some ⟨Ba, off, none⟩) k cap) (by simp only [execOp, Act.eval]; go_simp) rfl⟩
          | 4, hi =>
            cases (show some _ = some o from hi)
            have e15 : (f.tmps.getD 15 undef) = .int .i64 (m : Int) := depT (V := (VTp5 Ba off L cap k m B y q)) hdep 0 15 (by kernel_rfl) (by kernel_rfl) (.inl rfl)
            have e18 : (f.tmps.getD 18 undef) = .slice (some ⟨Ba, off, none⟩) k cap := depT (V := (VTp5 Ba off L cap k m B y q)) hdep 3 18 (by kernel_rfl) (by kernel_rfl) (.inl rfl)
            clear hdep hsame hi hlate hfr hkeep
            exact .inl ⟨wanted_none rfl, showsO_callRow hsn rfl 26 #[.int .i64 (m : Int), .slice (some ⟨Ba, off, none⟩) k cap] (by simp only [execOp, Act.eval]; go_simp) 10 rfl B 24 32 q.length (hcells q) (by rw [HB0.out]; exact hsn.size) (CQ.out u hbw) (fun _ _ _ h => h)⟩
          | 5, hi =>
            cases (show some _ = some o from hi)
            have e1 : f.tmps.getD 1 undef = .slice (some ⟨Ba, off, none⟩) L cap := hsame.slot 1 (fun i o h => invB2_not 1 (by kernel_rfl) h)
            clear hdep hsame hi hlate hfr hkeep
            exact .inl ⟨wanted_none rfl, showsO_move hsn rfl _ rfl e1⟩
          | 6, hi =>
            cases (show some _ = some o from hi)
            have e5 : f.tmps.getD 5 undef = .int .i64 (k : Int) := hsame.slot 5 (fun i o h => invB2_not 5 (by kernel_rfl) h)
            clear hdep hsame hi hlate hfr hkeep
            exact .inl ⟨wanted_none rfl, showsO_move hsn rfl _ rfl e5⟩
          | 7, hi =>
            cases (show some _ = some o from hi)
            have e20 : (f.tmps.getD 20 undef) = .slice (some ⟨Ba, off, none⟩) L cap := depT (V := (VTp5 Ba off L cap k m B y q)) hdep 5 20 (by kernel_rfl) (by kernel_rfl) (.inl rfl)
            have e21 : (f.tmps.getD 21 undef) = .int .i64 (k : Int) := depT (V := (VTp5 Ba off L cap k m B y q)) hdep 6 21 (by kernel_rfl) (by kernel_rfl) (.inl rfl)
            clear hdep hsame hi hlate hfr hkeep
            have h1 : (0 : Int) ≤ (k : Int) := by omega
            have h2 : (k : Int) ≤ (L : Int) := by have := KL.out; omega
            have h3 : ¬ cap = k := by have := KL.out; have := LC.out; omega
            have h4 : ¬ (cap : Int) = (k : Int) := by have := KL.out; have := LC.out; omega
            have h5 : ¬ (cap - k = 0) := by have := KL.out; have := LC.out; omega
            have h6 : ¬ (cap : Int) - (k : Int) = 0 := by have := KL.out; have := LC.out; omega
            exact .inl ⟨wanted_none rfl, showsO_pure hsn rfl (.slice (some ⟨Ba, off + k * 32, none⟩) (L - k) (cap - k)) (by simp only [execOp, Act.eval]; go_simp) rfl⟩
          | 8, hi =>
            cases (show some _ = some o from hi)
            have e22 : (f.tmps.getD 22 undef) = .slice (some ⟨Ba, off + k * 32, none⟩) (L - k) (cap - k) := depT (V := (VTp5 Ba off L cap k m B y q)) hdep 7 22 (by kernel_rfl) (by kernel_rfl) (.inl rfl)
            clear hdep hsame hi hlate hfr hkeep
            have c := CY.out u hbw
            exact .inl ⟨wanted_none rfl, showsO_call1 hsn rfl 25 #[.slice (some ⟨Ba, off + k * 32, none⟩) (L - k) (cap - k)] (by simp only [execOp, Act.eval]; go_simp) (c) (fun _ => rfl)⟩
          | 9, hi =>
            cases (show some _ = some o from hi)
            have e23 : (f.tmps.getD 23 undef) = .agg (ocells (y)) := depT (V := (VTp5 Ba off L cap k m B y q)) hdep 8 23 (by kernel_rfl) (by kernel_rfl) (.inl rfl)
            clear hdep hsame hi hlate hfr hkeep
            exact .inl ⟨wanted_none rfl, showsO_built hsn rfl 1 24 (ocells y) (run_bs_one u (.tmp 23) rfl y YL.out e23) (fun h => h)⟩
          | 10, hi =>
            cases (show some _ = some o from hi)
            have e19 : RowV own u (f.tmps.getD 19 undef) 10 B 24 32 q.length (hcells q) := depT (V := (VTp5 Ba off L cap k m B y q)) hdep 4 19 (by kernel_rfl) (by kernel_rfl) (.inr rfl)
            have e24 : BuiltV own u (f.tmps.getD 24 undef) 1 24 (ocells y) := depT (V := (VTp5 Ba off L cap k m B y q)) hdep 9 24 (by kernel_rfl) (by kernel_rfl) (.inl rfl)
            clear hdep hsame hi hlate hfr
            exact .inl ⟨wanted_none rfl, showsO_appendRow hsn rfl (.tmp 19) (.tmp 24) 25 rfl B 24 i0 (.agg zeros32) 32 32 underHs RI.out.1 RI.out.2.1 RI.out.2.2.1 RI.out.2.2.2 rfl (by decide) q.length (hcells q) e19 e24 (by rw [ocells_size, YL.out]) (ocells_one _) (by have := QL.out; unfold maxLen; omega) (by have := QL.out; omega) (by rw [HB0.out]; exact Nat.le_refl _) (fun _ _ _ h => h)⟩
          | 11, hi =>
            cases (show some _ = some o from hi)
            have e25 : GrownV own u 10 B 24 32 (f.tmps.getD 25 undef) (q.length + 1) (hcells q ++ (ocells y).toList) := depT (V := (VTp5 Ba off L cap k m B y q)) hdep 10 25 (by kernel_rfl) (by kernel_rfl) (.inl rfl)
            clear hdep hsame hi hlate hfr hkeep
            exact .inl ⟨wanted_none rfl, showsO_assign hsn rfl _ rfl e25⟩
          | n + 12, hi => exact absurd hi (by simp)
        · intro f u own hsame hsn hall
          have hb6 := hsn.below (B := w.heap.size) (fun _ _ => rfl) (Nat.le_refl _)
          have q15 : f.tmps.getD 15 undef = .int .i64 (m : Int) := (finT (V := (VTp5 Ba off L cap k m B y q)) hall 0 15 rfl rfl)
          have q16 : f.tmps.getD 16 undef = .slice (some ⟨Ba, off, none⟩) L cap := (finT (V := (VTp5 Ba off L cap k m B y q)) hall 1 16 rfl rfl)
          have q17 : f.tmps.getD 17 undef = .int .i64 (k : Int) := (finT (V := (VTp5 Ba off L cap k m B y q)) hall 2 17 rfl rfl)
          have q18 : f.tmps.getD 18 undef = .slice (some ⟨Ba, off, none⟩) k cap := (finT (V := (VTp5 Ba off L cap k m B y q)) hall 3 18 rfl rfl)
          obtain ⟨r19, q19⟩ : ∃ r, f.tmps.getD 19 undef = r := ⟨_, rfl⟩
          have q20 : f.tmps.getD 20 undef = .slice (some ⟨Ba, off, none⟩) L cap := (finT (V := (VTp5 Ba off L cap k m B y q)) hall 5 20 rfl rfl)
          have q21 : f.tmps.getD 21 undef = .int .i64 (k : Int) := (finT (V := (VTp5 Ba off L cap k m B y q)) hall 6 21 rfl rfl)
          have q22 : f.tmps.getD 22 undef = .slice (some ⟨Ba, off + k * 32, none⟩) (L - k) (cap - k) := (finT (V := (VTp5 Ba off L cap k m B y q)) hall 7 22 rfl rfl)
          have q23 : f.tmps.getD 23 undef = .agg (ocells (y)) := (finT (V := (VTp5 Ba off L cap k m B y q)) hall 8 23 rfl rfl)
          obtain ⟨g24, q24, o24, m24⟩ : BuiltV own u (f.tmps.getD 24 undef) 1 24 (ocells y) := (finT (V := (VTp5 Ba off L cap k m B y q)) hall 9 24 rfl rfl)
          have m25 := (finT (V := (VTp5 Ba off L cap k m B y q)) hall 10 25 rfl rfl)
          obtain ⟨r25, q25⟩ : ∃ r, f.tmps.getD 25 undef = r := ⟨_, rfl⟩
          rw [q25] at m25
          have m4 := (finT (V := (VTp5 Ba off L cap k m B y q)) hall 11 4 rfl rfl)
          obtain ⟨r4, q4⟩ : ∃ r, f.tmps.getD 4 undef = r := ⟨_, rfl⟩
          rw [q4] at m4
          obtain rfl := frame_eq hsame [(15, .int .i64 (m : Int)), (16, .slice (some ⟨Ba, off, none⟩) L cap), (17, .int .i64 (k : Int)), (18, .slice (some ⟨Ba, off, none⟩) k cap), (19, r19), (20, .slice (some ⟨Ba, off, none⟩) L cap), (21, .int .i64 (k : Int)), (22, .slice (some ⟨Ba, off + k * 32, none⟩) (L - k) (cap - k)), (23, .agg (ocells (y))), (24, .slice (some ⟨g24, 0, none⟩) 1 1), (25, r25), (4, r4)] (by kernel_rfl) ⟨q15, q16, q17, q18, q19, q20, q21, q22, q23, q24, q25, q4, trivial⟩
          clear hall hsame q15 q16 q17 q18 q19 q20 q21 q22 q23 q24 q25 q4
          simp only [List.foldl, List.setIfInBounds_toArray, List.set_cons_succ, List.set_cons_zero]
          have hrow := m4.1
          rw [hcells_push] at hrow
          obtain ⟨a9, c9, rfl, _, _, _⟩ := own_shape hrow
          have HR := Bx.mk hrow; have HB := Bx.mk hb6
          clear hb6 hsn hrow m4 m25
          go_wp2_with fail
          go_ret
          exact ⟨_, rfl, by rw [HV.out, List.length_append, List.length_singleton, ← HB0.out]; exact HR.out, HB.out⟩
      · have htk := HHS.out.take (half L) (by rw [HLM.out]; omega)
        have hdr := Hss.drop HHS.out (half L) (by rw [HLM.out]; omega)
        have l1 : (l.take (half L)).length = half L := by rw [List.length_take, HLM.out]; omega
        have l2 : (l.drop (half L)).length = L - half L := by rw [List.length_drop, HLM.out]
        have hv0 := pathP_ge (m := m) (l := l) (by rw [HLM.out]; exact h2) (by rw [HLM.out]; exact hlt)
        rw [HLM.out] at hv0
        have y32 := mthP_length _ _ (Nat.le_refl _) htk.1
        have hh := fun u => half18_any u L h2 HM40.out
        have cy : ∀ u, Below w.heap.size w u → _ := fun u hu => mth_any A (half L) u (some ⟨Ba, off, none⟩) (half L) cap (l.take (half L)) l1 (by omega) (by have := HM40.out; omega) (htk.below hu) (HT.out.below hu)
        have cq : ∀ u, Below w.heap.size w u → _ := fun u hu => IHH.out (L - half L) (by omega) u (m - half L) (some ⟨Ba, off + half L * 32, none⟩) (L - half L) (cap - half L) (l.drop (half L)) l2 (by omega) (by have := HM40.out; omega) (hdr.below hu) (HT.out.below hu)
        have ql := pathP_40 (m := m - half L) l2 (by omega) (by have := HM40.out; omega)
        obtain ⟨y, hy⟩ : ∃ y, y = mthP (l.take (half L)) := ⟨_, rfl⟩
        obtain ⟨q, hq⟩ : ∃ q, q = pathP (m - half L) (l.drop (half L)) := ⟨_, rfl⟩
        rw [← hy] at cy y32 hv0; rw [← hq] at cq hv0 ql
        clear hy hq
        generalize half L = k at *
        simp only [hv_agg] at cy
        have CQ := Bx.mk cq; have CY := Bx.mk cy; have HF := Bx.mk hh; have HV := Bx.mk hv0; have KL := Bx.mk g2; have YL := Bx.mk y32; have QL := Bx.mk (show q.length ≤ 64 by omega)
        clear cq cy hh hv0 htk hdr y32 l1 l2 hBl g3 ql
        have hx : ¬ (m : Int) < (k : Int) := by omega
        have hx2 : decide (m < k) = false := decide_eq_false hlt
        have d1 : IntKind.i64.wrap ((m : Int) - (k : Int)) = ((m - k : Nat) : Int) := by have := HM40.out; simp [IntKind.wrap, IntKind.bits, IntKind.signed]; omega
        have D1 := Bx.mk d1
        clear d1
        go_upto_region 6 with (go_at_call 40; refine (HF.out _).mono ?_; rintro e w' ⟨rfl, rfl⟩)
        clear e1 e1' e1n HF hx hx2
        refine wp_region_own6 VTp6till (n := 39) VTp6mk (fun _ => none) (VTp6 Ba off L cap k m B y q) (by kernel_rfl) (by kernel_rfl) rfl (fun _ _ => rfl) (fun _ _ _ _ h => by cases h) ?_ ?_ ?_
        · exact fun oi oj v own w own' w' hij hnd ht h r => VTp6_mono Ba off L cap k m B y q oi oj v own w own' w' hij ht (by rintro rfl rfl; exact Bool.noConfusion (hnd.symm.trans (show depB _ 13 12 = true by kernel_rfl))) h r
        · intro oi o hi f u own hsame hsn hfr hlate hkeep hdep
          have hb6 := hsn.below (B := w.heap.size) (fun _ _ => rfl) (Nat.le_refl _)
          have hbw : Below w.heap.size w u := hb6
          match oi, hi with
          | 0, hi =>
            cases (show some _ = some o from hi)
            have e0 : f.tmps.getD 0 undef = .int .i64 (m : Int) := hsame.slot 0 (fun i o h => invB2_not 0 (by kernel_rfl) h)
            clear hdep hsame hi hlate hfr hkeep
            exact .inl ⟨wanted_none rfl, showsO_move hsn rfl _ rfl e0⟩
          | 1, hi =>
            cases (show some _ = some o from hi)
            have e5 : f.tmps.getD 5 undef = .int .i64 (k : Int) := hsame.slot 5 (fun i o h => invB2_not 5 (by kernel_rfl) h)
            clear hdep hsame hi hlate hfr hkeep
            exact .inl ⟨wanted_none rfl, showsO_move hsn rfl _ rfl e5⟩
          | 2, hi =>
            cases (show some _ = some o from hi)
            have e26 : (f.tmps.getD 26 undef) = .int .i64 (m : Int) := depT (V := (VTp6 Ba off L cap k m B y q)) hdep 0 26 (by kernel_rfl) (by kernel_rfl) (.inl rfl)
            have e27 : (f.tmps.getD 27 undef) = .int .i64 (k : Int) := depT (V := (VTp6 Ba off L cap k m B y q)) hdep 1 27 (by kernel_rfl) (by kernel_rfl) (.inl rfl)
            clear hdep hsame hi hlate hfr hkeep
            have d1 := D1.out
            exact .inl ⟨wanted_none rfl, showsO_pure hsn rfl (.int .i64 ((m - k : Nat) : Int)) (by simp only [execOp, Act.eval]; go_simp) rfl⟩
          | 3, hi =>
            cases (show some _ = some o from hi)
            have e1 : f.tmps.getD 1 undef = .slice (some ⟨Ba, off, none⟩) L cap := hsame.slot 1 (fun i o h => invB2_not 1 (by kernel_rfl) h)
            clear hdep hsame hi hlate hfr hkeep
            exact .inl ⟨wanted_none rfl, showsO_move hsn rfl _ rfl e1⟩
          | 4, hi =>
            cases (show some _ = some o from hi)
            have e5 : f.tmps.getD 5 undef = .int .i64 (k : Int) := hsame.slot 5 (fun i o h => invB2_not 5 (by kernel_rfl) h)
            clear hdep hsame hi hlate hfr hkeep
            exact .inl ⟨wanted_none rfl, showsO_move hsn rfl _ rfl e5⟩
          | 5, hi =>
            cases (show some _ = some o from hi)
            have e29 : (f.tmps.getD 29 undef) = .slice (some ⟨Ba, off, none⟩) L cap := depT (V := (VTp6 Ba off L cap k m B y q)) hdep 3 29 (by kernel_rfl) (by kernel_rfl) (.inl rfl)
            have e30 : (f.tmps.getD 30 undef) = .int .i64 (k : Int) := depT (V := (VTp6 Ba off L cap k m B y q)) hdep 4 30 (by kernel_rfl) (by kernel_rfl) (.inl rfl)
            clear hdep hsame hi hlate hfr hkeep
            have h1 : (0 : Int) ≤ (k : Int) := by omega
            have h2 : (k : Int) ≤ (L : Int) := by have := KL.out; omega
            have h3 : ¬ cap = k := by have := KL.out; have := LC.out; omega
            have h4 : ¬ (cap : Int) = (k : Int) := by have := KL.out; have := LC.out; omega
            have h5 : ¬ (cap - k = 0) := by have := KL.out; have := LC.out; omega
            have h6 : ¬ (cap : Int) - (k : Int) = 0 := by have := KL.out; have := LC.out; omega
            exact .inl ⟨wanted_none rfl, showsO_pure hsn rfl (.slice (some ⟨Ba, off + k * 32, none⟩) (L - k) (cap - k)) (by simp only [execOp, Act.eval]; go_simp) rfl⟩
          | 6, hi =>
            cases (show some _ = some o from hi)
            have e28 : (f.tmps.getD 28 undef) = .int .i64 ((m - k : Nat) : Int) := depT (V := (VTp6 Ba off L cap k m B y q)) hdep 2 28 (by kernel_rfl) (by kernel_rfl) (.inl rfl)
            have e31 : (f.tmps.getD 31 undef) = .slice (some ⟨Ba, off + k * 32, none⟩) (L - k) (cap - k) := depT (V := (VTp6 Ba off L cap k m B y q)) hdep 5 31 (by kernel_rfl) (by kernel_rfl) (.inl rfl)
            clear hdep hsame hi hlate hfr hkeep
            exact .inl ⟨wanted_none rfl, showsO_callRow hsn rfl 26 #[.int .i64 ((m - k : Nat) : Int), .slice (some ⟨Ba, off + k * 32, none⟩) (L - k) (cap - k)] (by simp only [execOp, Act.eval]; go_simp) 12 rfl B 24 32 q.length (hcells q) (by rw [HB0.out]; exact hsn.size) (CQ.out u hbw) (fun _ _ _ h => h)⟩
          | 7, hi =>
            cases (show some _ = some o from hi)
            have e1 : f.tmps.getD 1 undef = .slice (some ⟨Ba, off, none⟩) L cap := hsame.slot 1 (fun i o h => invB2_not 1 (by kernel_rfl) h)
            clear hdep hsame hi hlate hfr hkeep
            exact .inl ⟨wanted_none rfl, showsO_move hsn rfl _ rfl e1⟩
          | 8, hi =>
            cases (show some _ = some o from hi)
            have e5 : f.tmps.getD 5 undef = .int .i64 (k : Int) := hsame.slot 5 (fun i o h => invB2_not 5 (by kernel_rfl) h)
            clear hdep hsame hi hlate hfr hkeep
            exact .inl ⟨wanted_none rfl, showsO_move hsn rfl _ rfl e5⟩
          | 9, hi =>
            cases (show some _ = some o from hi)
            have e33 : (f.tmps.getD 33 undef) = .slice (some ⟨Ba, off, none⟩) L cap := depT (V := (VTp6 Ba off L cap k m B y q)) hdep 7 33 (by kernel_rfl) (by kernel_rfl) (.inl rfl)
            have e34 : (f.tmps.getD 34 undef) = .int .i64 (k : Int) := depT (V := (VTp6 Ba off L cap k m B y q)) hdep 8 34 (by kernel_rfl) (by kernel_rfl) (.inl rfl)
            clear hdep hsame hi hlate hfr hkeep
            have h1 : (0 : Int) ≤ (k : Int) := by omega
            have h2 : (k : Int) ≤ (cap : Int) := by have := KL.out; have := LC.out; omega
            exact .inl ⟨wanted_none rfl, showsO_pure hsn rfl (.slice (some ⟨Ba, off, none⟩) k cap) (by simp only [execOp, Act.eval]; go_simp) rfl⟩
          | 10, hi =>
            cases (show some _ = some o from hi)
            have e35 : (f.tmps.getD 35 undef) = .slice (some ⟨Ba, off, none⟩) k cap := depT (V := (VTp6 Ba off L cap k m B y q)) hdep 9 35 (by kernel_rfl) (by kernel_rfl) (.inl rfl)
            clear hdep hsame hi hlate hfr hkeep
            have c := CY.out u hbw
            exact .inl ⟨wanted_none rfl, showsO_call1 hsn rfl 25 #[.slice (some ⟨Ba, off, none⟩) k cap] (by simp only [execOp, Act.eval]; go_simp) (c) (fun _ => rfl)⟩
          | 11, hi =>
            cases (show some _ = some o from hi)
            have e36 : (f.tmps.getD 36 undef) = .agg (ocells (y)) := depT (V := (VTp6 Ba off L cap k m B y q)) hdep 10 36 (by kernel_rfl) (by kernel_rfl) (.inl rfl)
            clear hdep hsame hi hlate hfr hkeep
            exact .inl ⟨wanted_none rfl, showsO_built hsn rfl 1 24 (ocells y) (run_bs_one u (.tmp 36) rfl y YL.out e36) (fun h => h)⟩
          | 12, hi =>
            cases (show some _ = some o from hi)
            have e32 : RowV own u (f.tmps.getD 32 undef) 12 B 24 32 q.length (hcells q) := depT (V := (VTp6 Ba off L cap k m B y q)) hdep 6 32 (by kernel_rfl) (by kernel_rfl) (.inr rfl)
            have e37 : BuiltV own u (f.tmps.getD 37 undef) 1 24 (ocells y) := depT (V := (VTp6 Ba off L cap k m B y q)) hdep 11 37 (by kernel_rfl) (by kernel_rfl) (.inl rfl)
            clear hdep hsame hi hlate hfr
            exact .inl ⟨wanted_none rfl, showsO_appendRow hsn rfl (.tmp 32) (.tmp 37) 25 rfl B 24 i0 (.agg zeros32) 32 32 underHs RI.out.1 RI.out.2.1 RI.out.2.2.1 RI.out.2.2.2 rfl (by decide) q.length (hcells q) e32 e37 (by rw [ocells_size, YL.out]) (ocells_one _) (by have := QL.out; unfold maxLen; omega) (by have := QL.out; omega) (by rw [HB0.out]; exact Nat.le_refl _) (fun _ _ _ h => h)⟩
          | 13, hi =>
            cases (show some _ = some o from hi)
            have e38 : GrownV own u 12 B 24 32 (f.tmps.getD 38 undef) (q.length + 1) (hcells q ++ (ocells y).toList) := depT (V := (VTp6 Ba off L cap k m B y q)) hdep 12 38 (by kernel_rfl) (by kernel_rfl) (.inl rfl)
            clear hdep hsame hi hlate hfr hkeep
            exact .inl ⟨wanted_none rfl, showsO_assign hsn rfl _ rfl e38⟩
          | n + 14, hi => exact absurd hi (by simp)
        · intro f u own hsame hsn hall
          have hb6 := hsn.below (B := w.heap.size) (fun _ _ => rfl) (Nat.le_refl _)
          have q26 : f.tmps.getD 26 undef = .int .i64 (m : Int) := (finT (V := (VTp6 Ba off L cap k m B y q)) hall 0 26 rfl rfl)
          have q27 : f.tmps.getD 27 undef = .int .i64 (k : Int) := (finT (V := (VTp6 Ba off L cap k m B y q)) hall 1 27 rfl rfl)
          have q28 : f.tmps.getD 28 undef = .int .i64 ((m - k : Nat) : Int) := (finT (V := (VTp6 Ba off L cap k m B y q)) hall 2 28 rfl rfl)
          have q29 : f.tmps.getD 29 undef = .slice (some ⟨Ba, off, none⟩) L cap := (finT (V := (VTp6 Ba off L cap k m B y q)) hall 3 29 rfl rfl)
          have q30 : f.tmps.getD 30 undef = .int .i64 (k : Int) := (finT (V := (VTp6 Ba off L cap k m B y q)) hall 4 30 rfl rfl)
          have q31 : f.tmps.getD 31 undef = .slice (some ⟨Ba, off + k * 32, none⟩) (L - k) (cap - k) := (finT (V := (VTp6 Ba off L cap k m B y q)) hall 5 31 rfl rfl)
          obtain ⟨r32, q32⟩ : ∃ r, f.tmps.getD 32 undef = r := ⟨_, rfl⟩
          have q33 : f.tmps.getD 33 undef = .slice (some ⟨Ba, off, none⟩) L cap := (finT (V := (VTp6 Ba off L cap k m B y q)) hall 7 33 rfl rfl)
          have q34 : f.tmps.getD 34 undef = .int .i64 (k : Int) := (finT (V := (VTp6 Ba off L cap k m B y q)) hall 8 34 rfl rfl)
          have q35 : f.tmps.getD 35 undef = .slice (some ⟨Ba, off, none⟩) k cap := (finT (V := (VTp6 Ba off L cap k m B y q)) hall 9 35 rfl rfl)
          have q36 : f.tmps.getD 36 undef = .agg (ocells (y)) := (finT (V := (VTp6 Ba off L cap k m B y q)) hall 10 36 rfl rfl)
          obtain ⟨g37, q37, o37, m37⟩ : BuiltV own u (f.tmps.getD 37 undef) 1 24 (ocells y) := (finT (V := (VTp6 Ba off L cap k m B y q)) hall 11 37 rfl rfl)
          have m38 := (finT (V := (VTp6 Ba off L cap k m B y q)) hall 12 38 rfl rfl)
          obtain ⟨r38, q38⟩ : ∃ r, f.tmps.getD 38 undef = r := ⟨_, rfl⟩
          rw [q38] at m38
          have m4 := (finT (V := (VTp6 Ba off L cap k m B y q)) hall 13 4 rfl rfl)
          obtain ⟨r4, q4⟩ : ∃ r, f.tmps.getD 4 undef = r := ⟨_, rfl⟩
          rw [q4] at m4
          obtain rfl := frame_eq hsame [(26, .int .i64 (m : Int)), (27, .int .i64 (k : Int)), (28, .int .i64 ((m - k : Nat) : Int)), (29, .slice (some ⟨Ba, off, none⟩) L cap), (30, .int .i64 (k : Int)), (31, .slice (some ⟨Ba, off + k * 32, none⟩) (L - k) (cap - k)), (32, r32), (33, .slice (some ⟨Ba, off, none⟩) L cap), (34, .int .i64 (k : Int)), (35, .slice (some ⟨Ba, off, none⟩) k cap), (36, .agg (ocells (y))), (37, .slice (some ⟨g37, 0, none⟩) 1 1), (38, r38), (4, r4)] (by kernel_rfl) ⟨q26, q27, q28, q29, q30, q31, q32, q33, q34, q35, q36, q37, q38, q4, trivial⟩
          clear hall hsame q26 q27 q28 q29 q30 q31 q32 q33 q34 q35 q36 q37 q38 q4
          simp only [List.foldl, List.setIfInBounds_toArray, List.set_cons_succ, List.set_cons_zero]
          have hrow := m4.1
          rw [hcells_push] at hrow
          obtain ⟨a9, c9, rfl, _, _, _⟩ := own_shape hrow
          have HR := Bx.mk hrow; have HB := Bx.mk hb6
          clear hb6 hsn hrow m4 m38
          go_wp2_with fail
          go_ret
          exact ⟨_, rfl, by rw [HV.out, List.length_append, List.length_singleton, ← HB0.out]; exact HR.out, HB.out⟩
end Go.Proofs.YtmlpldkgennmkaaDoor
