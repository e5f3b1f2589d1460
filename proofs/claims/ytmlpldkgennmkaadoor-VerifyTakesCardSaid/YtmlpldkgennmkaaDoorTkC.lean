/- cartularylaw18.sub. -/
import Derived.Test.YtmlpldkgennmkaaDoorTkB
namespace Go.Proofs.YtmlpldkgennmkaaDoor
set_option maxRecDepth 100000
open Go.RowKit
def VTs7 (Ba off L cap k m B : Nat) (b : Bool) (y : List UInt8) (q : List (List UInt8)) (oi : Nat) (v : Value) (own : Nat → Option Nat) (w : World) : Prop :=
  match oi with
  | 0 => v = .int .i64 (m : Int)
  | 1 => v = .slice (some ⟨Ba, off, none⟩) L cap
  | 2 => v = .int .i64 (k : Int)
  | 3 => v = .slice (some ⟨Ba, off, none⟩) k cap
  | 4 => v = .bool b
  | 5 => RowV own w v 11 B 24 32 q.length (hcells q)
  | 6 => v = .slice (some ⟨Ba, off, none⟩) L cap
  | 7 => v = .int .i64 (k : Int)
  | 8 => v = .slice (some ⟨Ba, off + k * 32, none⟩) (L - k) (cap - k)
  | 9 => v = .agg (ocells (y))
  | 10 => BuiltV own w v 1 24 (ocells y)
  | 11 => GrownV own w 11 B 24 32 v (q.length + 1) (hcells q ++ (ocells y).toList)
  | 12 => GrownV own w 11 B 24 32 v (q.length + 1) (hcells q ++ (ocells y).toList)
  | _ => True
def VTs7mk : Nat → Option Nat := fun j => match j with | 11 => some 5 | _ => none
def VTs7till : Nat → Option Nat := fun j => match j with | 5 => some 11 | _ => none
theorem VTs7_mono (Ba off L cap k m B : Nat) (b : Bool) (y : List UInt8) (q : List (List UInt8)) (oi oj : Nat) (v : Value) (own : Nat → Option Nat) (w : World) (own' : Nat → Option Nat) (w' : World) (hij : oi ≠ oj)  (ht : VTs7till oj ≠ some oi) (hx0 : oi = 11 → oj = 12 → False) (h : VTs7 Ba off L cap k m B b y q oj v own w) (r : Rel VTs7mk oi own w own' w') : VTs7 Ba off L cap k m B b y q oj v own' w' := by
  unfold VTs7 at h ⊢
  split at h
  · exact h
  · exact h
  · exact h
  · exact h
  · exact h
  · exact h.stable r (fun e => ht (by rw [e]; rfl))
  · exact h
  · exact h
  · exact h
  · exact h
  · exact h.stable r
  · exact h.stable r hij
  · exact h.stable r (fun e => hx0 e rfl)
  · trivial

def VTs8 (Ba off L cap k m B : Nat) (_b : Bool) (y : List UInt8) (q : List (List UInt8)) (oi : Nat) (v : Value) (own : Nat → Option Nat) (w : World) : Prop :=
  match oi with
  | 0 => v = .int .i64 (m : Int)
  | 1 => v = .int .i64 (k : Int)
  | 2 => v = .int .i64 ((m - k : Nat) : Int)
  | 3 => v = .slice (some ⟨Ba, off, none⟩) L cap
  | 4 => v = .int .i64 (k : Int)
  | 5 => v = .slice (some ⟨Ba, off + k * 32, none⟩) (L - k) (cap - k)
  | 6 => RowV own w v 12 B 24 32 q.length (hcells q)
  | 7 => v = .slice (some ⟨Ba, off, none⟩) L cap
  | 8 => v = .int .i64 (k : Int)
  | 9 => v = .slice (some ⟨Ba, off, none⟩) k cap
  | 10 => v = .agg (ocells (y))
  | 11 => BuiltV own w v 1 24 (ocells y)
  | 12 => GrownV own w 12 B 24 32 v (q.length + 1) (hcells q ++ (ocells y).toList)
  | 13 => GrownV own w 12 B 24 32 v (q.length + 1) (hcells q ++ (ocells y).toList)
  | _ => True
def VTs8mk : Nat → Option Nat := fun j => match j with | 12 => some 6 | _ => none
def VTs8till : Nat → Option Nat := fun j => match j with | 6 => some 12 | _ => none
theorem VTs8_mono (Ba off L cap k m B : Nat) (b : Bool) (y : List UInt8) (q : List (List UInt8)) (oi oj : Nat) (v : Value) (own : Nat → Option Nat) (w : World) (own' : Nat → Option Nat) (w' : World) (hij : oi ≠ oj)  (ht : VTs8till oj ≠ some oi) (hx0 : oi = 12 → oj = 13 → False) (h : VTs8 Ba off L cap k m B b y q oj v own w) (r : Rel VTs8mk oi own w own' w') : VTs8 Ba off L cap k m B b y q oj v own' w' := by
  unfold VTs8 at h ⊢
  split at h
  · exact h
  · exact h
  · exact h
  · exact h
  · exact h
  · exact h
  · exact h.stable r (fun e => ht (by rw [e]; rfl))
  · exact h
  · exact h
  · exact h
  · exact h
  · exact h.stable r
  · exact h.stable r hij
  · exact h.stable r (fun e => hx0 e rfl)
  · trivial

theorem wpList_bs_one {ops : Array Oper} {rest : List Oper} {o : Oper} {a : Act} {w : World} {Q : Exit → Act → World → Prop} (hw : Region.wanted o (yielded ops a.tmps) = true) (x : Operand) (ho : o.op = .buildSlice 25 1 #[(0, x)]) (p : List UInt8) (hp : p.length = 32)
    (hx : a.eval x = .agg (ocells p)) (h : wpList Tryd.prog ops Q rest (a.put o.dst (.slice (some ⟨w.heap.size, 0, none⟩) 1 1)) (w.alloc (.cells (ocells p) 24))) : wpList Tryd.prog ops Q (o :: rest) a w :=
  wpList_step fun K hK => by
    rw [if_pos hw]
    have hr := bs_one w p hp
    unfold Oper.wp execOp
    simp only [ho, List.map_toArray, List.map_cons, List.map_nil, hx, Sem.run_bind, hr, Result.andThen_ok]
    exact hK _ _ h
set_option maxHeartbeats 3200000 in
theorem sub18_any (A : Nat → Addr) (L : Nat) : ∀ (w : World) (m : Nat) (b : Bool) (ad : Option Addr) (n cap : Nat) (l : List (List UInt8)), l.length = L → 0 < m → m ≤ L → L ≤ 1099511627776 → Hss w (.slice ad n cap) l → Hs A w →
    Calls Tryd.prog 28 #[.int .i64 (m : Int), .slice ad n cap, .bool b] w fun e w' => ∃ v, e = .returned v ∧ w'.ownsRow w.heap.size 24 32 v (subP m l b).length (hcells (subP m l b)) ∧ Below w.heap.size w w' := by
  induction L using Nat.strongRecOn with
  | _ L ih =>
    intro w m b ad n cap l hlm h0 hmL hL hH hT
    obtain ⟨_, c', e1, hc1, hc2⟩ := hH.len
    have hcc : cap = c' := by cases e1; rfl
    subst hcc
    have hn : n = l.length := by cases e1; rfl
    subst hn
    obtain ⟨i0, hi, hz0, hz1, hz2⟩ := info_parts infoHh
    have RI := Bx.mk (And.intro hi (And.intro hz0 (And.intro hz1 hz2)))
    rw [hlm] at hc1 hH ⊢
    have HHS := Bx.mk hH; have HT := Bx.mk hT; have LC := Bx.mk hc1; have CM := Bx.mk hc2; have HLM := Bx.mk hlm; have IHH := Bx.mk ih; have HM40 := Bx.mk hL
    clear e1 hH hT hc1 hc2 ih hL hlm hi hz0 hz1 hz2
    go_enter Tryd.func28, Tryd.ntmps28
    by_cases hme : m = L
    · have hv0 := subP_same (o := m) (l := l) (b := b) (by rw [HLM.out]; omega)
      have e1 : (m : Int) = (L : Int) := by omega
      have e1' : ((m : Int) == (L : Int)) = true := beq_iff_eq.2 e1
      subst hme
      cases b with
      | true =>
        have HV := Bx.mk hv0
        clear hv0
        go_wp2_with fail
        go_ret
        exact ⟨_, rfl, by rw [HV.out]; exact ⟨rfl, .inl ⟨rfl, rfl⟩⟩, Below.refl _ _⟩
      | false =>
        have c4 := mth_any A m w ad m cap l HLM.out h0 HM40.out HHS.out HT.out
        have x32 := mthP_length _ _ (Nat.le_refl _) HHS.out.1
        obtain ⟨x, hx⟩ : ∃ x, x = mthP l := ⟨_, rfl⟩
        rw [← hx] at c4 x32 hv0
        rw [hv_agg] at c4
        have HV := Bx.mk hv0; have XL := Bx.mk x32; have C4 := Bx.mk c4
        clear hv0 hx x32 c4
        go_wp2_with fail
        refine C4.out.mono ?_
        rintro e w1 ⟨rfl, hb⟩
        have hrow : (w1.alloc (.cells (ocells x) 24)).ownsRow w1.heap.size 24 32 (.slice (some ⟨w1.heap.size, 0, none⟩) 1 1) 1 (hcells [x]) := ⟨by rw [hcells_length (by simpa using XL.out)]; rfl, .inr ⟨_, 1, ocells x, rfl, Nat.le_refl _, heap_alloc_new _ _, Nat.le_refl _, by unfold maxLen; decide, by rw [ocells_size, XL.out], by rw [List.take_of_length_le (by rw [Array.length_toList, ocells_size, XL.out]; exact Nat.le_refl _)]; simp [hcells, ocells]⟩⟩
        have b1 := hb.trans ((er_al (Below.refl w1.heap.size w1) (.cells (ocells x) 24)).mono hb.size)
        have HR := Bx.mk (ownsRow_mono hrow hb.size); have HB := Bx.mk b1
        clear hrow b1 hb
        go_wp2_with (guard_target =~ wpList _ _ _ (⟨some 15, _, _, _, _, _⟩ :: _) _ _; refine wpList_bs_one rfl (.tmp 14) rfl x XL.out rfl ?_)
        go_ret
        exact ⟨_, rfl, by rw [HV.out]; exact HR.out, HB.out⟩
    · have hlt : m < L := by omega
      have e1 : ¬ (m : Int) = (L : Int) := by omega
      have e1' : ((m : Int) == (L : Int)) = false := beq_eq_false_iff_ne.2 e1
      have e1n : (m == L) = false := beq_eq_false_iff_ne.2 hme
      have h2 : 2 ≤ L := by omega
      obtain ⟨g1, g2, g3⟩ := half_pos h2
      obtain ⟨hj1, hj2, hj3, Ba, off, rfl, hBl, hj4, hj5⟩ := HHS.out.at 0 (by rw [HLM.out]; omega)
      clear hj1 hj2 hj3 hj4 hj5
      obtain ⟨B, hB⟩ : ∃ B, B = w.heap.size := ⟨_, rfl⟩
      have HB0 := Bx.mk hB
      clear hB
      by_cases hle : m ≤ half L
      · have htk := HHS.out.take (half L) (by rw [HLM.out]; omega)
        have hdr := Hss.drop HHS.out (half L) (by rw [HLM.out]; omega)
        have l1 : (l.take (half L)).length = half L := by rw [List.length_take, HLM.out]; omega
        have l2 : (l.drop (half L)).length = L - half L := by rw [List.length_drop, HLM.out]
        have hv0 := subP_le (o := m) (l := l) (b := b) (by rw [HLM.out]; exact h2) (by rw [HLM.out]; exact hlt) (by rw [HLM.out]; exact hle)
        rw [HLM.out] at hv0
        have y32 := mthP_length _ _ (Nat.le_refl _) hdr.1
        have hh := fun u => half18_any u L h2 HM40.out
        have cy : ∀ u, Below w.heap.size w u → _ := fun u hu => mth_any A (L - half L) u (some ⟨Ba, off + half L * 32, none⟩) (L - half L) (cap - half L) (l.drop (half L)) l2 (by omega) (by have := HM40.out; omega) (hdr.below hu) (HT.out.below hu)
        have cq : ∀ u, Below w.heap.size w u → _ := fun u hu => IHH.out (half L) (by omega) u m b (some ⟨Ba, off, none⟩) (half L) cap (l.take (half L)) l1 h0 hle (by have := HM40.out; omega) (htk.below hu) (HT.out.below hu)
        have ql := subP_40 (b := b) l1 h0 hle (by have := HM40.out; omega)
        obtain ⟨y, hy⟩ : ∃ y, y = mthP (l.drop (half L)) := ⟨_, rfl⟩
        obtain ⟨q, hq⟩ : ∃ q, q = subP m (l.take (half L)) b := ⟨_, rfl⟩
        rw [← hy] at cy y32 hv0; rw [← hq] at cq hv0 ql
        clear hy hq
        generalize half L = k at *
        simp only [hv_agg] at cy
        have CQ := Bx.mk cq; have CY := Bx.mk cy; have HF := Bx.mk hh; have HV := Bx.mk hv0; have KL := Bx.mk g2; have YL := Bx.mk y32; have QL := Bx.mk (show q.length ≤ 64 by omega)
        clear cq cy hh hv0 htk hdr y32 l1 l2 hBl g3 ql
        have hx : (m : Int) ≤ (k : Int) := by omega
        go_upto_region 7 with (go_at_call 40; refine (HF.out _).mono ?_; rintro e w' ⟨rfl, rfl⟩)
        clear e1 e1' e1n HF hx
        refine wp_region_own6 VTs7till (n := 47) VTs7mk (fun _ => none) (VTs7 Ba off L cap k m B b y q) (by kernel_rfl) (by kernel_rfl) rfl (fun _ _ => rfl) (fun _ _ _ _ h => by cases h) ?_ ?_ ?_
        · exact fun oi oj v own w own' w' hij hnd ht h r => VTs7_mono Ba off L cap k m B b y q oi oj v own w own' w' hij ht (by rintro rfl rfl; exact Bool.noConfusion (hnd.symm.trans (show depB _ 12 11 = true by kernel_rfl))) h r
        · intro oi o hi f u own hsame hsn hfr hlate hkeep hdep
          have hb6 := hsn.below (B := w.heap.size) (fun _ _ => rfl) (Nat.le_refl _)
          have hbw : Below w.heap.size w u := hb6
          match oi, hi with
          | 0, hi =>
            cases (show some _ = some o from hi)
            have e0 : f.tmps.getD 0 undef = .int .i64 (m : Int) := hsame.slot 0 (fun i o h => invB2_not 0 (by kernel_rfl) h)
            clear hdep hsame hi hlate hfr hkeep
            exact .inl ⟨wanted_none rfl, showsO_move hsn rfl _ rfl e0⟩
          | 1, hi =>
            cases (show some _ = some o from hi)
            have e1 : f.tmps.getD 1 undef = .slice (some ⟨Ba, off, none⟩) L cap := hsame.slot 1 (fun i o h => invB2_not 1 (by kernel_rfl) h)
            clear hdep hsame hi hlate hfr hkeep
            exact .inl ⟨wanted_none rfl, showsO_move hsn rfl _ rfl e1⟩
          | 2, hi =>
            cases (show some _ = some o from hi)
            have e7 : f.tmps.getD 7 undef = .int .i64 (k : Int) := hsame.slot 7 (fun i o h => invB2_not 7 (by kernel_rfl) h)
            clear hdep hsame hi hlate hfr hkeep
            exact .inl ⟨wanted_none rfl, showsO_move hsn rfl _ rfl e7⟩
          | 3, hi =>
            cases (show some _ = some o from hi)
            have e23 : (f.tmps.getD 23 undef) = .slice (some ⟨Ba, off, none⟩) L cap := depT (V := (VTs7 Ba off L cap k m B b y q)) hdep 1 23 (by kernel_rfl) (by kernel_rfl) (.inl rfl)
            have e24 : (f.tmps.getD 24 undef) = .int .i64 (k : Int) := depT (V := (VTs7 Ba off L cap k m B b y q)) hdep 2 24 (by kernel_rfl) (by kernel_rfl) (.inl rfl)
            clear hdep hsame hi hlate hfr hkeep
            have h1 : (0 : Int) ≤ (k : Int) := by omega
            have h2 : (k : Int) ≤ (cap : Int) := by have := KL.out; have := LC.out; omega
            exact .inl ⟨wanted_none rfl, showsO_pure hsn rfl (.slice (some ⟨Ba, off, none⟩) k cap) (by simp only [execOp, Act.eval]; go_simp) rfl⟩
          | 4, hi =>
            cases (show some _ = some o from hi)
            have e2 : f.tmps.getD 2 undef = .bool b := hsame.slot 2 (fun i o h => invB2_not 2 (by kernel_rfl) h)
            clear hdep hsame hi hlate hfr hkeep
            exact .inl ⟨wanted_none rfl, showsO_move hsn rfl _ rfl e2⟩
          | 5, hi =>
            cases (show some _ = some o from hi)
            have e22 : (f.tmps.getD 22 undef) = .int .i64 (m : Int) := depT (V := (VTs7 Ba off L cap k m B b y q)) hdep 0 22 (by kernel_rfl) (by kernel_rfl) (.inl rfl)
            have e25 : (f.tmps.getD 25 undef) = .slice (some ⟨Ba, off, none⟩) k cap := depT (V := (VTs7 Ba off L cap k m B b y q)) hdep 3 25 (by kernel_rfl) (by kernel_rfl) (.inl rfl)
            have e26 : (f.tmps.getD 26 undef) = .bool b := depT (V := (VTs7 Ba off L cap k m B b y q)) hdep 4 26 (by kernel_rfl) (by kernel_rfl) (.inl rfl)
            clear hdep hsame hi hlate hfr hkeep
            exact .inl ⟨wanted_none rfl, showsO_callRow hsn rfl 28 #[.int .i64 (m : Int), .slice (some ⟨Ba, off, none⟩) k cap, .bool b] (by simp only [execOp, Act.eval]; go_simp) 11 rfl B 24 32 q.length (hcells q) (by rw [HB0.out]; exact hsn.size) (CQ.out u hbw) (fun _ _ _ h => h)⟩
          | 6, hi =>
            cases (show some _ = some o from hi)
            have e1 : f.tmps.getD 1 undef = .slice (some ⟨Ba, off, none⟩) L cap := hsame.slot 1 (fun i o h => invB2_not 1 (by kernel_rfl) h)
            clear hdep hsame hi hlate hfr hkeep
            exact .inl ⟨wanted_none rfl, showsO_move hsn rfl _ rfl e1⟩
          | 7, hi =>
            cases (show some _ = some o from hi)
            have e7 : f.tmps.getD 7 undef = .int .i64 (k : Int) := hsame.slot 7 (fun i o h => invB2_not 7 (by kernel_rfl) h)
            clear hdep hsame hi hlate hfr hkeep
            exact .inl ⟨wanted_none rfl, showsO_move hsn rfl _ rfl e7⟩
          | 8, hi =>
            cases (show some _ = some o from hi)
            have e28 : (f.tmps.getD 28 undef) = .slice (some ⟨Ba, off, none⟩) L cap := depT (V := (VTs7 Ba off L cap k m B b y q)) hdep 6 28 (by kernel_rfl) (by kernel_rfl) (.inl rfl)
            have e29 : (f.tmps.getD 29 undef) = .int .i64 (k : Int) := depT (V := (VTs7 Ba off L cap k m B b y q)) hdep 7 29 (by kernel_rfl) (by kernel_rfl) (.inl rfl)
            clear hdep hsame hi hlate hfr hkeep
            have h1 : (0 : Int) ≤ (k : Int) := by omega
            have h2 : (k : Int) ≤ (L : Int) := by have := KL.out; omega
            have h3 : ¬ cap = k := by have := KL.out; have := LC.out; omega
            have h4 : ¬ (cap : Int) = (k : Int) := by have := KL.out; have := LC.out; omega
            have h5 : ¬ (cap - k = 0) := by have := KL.out; have := LC.out; omega
            have h6 : ¬ (cap : Int) - (k : Int) = 0 := by have := KL.out; have := LC.out; omega
            exact .inl ⟨wanted_none rfl, showsO_pure hsn rfl (.slice (some ⟨Ba, off + k * 32, none⟩) (L - k) (cap - k)) (by simp only [execOp, Act.eval]; go_simp) rfl⟩
          | 9, hi =>
            cases (show some _ = some o from hi)
            have e30 : (f.tmps.getD 30 undef) = .slice (some ⟨Ba, off + k * 32, none⟩) (L - k) (cap - k) := depT (V := (VTs7 Ba off L cap k m B b y q)) hdep 8 30 (by kernel_rfl) (by kernel_rfl) (.inl rfl)
            clear hdep hsame hi hlate hfr hkeep
            have c := CY.out u hbw
            exact .inl ⟨wanted_none rfl, showsO_call1 hsn rfl 25 #[.slice (some ⟨Ba, off + k * 32, none⟩) (L - k) (cap - k)] (by simp only [execOp, Act.eval]; go_simp) (c) (fun _ => rfl)⟩
          | 10, hi =>
            cases (show some _ = some o from hi)
            have e31 : (f.tmps.getD 31 undef) = .agg (ocells (y)) := depT (V := (VTs7 Ba off L cap k m B b y q)) hdep 9 31 (by kernel_rfl) (by kernel_rfl) (.inl rfl)
            clear hdep hsame hi hlate hfr hkeep
            exact .inl ⟨wanted_none rfl, showsO_built hsn rfl 1 24 (ocells y) (run_bs_one u (.tmp 31) rfl y YL.out e31) (fun h => h)⟩
          | 11, hi =>
            cases (show some _ = some o from hi)
            have e27 : RowV own u (f.tmps.getD 27 undef) 11 B 24 32 q.length (hcells q) := depT (V := (VTs7 Ba off L cap k m B b y q)) hdep 5 27 (by kernel_rfl) (by kernel_rfl) (.inr rfl)
            have e32 : BuiltV own u (f.tmps.getD 32 undef) 1 24 (ocells y) := depT (V := (VTs7 Ba off L cap k m B b y q)) hdep 10 32 (by kernel_rfl) (by kernel_rfl) (.inl rfl)
            clear hdep hsame hi hlate hfr
            exact .inl ⟨wanted_none rfl, showsO_appendRow hsn rfl (.tmp 27) (.tmp 32) 25 rfl B 24 i0 (.agg zeros32) 32 32 underHs RI.out.1 RI.out.2.1 RI.out.2.2.1 RI.out.2.2.2 rfl (by decide) q.length (hcells q) e27 e32 (by rw [ocells_size, YL.out]) (ocells_one _) (by have := QL.out; unfold maxLen; omega) (by have := QL.out; omega) (by rw [HB0.out]; exact Nat.le_refl _) (fun _ _ _ h => h)⟩
          | 12, hi =>
            cases (show some _ = some o from hi)
            have e33 : GrownV own u 11 B 24 32 (f.tmps.getD 33 undef) (q.length + 1) (hcells q ++ (ocells y).toList) := depT (V := (VTs7 Ba off L cap k m B b y q)) hdep 11 33 (by kernel_rfl) (by kernel_rfl) (.inl rfl)
            clear hdep hsame hi hlate hfr hkeep
            exact .inl ⟨wanted_none rfl, showsO_assign hsn rfl _ rfl e33⟩
          | n + 13, hi => exact absurd hi (by simp)
        · intro f u own hsame hsn hall
          have hb6 := hsn.below (B := w.heap.size) (fun _ _ => rfl) (Nat.le_refl _)
          have q22 : f.tmps.getD 22 undef = .int .i64 (m : Int) := (finT (V := (VTs7 Ba off L cap k m B b y q)) hall 0 22 rfl rfl)
          have q23 : f.tmps.getD 23 undef = .slice (some ⟨Ba, off, none⟩) L cap := (finT (V := (VTs7 Ba off L cap k m B b y q)) hall 1 23 rfl rfl)
          have q24 : f.tmps.getD 24 undef = .int .i64 (k : Int) := (finT (V := (VTs7 Ba off L cap k m B b y q)) hall 2 24 rfl rfl)
          have q25 : f.tmps.getD 25 undef = .slice (some ⟨Ba, off, none⟩) k cap := (finT (V := (VTs7 Ba off L cap k m B b y q)) hall 3 25 rfl rfl)
          have q26 : f.tmps.getD 26 undef = .bool b := (finT (V := (VTs7 Ba off L cap k m B b y q)) hall 4 26 rfl rfl)
          obtain ⟨r27, q27⟩ : ∃ r, f.tmps.getD 27 undef = r := ⟨_, rfl⟩
          have q28 : f.tmps.getD 28 undef = .slice (some ⟨Ba, off, none⟩) L cap := (finT (V := (VTs7 Ba off L cap k m B b y q)) hall 6 28 rfl rfl)
          have q29 : f.tmps.getD 29 undef = .int .i64 (k : Int) := (finT (V := (VTs7 Ba off L cap k m B b y q)) hall 7 29 rfl rfl)
          have q30 : f.tmps.getD 30 undef = .slice (some ⟨Ba, off + k * 32, none⟩) (L - k) (cap - k) := (finT (V := (VTs7 Ba off L cap k m B b y q)) hall 8 30 rfl rfl)
          have q31 : f.tmps.getD 31 undef = .agg (ocells (y)) := (finT (V := (VTs7 Ba off L cap k m B b y q)) hall 9 31 rfl rfl)
          obtain ⟨g32, q32, o32, m32⟩ : BuiltV own u (f.tmps.getD 32 undef) 1 24 (ocells y) := (finT (V := (VTs7 Ba off L cap k m B b y q)) hall 10 32 rfl rfl)
          have m33 := (finT (V := (VTs7 Ba off L cap k m B b y q)) hall 11 33 rfl rfl)
          obtain ⟨r33, q33⟩ : ∃ r, f.tmps.getD 33 undef = r := ⟨_, rfl⟩
          rw [q33] at m33
          have m6 := (finT (V := (VTs7 Ba off L cap k m B b y q)) hall 12 6 rfl rfl)
          obtain ⟨r6, q6⟩ : ∃ r, f.tmps.getD 6 undef = r := ⟨_, rfl⟩
          rw [q6] at m6
          obtain rfl := frame_eq hsame [(22, .int .i64 (m : Int)), (23, .slice (some ⟨Ba, off, none⟩) L cap), (24, .int .i64 (k : Int)), (25, .slice (some ⟨Ba, off, none⟩) k cap), (26, .bool b), (27, r27), (28, .slice (some ⟨Ba, off, none⟩) L cap), (29, .int .i64 (k : Int)), (30, .slice (some ⟨Ba, off + k * 32, none⟩) (L - k) (cap - k)), (31, .agg (ocells (y))), (32, .slice (some ⟨g32, 0, none⟩) 1 1), (33, r33), (6, r6)] (by kernel_rfl) ⟨q22, q23, q24, q25, q26, q27, q28, q29, q30, q31, q32, q33, q6, trivial⟩
          clear hall hsame q22 q23 q24 q25 q26 q27 q28 q29 q30 q31 q32 q33 q6
          simp only [List.foldl, List.setIfInBounds_toArray, List.set_cons_succ, List.set_cons_zero]
          have hrow := m6.1
          rw [hcells_push] at hrow
          obtain ⟨a9, c9, rfl, _, _, _⟩ := own_shape hrow
          have HR := Bx.mk hrow; have HB := Bx.mk hb6
          clear hb6 hsn hrow m6 m33
          go_wp2_with fail
          go_ret
          exact ⟨_, rfl, by rw [HV.out, List.length_append, List.length_singleton, ← HB0.out]; exact HR.out, HB.out⟩
      · have htk := HHS.out.take (half L) (by rw [HLM.out]; omega)
        have hdr := Hss.drop HHS.out (half L) (by rw [HLM.out]; omega)
        have l1 : (l.take (half L)).length = half L := by rw [List.length_take, HLM.out]; omega
        have l2 : (l.drop (half L)).length = L - half L := by rw [List.length_drop, HLM.out]
        have hv0 := subP_gt (o := m) (l := l) (b := b) (by rw [HLM.out]; exact h2) (by rw [HLM.out]; exact hlt) (by rw [HLM.out]; exact hle)
        rw [HLM.out] at hv0
        have y32 := mthP_length _ _ (Nat.le_refl _) htk.1
        have hh := fun u => half18_any u L h2 HM40.out
        have cy : ∀ u, Below w.heap.size w u → _ := fun u hu => mth_any A (half L) u (some ⟨Ba, off, none⟩) (half L) cap (l.take (half L)) l1 (by omega) (by have := HM40.out; omega) (htk.below hu) (HT.out.below hu)
        have cq : ∀ u, Below w.heap.size w u → _ := fun u hu => IHH.out (L - half L) (by omega) u (m - half L) false (some ⟨Ba, off + half L * 32, none⟩) (L - half L) (cap - half L) (l.drop (half L)) l2 (by omega) (by omega) (by have := HM40.out; omega) (hdr.below hu) (HT.out.below hu)
        have ql := subP_40 (o := m - half L) (b := false) l2 (by omega) (by omega) (by have := HM40.out; omega)
        obtain ⟨y, hy⟩ : ∃ y, y = mthP (l.take (half L)) := ⟨_, rfl⟩
        obtain ⟨q, hq⟩ : ∃ q, q = subP (m - half L) (l.drop (half L)) false := ⟨_, rfl⟩
        rw [← hy] at cy y32 hv0; rw [← hq] at cq hv0 ql
        clear hy hq
        generalize half L = k at *
        simp only [hv_agg] at cy
        have CQ := Bx.mk cq; have CY := Bx.mk cy; have HF := Bx.mk hh; have HV := Bx.mk hv0; have KL := Bx.mk g2; have YL := Bx.mk y32; have QL := Bx.mk (show q.length ≤ 64 by omega)
        clear cq cy hh hv0 htk hdr y32 l1 l2 hBl g3 ql
        have hx : ¬ (m : Int) ≤ (k : Int) := by omega
        have hx2 : decide (m ≤ k) = false := decide_eq_false hle
        have d1 : IntKind.i64.wrap ((m : Int) - (k : Int)) = ((m - k : Nat) : Int) := by have := HM40.out; simp [IntKind.wrap, IntKind.bits, IntKind.signed]; omega
        have D1 := Bx.mk d1
        clear d1
        go_upto_region 8 with (go_at_call 40; refine (HF.out _).mono ?_; rintro e w' ⟨rfl, rfl⟩)
        clear e1 e1' e1n HF hx hx2
        refine wp_region_own6 VTs8till (n := 47) VTs8mk (fun _ => none) (VTs8 Ba off L cap k m B b y q) (by kernel_rfl) (by kernel_rfl) rfl (fun _ _ => rfl) (fun _ _ _ _ h => by cases h) ?_ ?_ ?_
        · exact fun oi oj v own w own' w' hij hnd ht h r => VTs8_mono Ba off L cap k m B b y q oi oj v own w own' w' hij ht (by rintro rfl rfl; exact Bool.noConfusion (hnd.symm.trans (show depB _ 13 12 = true by kernel_rfl))) h r
        · intro oi o hi f u own hsame hsn hfr hlate hkeep hdep
          have hb6 := hsn.below (B := w.heap.size) (fun _ _ => rfl) (Nat.le_refl _)
          have hbw : Below w.heap.size w u := hb6
          match oi, hi with
          | 0, hi =>
            cases (show some _ = some o from hi)
            have e0 : f.tmps.getD 0 undef = .int .i64 (m : Int) := hsame.slot 0 (fun i o h => invB2_not 0 (by kernel_rfl) h)
            clear hdep hsame hi hlate hfr hkeep
            exact .inl ⟨wanted_none rfl, showsO_move hsn rfl _ rfl e0⟩
          | 1, hi =>
            cases (show some _ = some o from hi)
            have e7 : f.tmps.getD 7 undef = .int .i64 (k : Int) := hsame.slot 7 (fun i o h => invB2_not 7 (by kernel_rfl) h)
            clear hdep hsame hi hlate hfr hkeep
            exact .inl ⟨wanted_none rfl, showsO_move hsn rfl _ rfl e7⟩
          | 2, hi =>
            cases (show some _ = some o from hi)
            have e34 : (f.tmps.getD 34 undef) = .int .i64 (m : Int) := depT (V := (VTs8 Ba off L cap k m B b y q)) hdep 0 34 (by kernel_rfl) (by kernel_rfl) (.inl rfl)
            have e35 : (f.tmps.getD 35 undef) = .int .i64 (k : Int) := depT (V := (VTs8 Ba off L cap k m B b y q)) hdep 1 35 (by kernel_rfl) (by kernel_rfl) (.inl rfl)
            clear hdep hsame hi hlate hfr hkeep
            have d1 := D1.out
            exact .inl ⟨wanted_none rfl, showsO_pure hsn rfl (.int .i64 ((m - k : Nat) : Int)) (by simp only [execOp, Act.eval]; go_simp) rfl⟩
          | 3, hi =>
            cases (show some _ = some o from hi)
            have e1 : f.tmps.getD 1 undef = .slice (some ⟨Ba, off, none⟩) L cap := hsame.slot 1 (fun i o h => invB2_not 1 (by kernel_rfl) h)
            clear hdep hsame hi hlate hfr hkeep
            exact .inl ⟨wanted_none rfl, showsO_move hsn rfl _ rfl e1⟩
          | 4, hi =>
            cases (show some _ = some o from hi)
            have e7 : f.tmps.getD 7 undef = .int .i64 (k : Int) := hsame.slot 7 (fun i o h => invB2_not 7 (by kernel_rfl) h)
            clear hdep hsame hi hlate hfr hkeep
            exact .inl ⟨wanted_none rfl, showsO_move hsn rfl _ rfl e7⟩
          | 5, hi =>
            cases (show some _ = some o from hi)
            have e37 : (f.tmps.getD 37 undef) = .slice (some ⟨Ba, off, none⟩) L cap := depT (V := (VTs8 Ba off L cap k m B b y q)) hdep 3 37 (by kernel_rfl) (by kernel_rfl) (.inl rfl)
            have e38 : (f.tmps.getD 38 undef) = .int .i64 (k : Int) := depT (V := (VTs8 Ba off L cap k m B b y q)) hdep 4 38 (by kernel_rfl) (by kernel_rfl) (.inl rfl)
            clear hdep hsame hi hlate hfr hkeep
            have h1 : (0 : Int) ≤ (k : Int) := by omega
            have h2 : (k : Int) ≤ (L : Int) := by have := KL.out; omega
            have h3 : ¬ cap = k := by have := KL.out; have := LC.out; omega
            have h4 : ¬ (cap : Int) = (k : Int) := by have := KL.out; have := LC.out; omega
            have h5 : ¬ (cap - k = 0) := by have := KL.out; have := LC.out; omega
            have h6 : ¬ (cap : Int) - (k : Int) = 0 := by have := KL.out; have := LC.out; omega
            exact .inl ⟨wanted_none rfl, showsO_pure hsn rfl (.slice (some ⟨Ba, off + k * 32, none⟩) (L - k) (cap - k)) (by simp only [execOp, Act.eval]; go_simp) rfl⟩
          | 6, hi =>
            cases (show some _ = some o from hi)
            have e36 : (f.tmps.getD 36 undef) = .int .i64 ((m - k : Nat) : Int) := depT (V := (VTs8 Ba off L cap k m B b y q)) hdep 2 36 (by kernel_rfl) (by kernel_rfl) (.inl rfl)
            have e39 : (f.tmps.getD 39 undef) = .slice (some ⟨Ba, off + k * 32, none⟩) (L - k) (cap - k) := depT (V := (VTs8 Ba off L cap k m B b y q)) hdep 5 39 (by kernel_rfl) (by kernel_rfl) (.inl rfl)
            clear hdep hsame hi hlate hfr hkeep
            exact .inl ⟨wanted_none rfl, showsO_callRow hsn rfl 28 #[.int .i64 ((m - k : Nat) : Int), .slice (some ⟨Ba, off + k * 32, none⟩) (L - k) (cap - k), .bool false] (by simp only [execOp, Act.eval]; go_simp) 12 rfl B 24 32 q.length (hcells q) (by rw [HB0.out]; exact hsn.size) (CQ.out u hbw) (fun _ _ _ h => h)⟩
          | 7, hi =>
            cases (show some _ = some o from hi)
            have e1 : f.tmps.getD 1 undef = .slice (some ⟨Ba, off, none⟩) L cap := hsame.slot 1 (fun i o h => invB2_not 1 (by kernel_rfl) h)
            clear hdep hsame hi hlate hfr hkeep
            exact .inl ⟨wanted_none rfl, showsO_move hsn rfl _ rfl e1⟩
          | 8, hi =>
            cases (show some _ = some o from hi)
            have e7 : f.tmps.getD 7 undef = .int .i64 (k : Int) := hsame.slot 7 (fun i o h => invB2_not 7 (by kernel_rfl) h)
            clear hdep hsame hi hlate hfr hkeep
            exact .inl ⟨wanted_none rfl, showsO_move hsn rfl _ rfl e7⟩
          | 9, hi =>
            cases (show some _ = some o from hi)
            have e41 : (f.tmps.getD 41 undef) = .slice (some ⟨Ba, off, none⟩) L cap := depT (V := (VTs8 Ba off L cap k m B b y q)) hdep 7 41 (by kernel_rfl) (by kernel_rfl) (.inl rfl)
            have e42 : (f.tmps.getD 42 undef) = .int .i64 (k : Int) := depT (V := (VTs8 Ba off L cap k m B b y q)) hdep 8 42 (by kernel_rfl) (by kernel_rfl) (.inl rfl)
            clear hdep hsame hi hlate hfr hkeep
            have h1 : (0 : Int) ≤ (k : Int) := by omega
            have h2 : (k : Int) ≤ (cap : Int) := by have := KL.out; have := LC.out; omega
            exact .inl ⟨wanted_none rfl, showsO_pure hsn rfl (.slice (some ⟨Ba, off, none⟩) k cap) (by simp only [execOp, Act.eval]; go_simp) rfl⟩
          | 10, hi =>
            cases (show some _ = some o from hi)
            have e43 : (f.tmps.getD 43 undef) = .slice (some ⟨Ba, off, none⟩) k cap := depT (V := (VTs8 Ba off L cap k m B b y q)) hdep 9 43 (by kernel_rfl) (by kernel_rfl) (.inl rfl)
            clear hdep hsame hi hlate hfr hkeep
            have c := CY.out u hbw
            exact .inl ⟨wanted_none rfl, showsO_call1 hsn rfl 25 #[.slice (some ⟨Ba, off, none⟩) k cap] (by simp only [execOp, Act.eval]; go_simp) (c) (fun _ => rfl)⟩
          | 11, hi =>
            cases (show some _ = some o from hi)
            have e44 : (f.tmps.getD 44 undef) = .agg (ocells (y)) := depT (V := (VTs8 Ba off L cap k m B b y q)) hdep 10 44 (by kernel_rfl) (by kernel_rfl) (.inl rfl)
            clear hdep hsame hi hlate hfr hkeep
            exact .inl ⟨wanted_none rfl, showsO_built hsn rfl 1 24 (ocells y) (run_bs_one u (.tmp 44) rfl y YL.out e44) (fun h => h)⟩
          | 12, hi =>
            cases (show some _ = some o from hi)
            have e40 : RowV own u (f.tmps.getD 40 undef) 12 B 24 32 q.length (hcells q) := depT (V := (VTs8 Ba off L cap k m B b y q)) hdep 6 40 (by kernel_rfl) (by kernel_rfl) (.inr rfl)
            have e45 : BuiltV own u (f.tmps.getD 45 undef) 1 24 (ocells y) := depT (V := (VTs8 Ba off L cap k m B b y q)) hdep 11 45 (by kernel_rfl) (by kernel_rfl) (.inl rfl)
            clear hdep hsame hi hlate hfr
            exact .inl ⟨wanted_none rfl, showsO_appendRow hsn rfl (.tmp 40) (.tmp 45) 25 rfl B 24 i0 (.agg zeros32) 32 32 underHs RI.out.1 RI.out.2.1 RI.out.2.2.1 RI.out.2.2.2 rfl (by decide) q.length (hcells q) e40 e45 (by rw [ocells_size, YL.out]) (ocells_one _) (by have := QL.out; unfold maxLen; omega) (by have := QL.out; omega) (by rw [HB0.out]; exact Nat.le_refl _) (fun _ _ _ h => h)⟩
          | 13, hi =>
            cases (show some _ = some o from hi)
            have e46 : GrownV own u 12 B 24 32 (f.tmps.getD 46 undef) (q.length + 1) (hcells q ++ (ocells y).toList) := depT (V := (VTs8 Ba off L cap k m B b y q)) hdep 12 46 (by kernel_rfl) (by kernel_rfl) (.inl rfl)
            clear hdep hsame hi hlate hfr hkeep
            exact .inl ⟨wanted_none rfl, showsO_assign hsn rfl _ rfl e46⟩
          | n + 14, hi => exact absurd hi (by simp)
        · intro f u own hsame hsn hall
          have hb6 := hsn.below (B := w.heap.size) (fun _ _ => rfl) (Nat.le_refl _)
          have q34 : f.tmps.getD 34 undef = .int .i64 (m : Int) := (finT (V := (VTs8 Ba off L cap k m B b y q)) hall 0 34 rfl rfl)
          have q35 : f.tmps.getD 35 undef = .int .i64 (k : Int) := (finT (V := (VTs8 Ba off L cap k m B b y q)) hall 1 35 rfl rfl)
          have q36 : f.tmps.getD 36 undef = .int .i64 ((m - k : Nat) : Int) := (finT (V := (VTs8 Ba off L cap k m B b y q)) hall 2 36 rfl rfl)
          have q37 : f.tmps.getD 37 undef = .slice (some ⟨Ba, off, none⟩) L cap := (finT (V := (VTs8 Ba off L cap k m B b y q)) hall 3 37 rfl rfl)
          have q38 : f.tmps.getD 38 undef = .int .i64 (k : Int) := (finT (V := (VTs8 Ba off L cap k m B b y q)) hall 4 38 rfl rfl)
          have q39 : f.tmps.getD 39 undef = .slice (some ⟨Ba, off + k * 32, none⟩) (L - k) (cap - k) := (finT (V := (VTs8 Ba off L cap k m B b y q)) hall 5 39 rfl rfl)
          obtain ⟨r40, q40⟩ : ∃ r, f.tmps.getD 40 undef = r := ⟨_, rfl⟩
          have q41 : f.tmps.getD 41 undef = .slice (some ⟨Ba, off, none⟩) L cap := (finT (V := (VTs8 Ba off L cap k m B b y q)) hall 7 41 rfl rfl)
          have q42 : f.tmps.getD 42 undef = .int .i64 (k : Int) := (finT (V := (VTs8 Ba off L cap k m B b y q)) hall 8 42 rfl rfl)
          have q43 : f.tmps.getD 43 undef = .slice (some ⟨Ba, off, none⟩) k cap := (finT (V := (VTs8 Ba off L cap k m B b y q)) hall 9 43 rfl rfl)
          have q44 : f.tmps.getD 44 undef = .agg (ocells (y)) := (finT (V := (VTs8 Ba off L cap k m B b y q)) hall 10 44 rfl rfl)
          obtain ⟨g45, q45, o45, m45⟩ : BuiltV own u (f.tmps.getD 45 undef) 1 24 (ocells y) := (finT (V := (VTs8 Ba off L cap k m B b y q)) hall 11 45 rfl rfl)
          have m46 := (finT (V := (VTs8 Ba off L cap k m B b y q)) hall 12 46 rfl rfl)
          obtain ⟨r46, q46⟩ : ∃ r, f.tmps.getD 46 undef = r := ⟨_, rfl⟩
          rw [q46] at m46
          have m6 := (finT (V := (VTs8 Ba off L cap k m B b y q)) hall 13 6 rfl rfl)
          obtain ⟨r6, q6⟩ : ∃ r, f.tmps.getD 6 undef = r := ⟨_, rfl⟩
          rw [q6] at m6
          obtain rfl := frame_eq hsame [(34, .int .i64 (m : Int)), (35, .int .i64 (k : Int)), (36, .int .i64 ((m - k : Nat) : Int)), (37, .slice (some ⟨Ba, off, none⟩) L cap), (38, .int .i64 (k : Int)), (39, .slice (some ⟨Ba, off + k * 32, none⟩) (L - k) (cap - k)), (40, r40), (41, .slice (some ⟨Ba, off, none⟩) L cap), (42, .int .i64 (k : Int)), (43, .slice (some ⟨Ba, off, none⟩) k cap), (44, .agg (ocells (y))), (45, .slice (some ⟨g45, 0, none⟩) 1 1), (46, r46), (6, r6)] (by kernel_rfl) ⟨q34, q35, q36, q37, q38, q39, q40, q41, q42, q43, q44, q45, q46, q6, trivial⟩
          clear hall hsame q34 q35 q36 q37 q38 q39 q40 q41 q42 q43 q44 q45 q46 q6
          simp only [List.foldl, List.setIfInBounds_toArray, List.set_cons_succ, List.set_cons_zero]
          have hrow := m6.1
          rw [hcells_push] at hrow
          obtain ⟨a9, c9, rfl, _, _, _⟩ := own_shape hrow
          have HR := Bx.mk hrow; have HB := Bx.mk hb6
          clear hb6 hsn hrow m6 m46
          go_wp2_with fail
          go_ret
          exact ⟨_, rfl, by rw [HV.out, List.length_append, List.length_singleton, ← HB0.out]; exact HR.out, HB.out⟩
end Go.Proofs.YtmlpldkgennmkaaDoor
