/- The document's Sign and Public of chapter 22. -/
import Derived.Test.YtohifpomdanmkaaGreatDoorOsB
import Derived.Test.YtohifpomdanmkaaGreatDoorRvb
import Derived.Test.YtohifpomdanmkaaGreatDoorOsO
import Derived.Test.YtohifpomdanmkaaGreatDoorOwn9
namespace Go.Proofs.YtohifpomdanmkaaGreatDoor
set_option maxRecDepth 100000
open Go.RowKit
theorem rowOf_memS {f : Nat → List UInt8} {t : Nat} (h : ∀ i, i < t → (f i).length = 32) : ∀ x ∈ rowOf f t, x.length = 32 := by
  intro x hx
  unfold rowOf at hx
  obtain ⟨i, hi, rfl⟩ := List.mem_map.1 hx
  exact h i (List.mem_range.1 hi)
def VSg (_N t gd cd d base : Nat) (s b c : List UInt8) (a7 : Option Addr) (c7 : Nat) (ls : List (List UInt8)) (oi : Nat) (v : Value) (own : Nat → Option Nat) (w : World) : Prop :=
  match oi with
  | 0 => v = .slice a7 t c7
  | 1 => v = .agg (ocells (s))
  | 2 => v = .int .i64 (t : Int)
  | 3 => v = .agg (ocells (b))
  | 4 => v = .slice (some ⟨gd, 0, none⟩) 67 cd
  | 5 => v = .int .i64 (t : Int)
  | 6 => v = .pointer (some ⟨gd, t, none⟩)
  | 7 => v = .int .i64 (d : Int)
  | 8 => v = .agg (ocells (c))
  | 9 => BuiltV own w v 1 23 (ocells c)
  | 10 => GrownV own w 10 base 23 32 v (t + 1) (hcells ls ++ (ocells c).toList)
  | 11 => GrownV own w 10 base 23 32 v (t + 1) (hcells ls ++ (ocells c).toList)
  | _ => True
def VSgmk : Nat → Option Nat := fun _ => none
theorem VSg_mono (N t gd cd d base : Nat) (s b c : List UInt8) (a7 : Option Addr) (c7 : Nat) (ls : List (List UInt8)) (oi oj : Nat) (v : Value) (own : Nat → Option Nat) (w : World) (own' : Nat → Option Nat) (w' : World) (hij : oi ≠ oj)  (hx0 : oi = 10 → oj = 11 → False) (h : VSg N t gd cd d base s b c a7 c7 ls oj v own w) (r : Rel VSgmk oi own w own' w') : VSg N t gd cd d base s b c a7 c7 ls oj v own' w' := by
  unfold VSg at h ⊢
  split at h
  · exact h
  · exact h
  · exact h
  · exact h
  · exact h
  · exact h
  · exact h
  · exact h
  · exact h
  · exact h.stable r
  · exact h.stable r hij
  · exact h.stable r (fun e => hx0 e rfl)
  · trivial

set_option maxHeartbeats 3200000 in
theorem rsign_any (w : World) (s m : List UInt8) (hs : s.length = 32) (hm : m.length = 32) :
    Calls Tryz.prog 4 #[hv s, hv m] w fun e w' => ∃ v, e = .returned v ∧ w'.ownsRow w.heap.size 23 32 v 67 (hcells (rowOf (signB s m) 67)) ∧ Below w.heap.size w w' := by
  have x0 := (HashAt.new w s hs).below (er_al (Below.refl _ _) (.cells (ocells m) 23))
  have x1 := HashAt.new (w.alloc (.cells (ocells s) 23)) m hm
  rw [show (w.alloc (.cells (ocells s) 23)).heap.size = w.heap.size + 1 by simp] at x1
  have kb : Below w.heap.size w ((w.alloc (.cells (ocells s) 23)).alloc (.cells (ocells m) 23)) := er_al (er_al (Below.refl _ _) _) _
  obtain ⟨i0, hi, hz0, hz1, hz2⟩ := info_parts infoH
  have RI := Bx.mk (And.intro hi (And.intro hz0 (And.intro hz1 hz2)))
  have SL := Bx.mk hs; have ML := Bx.mk hm
  clear hs hm hi hz0 hz1 hz2
  unfold hv
  go_enter Tryz.func4, Tryz.ntmps4
  go_upto_region 1 with (fail)
  change Code.wp _ _ _ _ ((w.alloc (.cells (ocells s) 23)).alloc (.cells (ocells m) 23))
  generalize (w.alloc (.cells (ocells s) 23)).alloc (.cells (ocells m) 23) = W at x0 x1 kb ⊢
  obtain ⟨N, hN⟩ : ∃ N, N = w.heap.size := ⟨_, rfl⟩
  rw [← hN] at x0 x1 ⊢
  have X0' := Bx.mk x0; have X1 := Bx.mk x1; have KB := Bx.mk kb; have HN := Bx.mk hN
  clear x0 x1 kb hN
  go_wp2_with (guard_target =~ wpList _ _ _ (⟨some 8, _, _, _, _, _⟩ :: _) _ _; refine wpList_load_row rfl 23 (.tmp 3) rfl (N + 1) rfl _ _ _ _ X1.out.1 underH rfl (hszL ML.out) ?_)
  have cr := digits22r_any W m ML.out
  rw [hv_agg] at cr
  refine cr.mono ?_
  clear cr
  rintro e W2 ⟨vd, rfl, hod, hb⟩
  obtain ⟨gd, cd, rfl, _, hgd, _⟩ := ints_at hod 0 (by decide)
  have K2 := Bx.mk (KB.out.trans (hb.mono KB.out.size)); have X0 := Bx.mk (X0'.out.below hb)
  have XL := Bx.mk X0.out.lt
  have OD := Bx.mk hod; have GD := Bx.mk hgd
  clear hb hod hgd X1
  go_wp2_with fail
  go_loopw [6, 7] (fun lv iv wr => ∃ t : Nat, t ≤ 67 ∧ iv = .int .i64 (t : Int) ∧ wr.ownsRow W2.heap.size 23 32 lv t (hcells (rowOf (signB s m) t)) ∧ Below W2.heap.size W2 wr) (fun _ iv _ => 67 - (intOf iv).toNat)
  case atStart => exact ⟨0, by decide, rfl, ⟨rfl, .inl ⟨rfl, rfl⟩⟩, Below.refl _ _⟩
  case round =>
    obtain ⟨t, ht, rfl, ho, hb⟩ := hrel
    obtain ⟨a7, c7, rfl, q1, q2, q3⟩ := own_shape ho
    have HO := Bx.mk ho; have BW := Bx.mk hb
    clear ho hb q1 q2 q3
    by_cases hlt : t < 67
    · have hd := dall_lt m t
      have hge : signB s m t = chainN (beginB s t) (dall m t) := rfl
      have bn : ∀ u, _ := fun u => rbegin_any u s SL.out t hlt
      have hbl := beginB_length s t
      obtain ⟨b, hb⟩ : ∃ b, b = beginB s t := ⟨_, rfl⟩
      rw [← hb] at bn hbl hge
      have cn : ∀ u, _ := fun u => on22_any u b hbl (dall m t) (by omega)
      have hcl := chainN_length hbl (dall m t)
      rw [← hge] at cn hcl
      simp only [hv_agg] at cn bn
      have hrow := rowOf_succ (signB s m) t
      have hdc : W2.cell? ⟨gd, t, none⟩ = some (.int .i64 (dall m t : Int)) := by
        obtain ⟨g', c', e, _, _, hcell⟩ := ints_at OD.out t hlt
        cases e
        rw [hcell, digsL_cell m 67 t hlt]
      generalize signB s m t = c at cn hcl hrow hge
      generalize dall m t = d at cn hd hdc hge
      have hpush := hcells_push (rowOf (signB s m) t) c
      rw [← hrow] at hpush
      have HDC := Bx.mk (fun u (hu : Below W2.heap.size W2 u) => (hu.cell (p := ⟨gd, t, none⟩) GD.out).trans hdc)
      have CN := Bx.mk cn; have BN := Bx.mk bn; have CL := Bx.mk hcl; have HLT := Bx.mk hlt; have HPU := Bx.mk hpush
      have M1 := Bx.mk (show t + 1 ≤ maxLen by unfold maxLen; omega); have M2 := Bx.mk (show (t + 1) * 32 ≤ 140737488355328 by omega)
      have HBS := Bx.mk BW.out.size
      clear cn bn hcl hrow hbl hd hdc hge hpush ht hb
      generalize rowOf (signB s m) t = ls at HO HPU ⊢
      obtain ⟨base, hbase⟩ : ∃ b, b = W2.heap.size := ⟨_, rfl⟩
      rw [← hbase] at HO HBS
      have HBE := Bx.mk hbase
      clear hbase
      go_upto_region 6 with (fail)
      refine wp_region_own4 (n := 26) VSgmk (ownOf (.slice a7 t c7) 10) (VSg N t gd cd d base s b c a7 c7 ls) (by kernel_rfl) (by kernel_rfl) rfl (ownOf_top HO.out 10) (fun j i hj _ => by cases hj) ?_ ?_ ?_
      · exact fun oi oj v own w own' w' hij hnd h r => VSg_mono N t gd cd d base s b c a7 c7 ls oi oj v own w own' w' hij (by rintro rfl rfl; exact Bool.noConfusion (hnd.symm.trans (show depB _ 11 10 = true by kernel_rfl))) h r
      · intro oi o hi f u own hsame hsn hfr hlate hkeep hdep
        have hb6 : Below W2.heap.size W2 u := BW.out.trans (hsn.below (B := W2.heap.size) (fun k hk => ownOf_base HO.out 10 k (by rw [HBE.out]; exact hk)) BW.out.size)
        match oi, hi with
        | 0, hi =>
          cases (show some _ = some o from hi)
          have e6 : f.tmps.getD 6 undef = .slice a7 t c7 := hlate 6 (late_of (by kernel_rfl))
          clear hdep hsame hi hlate hfr hkeep
          exact .inl ⟨wanted_none rfl, showsO_move hsn rfl _ rfl e6⟩
        | 1, hi =>
          cases (show some _ = some o from hi)
          have e2 : f.tmps.getD 2 undef = .pointer (some ⟨N, 0, none⟩) := hsame.slot 2 (fun i o h => invB2_not 2 (by kernel_rfl) h)
          clear hdep hsame hi hlate hfr hkeep
          have hxs := (hb6.block _ XL.out).trans X0.out.1
          exact .inl ⟨wanted_none rfl, showsO_row hsn rfl 23 (.tmp 2) rfl N e2 (ocells (s)) hxs underH rfl (hszL SL.out) rfl⟩
        | 2, hi =>
          cases (show some _ = some o from hi)
          have e7 : f.tmps.getD 7 undef = .int .i64 (t : Int) := hsame.slot 7 (fun i o h => invB2_not 7 (by kernel_rfl) h)
          clear hdep hsame hi hlate hfr hkeep
          exact .inl ⟨wanted_none rfl, showsO_move hsn rfl _ rfl e7⟩
        | 3, hi =>
          cases (show some _ = some o from hi)
          have e15 : (f.tmps.getD 15 undef) = .agg (ocells (s)) := depO (V := (VSg N t gd cd d base s b c a7 c7 ls)) hdep 1 15 (by kernel_rfl) (by kernel_rfl)
          have e16 : (f.tmps.getD 16 undef) = .int .i64 (t : Int) := depO (V := (VSg N t gd cd d base s b c a7 c7 ls)) hdep 2 16 (by kernel_rfl) (by kernel_rfl)
          clear hdep hsame hi hlate hfr hkeep
          exact .inl ⟨wanted_none rfl, showsO_call1 hsn rfl 13 #[.agg (ocells (s)), .int .i64 (t : Int)] (by simp only [execOp, Act.eval]; go_simp) (BN.out u) (fun _ => rfl)⟩
        | 4, hi =>
          cases (show some _ = some o from hi)
          have e5 : f.tmps.getD 5 undef = .slice (some ⟨gd, 0, none⟩) 67 cd := hsame.slot 5 (fun i o h => invB2_not 5 (by kernel_rfl) h)
          clear hdep hsame hi hlate hfr hkeep
          exact .inl ⟨wanted_none rfl, showsO_move hsn rfl _ rfl e5⟩
        | 5, hi =>
          cases (show some _ = some o from hi)
          have e7 : f.tmps.getD 7 undef = .int .i64 (t : Int) := hsame.slot 7 (fun i o h => invB2_not 7 (by kernel_rfl) h)
          clear hdep hsame hi hlate hfr hkeep
          exact .inl ⟨wanted_none rfl, showsO_move hsn rfl _ rfl e7⟩
        | 6, hi =>
          cases (show some _ = some o from hi)
          have e18 : (f.tmps.getD 18 undef) = .slice (some ⟨gd, 0, none⟩) 67 cd := depO (V := (VSg N t gd cd d base s b c a7 c7 ls)) hdep 4 18 (by kernel_rfl) (by kernel_rfl)
          have e19 : (f.tmps.getD 19 undef) = .int .i64 (t : Int) := depO (V := (VSg N t gd cd d base s b c a7 c7 ls)) hdep 5 19 (by kernel_rfl) (by kernel_rfl)
          clear hdep hsame hi hlate hfr hkeep
          have hlt := HLT.out
          exact .inl ⟨wanted_none rfl, showsO_pure hsn rfl (.pointer (some ⟨gd, t, none⟩)) (by simp only [execOp, Act.eval]; go_simp) rfl⟩
        | 7, hi =>
          cases (show some _ = some o from hi)
          have e20 : (f.tmps.getD 20 undef) = .pointer (some ⟨gd, t, none⟩) := depO (V := (VSg N t gd cd d base s b c a7 c7 ls)) hdep 6 20 (by kernel_rfl) (by kernel_rfl)
          clear hdep hsame hi hlate hfr hkeep
          have hc := HDC.out u hb6
          exact .inl ⟨wanted_none rfl, showsO_pure hsn rfl (.int .i64 (d : Int)) (by simp only [execOp, Act.eval]; go_simp) rfl⟩
        | 8, hi =>
          cases (show some _ = some o from hi)
          have e17 : (f.tmps.getD 17 undef) = .agg (ocells (b)) := depO (V := (VSg N t gd cd d base s b c a7 c7 ls)) hdep 3 17 (by kernel_rfl) (by kernel_rfl)
          have e21 : (f.tmps.getD 21 undef) = .int .i64 (d : Int) := depO (V := (VSg N t gd cd d base s b c a7 c7 ls)) hdep 7 21 (by kernel_rfl) (by kernel_rfl)
          clear hdep hsame hi hlate hfr hkeep
          exact .inl ⟨wanted_none rfl, showsO_call1 hsn rfl 12 #[.agg (ocells (b)), .int .i64 (d : Int)] (by simp only [execOp, Act.eval]; go_simp) (CN.out u) (fun _ => rfl)⟩
        | 9, hi =>
          cases (show some _ = some o from hi)
          have e22 : (f.tmps.getD 22 undef) = .agg (ocells (c)) := depO (V := (VSg N t gd cd d base s b c a7 c7 ls)) hdep 8 22 (by kernel_rfl) (by kernel_rfl)
          clear hdep hsame hi hlate hfr hkeep
          exact .inl ⟨wanted_none rfl, showsO_built hsn rfl 1 23 (ocells c) (run_bs_one u (.tmp 22) rfl c CL.out e22) (fun h => h)⟩
        | 10, hi =>
          cases (show some _ = some o from hi)
          have e14 : (f.tmps.getD 14 undef) = .slice a7 t c7 := depO (V := (VSg N t gd cd d base s b c a7 c7 ls)) hdep 0 14 (by kernel_rfl) (by kernel_rfl)
          have e23 : BuiltV own u (f.tmps.getD 23 undef) 1 23 (ocells c) := depO (V := (VSg N t gd cd d base s b c a7 c7 ls)) hdep 9 23 (by kernel_rfl) (by kernel_rfl)
          clear hdep hsame hi hlate hfr
          exact .inl ⟨wanted_none rfl, showsO_append hsn hkeep rfl (.tmp 14) (.tmp 23) 24 rfl base 23 i0 (.agg zeros32) 32 32 underHs RI.out.1 RI.out.2.1 RI.out.2.2.1 RI.out.2.2.2 rfl (by decide) (.slice a7 t c7) t (hcells ls) e14 HO.out (ownOf_at _ _) e23 (by rw [ocells_size, CL.out]) (ocells_one _) M1.out M2.out HBS.out (fun _ _ _ h => h)⟩
        | 11, hi =>
          cases (show some _ = some o from hi)
          have e24 : GrownV own u 10 base 23 32 (f.tmps.getD 24 undef) (t + 1) (hcells ls ++ (ocells c).toList) := depO (V := (VSg N t gd cd d base s b c a7 c7 ls)) hdep 10 24 (by kernel_rfl) (by kernel_rfl)
          clear hdep hsame hi hlate hfr hkeep
          exact .inl ⟨wanted_none rfl, showsO_assign hsn rfl _ rfl e24⟩
        | n + 12, hi => exact absurd hi (by simp)
      · intro f u own hsame hsn hall
        have q14 : f.tmps.getD 14 undef = .slice a7 t c7 := finO (V := (VSg N t gd cd d base s b c a7 c7 ls)) hall 0 14 rfl
        have q15 : f.tmps.getD 15 undef = .agg (ocells (s)) := finO (V := (VSg N t gd cd d base s b c a7 c7 ls)) hall 1 15 rfl
        have q16 : f.tmps.getD 16 undef = .int .i64 (t : Int) := finO (V := (VSg N t gd cd d base s b c a7 c7 ls)) hall 2 16 rfl
        have q17 : f.tmps.getD 17 undef = .agg (ocells (b)) := finO (V := (VSg N t gd cd d base s b c a7 c7 ls)) hall 3 17 rfl
        have q18 : f.tmps.getD 18 undef = .slice (some ⟨gd, 0, none⟩) 67 cd := finO (V := (VSg N t gd cd d base s b c a7 c7 ls)) hall 4 18 rfl
        have q19 : f.tmps.getD 19 undef = .int .i64 (t : Int) := finO (V := (VSg N t gd cd d base s b c a7 c7 ls)) hall 5 19 rfl
        have q20 : f.tmps.getD 20 undef = .pointer (some ⟨gd, t, none⟩) := finO (V := (VSg N t gd cd d base s b c a7 c7 ls)) hall 6 20 rfl
        have q21 : f.tmps.getD 21 undef = .int .i64 (d : Int) := finO (V := (VSg N t gd cd d base s b c a7 c7 ls)) hall 7 21 rfl
        have q22 : f.tmps.getD 22 undef = .agg (ocells (c)) := finO (V := (VSg N t gd cd d base s b c a7 c7 ls)) hall 8 22 rfl
        obtain ⟨g23, q23, o23, m23⟩ : BuiltV own u (f.tmps.getD 23 undef) 1 23 (ocells c) := finO (V := (VSg N t gd cd d base s b c a7 c7 ls)) hall 9 23 rfl
        have m24 := finO (V := (VSg N t gd cd d base s b c a7 c7 ls)) hall 10 24 rfl
        obtain ⟨r24, q24⟩ : ∃ r, f.tmps.getD 24 undef = r := ⟨_, rfl⟩
        rw [q24] at m24
        have m6 := finO (V := (VSg N t gd cd d base s b c a7 c7 ls)) hall 11 6 rfl
        obtain ⟨r6, q6⟩ : ∃ r, f.tmps.getD 6 undef = r := ⟨_, rfl⟩
        rw [q6] at m6
        obtain rfl := frame_eq hsame [(14, .slice a7 t c7), (15, .agg (ocells (s))), (16, .int .i64 (t : Int)), (17, .agg (ocells (b))), (18, .slice (some ⟨gd, 0, none⟩) 67 cd), (19, .int .i64 (t : Int)), (20, .pointer (some ⟨gd, t, none⟩)), (21, .int .i64 (d : Int)), (22, .agg (ocells (c))), (23, .slice (some ⟨g23, 0, none⟩) 1 1), (24, r24), (6, r6)] (by kernel_rfl) ⟨q14, q15, q16, q17, q18, q19, q20, q21, q22, q23, q24, q6, trivial⟩
        clear hall hsame q14 q15 q16 q17 q18 q19 q20 q21 q22 q23 q24 q6
        simp only [List.foldl, List.setIfInBounds_toArray, List.set_cons_succ, List.set_cons_zero]
        have bu := hsn.below (B := W2.heap.size) (fun k hk => ownOf_base HO.out 10 k (by rw [HBE.out]; exact hk)) BW.out.size
        have BU := Bx.mk (BW.out.trans (bu.mono (Nat.le_refl _)))
        have M7 := Bx.mk m6.1
        clear bu m6 m24 hsn
        go_wp2_with fail
        go_roundw
        case rel => exact ⟨t + 1, HLT.out, by go_num, by rw [← HBE.out, ← HPU.out]; exact M7.out, BU.out⟩
        case measure => have := HLT.out; simp [intOf]; omega
    · obtain rfl : t = 67 := by omega
      have f1 : ¬ ((67 : Nat) : Int) < 67 := by decide
      clear hlt ht
      go_wp2_with fail
      go_ret
      exact ⟨_, rfl, ownsRow_mono HO.out K2.out.size, K2.out.trans (BW.out.mono K2.out.size)⟩
def VPu (_N t base : Nat) (s b c : List UInt8) (a7 : Option Addr) (c7 : Nat) (ls : List (List UInt8)) (oi : Nat) (v : Value) (own : Nat → Option Nat) (w : World) : Prop :=
  match oi with
  | 0 => v = .slice a7 t c7
  | 1 => v = .agg (ocells (s))
  | 2 => v = .int .i64 (t : Int)
  | 3 => v = .agg (ocells (b))
  | 4 => v = .agg (ocells (c))
  | 5 => BuiltV own w v 1 23 (ocells c)
  | 6 => GrownV own w 6 base 23 32 v (t + 1) (hcells ls ++ (ocells c).toList)
  | 7 => GrownV own w 6 base 23 32 v (t + 1) (hcells ls ++ (ocells c).toList)
  | _ => True
def VPumk : Nat → Option Nat := fun _ => none
theorem VPu_mono (N t base : Nat) (s b c : List UInt8) (a7 : Option Addr) (c7 : Nat) (ls : List (List UInt8)) (oi oj : Nat) (v : Value) (own : Nat → Option Nat) (w : World) (own' : Nat → Option Nat) (w' : World) (hij : oi ≠ oj)  (hx0 : oi = 6 → oj = 7 → False) (h : VPu N t base s b c a7 c7 ls oj v own w) (r : Rel VPumk oi own w own' w') : VPu N t base s b c a7 c7 ls oj v own' w' := by
  unfold VPu at h ⊢
  split at h
  · exact h
  · exact h
  · exact h
  · exact h
  · exact h
  · exact h.stable r
  · exact h.stable r hij
  · exact h.stable r (fun e => hx0 e rfl)
  · trivial

set_option maxHeartbeats 3200000 in
theorem rpublic_any (w : World) (s : List UInt8) (hs : s.length = 32) :
    Calls Tryz.prog 8 #[hv s] w fun e w' => e = .returned (hv (publicB s)) ∧ Below w.heap.size w w' := by
  have x0 := (HashAt.new w s hs).below (er_al (Below.refl _ _) (.cells zeros32 23))
  have x1 : ((w.alloc (.cells (ocells s) 23)).alloc (.cells zeros32 23)).heap[w.heap.size + 1]? = some (.cells zeros32 23 (0, 0)) := by
    simpa using heap_alloc_new (w.alloc (.cells (ocells s) 23)) (.cells zeros32 23)
  have kb : Below w.heap.size w ((w.alloc (.cells (ocells s) 23)).alloc (.cells zeros32 23)) := er_al (er_al (Below.refl _ _) _) _
  obtain ⟨i0, hi, hz0, hz1, hz2⟩ := info_parts infoH
  have RI := Bx.mk (And.intro hi (And.intro hz0 (And.intro hz1 hz2)))
  have SL := Bx.mk hs
  clear hs hi hz0 hz1 hz2
  unfold hv
  go_enter Tryz.func8, Tryz.ntmps8
  go_upto_region 1 with (fail)
  change Code.wp _ _ _ _ ((w.alloc (.cells (ocells s) 23)).alloc (.cells zeros32 23))
  generalize (w.alloc (.cells (ocells s) 23)).alloc (.cells zeros32 23) = W2 at x0 x1 kb ⊢
  obtain ⟨N, hN⟩ : ∃ N, N = w.heap.size := ⟨_, rfl⟩
  rw [← hN] at x0 x1 ⊢
  have X0 := Bx.mk x0; have X1 := Bx.mk x1; have K2 := Bx.mk kb; have HN := Bx.mk hN; have XL := Bx.mk x0.lt
  clear x0 x1 kb hN
  go_wp2_with fail
  go_loopw [3, 4] (fun lv iv wr => ∃ t : Nat, t ≤ 67 ∧ iv = .int .i64 (t : Int) ∧ wr.ownsRow W2.heap.size 23 32 lv t (hcells (rowOf (fun i => chainN (beginB s i) 15) t)) ∧ Below W2.heap.size W2 wr) (fun _ iv _ => 67 - (intOf iv).toNat)
  case atStart => exact ⟨0, by decide, rfl, ⟨rfl, .inl ⟨rfl, rfl⟩⟩, Below.refl _ _⟩
  case round =>
    obtain ⟨t, ht, rfl, ho, hb⟩ := hrel
    obtain ⟨a7, c7, rfl, q1, q2, q3⟩ := own_shape ho
    have HO := Bx.mk ho; have BW := Bx.mk hb
    clear ho hb q1 q2 q3
    by_cases hlt : t < 67
    · have bn : ∀ u, _ := fun u => rbegin_any u s SL.out t hlt
      have hbl := beginB_length s t
      obtain ⟨c, hge⟩ : ∃ c, c = chainN (beginB s t) 15 := ⟨_, rfl⟩
      have hrow := rowOf_succ (fun i => chainN (beginB s i) 15) t
      simp only [← hge] at hrow
      obtain ⟨b, hb⟩ : ∃ b, b = beginB s t := ⟨_, rfl⟩
      rw [← hb] at bn hbl hge
      have cn : ∀ u, _ := fun u => on22_any u b hbl 15 (by decide)
      have hcl := chainN_length hbl 15
      rw [← hge] at cn hcl
      simp only [hv_agg] at cn bn
      have hpush := hcells_push (rowOf (fun i => chainN (beginB s i) 15) t) c
      rw [← hrow] at hpush
      have CN := Bx.mk cn; have BN := Bx.mk bn; have CL := Bx.mk hcl; have HLT := Bx.mk hlt; have HPU := Bx.mk hpush
      have M1 := Bx.mk (show t + 1 ≤ maxLen by unfold maxLen; omega); have M2 := Bx.mk (show (t + 1) * 32 ≤ 140737488355328 by omega)
      have HBS := Bx.mk BW.out.size
      clear cn bn hcl hrow hbl hge hpush ht hb
      generalize rowOf (fun i => chainN (beginB s i) 15) t = ls at HO HPU ⊢
      obtain ⟨base, hbase⟩ : ∃ b, b = W2.heap.size := ⟨_, rfl⟩
      rw [← hbase] at HO HBS
      have HBE := Bx.mk hbase
      clear hbase
      go_upto_region 5 with (fail)
      refine wp_region_seq8 (n := 18) VPumk (ownOf (.slice a7 t c7) 6) (VPu N t base s b c a7 c7 ls) (by kernel_rfl) rfl (ownOf_top HO.out 6) (fun j i hj _ => by cases hj) ?_ ?_ ?_
      · exact fun oi oj v own w own' w' hij h r => VPu_mono N t base s b c a7 c7 ls oi oj v own w own' w' (by omega) (by rintro rfl rfl; omega) h r
      · intro oi o hi f u own hsame hsn hfr hlate hkeep8 hdep
        have hkeep := hkeep8 _ (Nat.le_refl _)
        have hb6 : Below W2.heap.size W2 u := BW.out.trans (hsn.below (B := W2.heap.size) (fun k hk => ownOf_base HO.out 6 k (by rw [HBE.out]; exact hk)) BW.out.size)
        match oi, hi with
        | 0, hi =>
          cases (show some _ = some o from hi)
          have e3 : f.tmps.getD 3 undef = .slice a7 t c7 := hlate 3 (earlyS (by kernel_rfl))
          clear hdep hsame hi hlate hfr hkeep
          exact .inl ⟨wanted_none rfl, showsO_move hsn rfl _ rfl e3⟩
        | 1, hi =>
          cases (show some _ = some o from hi)
          have e1 : f.tmps.getD 1 undef = .pointer (some ⟨N, 0, none⟩) := hlate 1 (earlyS (by kernel_rfl))
          clear hdep hsame hi hlate hfr hkeep
          have hxs := (hb6.block _ XL.out).trans X0.out.1
          exact .inl ⟨wanted_none rfl, showsO_row hsn rfl 23 (.tmp 1) rfl N e1 (ocells (s)) hxs underH rfl (hszL SL.out) rfl⟩
        | 2, hi =>
          cases (show some _ = some o from hi)
          have e4 : f.tmps.getD 4 undef = .int .i64 (t : Int) := hlate 4 (earlyS (by kernel_rfl))
          clear hdep hsame hi hlate hfr hkeep
          exact .inl ⟨wanted_none rfl, showsO_move hsn rfl _ rfl e4⟩
        | 3, hi =>
          cases (show some _ = some o from hi)
          have e10 : (f.tmps.getD 10 undef) = .agg (ocells (s)) := depS (V := (VPu N t base s b c a7 c7 ls)) hdep 1 10 (by decide) (by kernel_rfl)
          have e11 : (f.tmps.getD 11 undef) = .int .i64 (t : Int) := depS (V := (VPu N t base s b c a7 c7 ls)) hdep 2 11 (by decide) (by kernel_rfl)
          clear hdep hsame hi hlate hfr hkeep
          exact .inl ⟨wanted_none rfl, showsO_call1 hsn rfl 13 #[.agg (ocells (s)), .int .i64 (t : Int)] (by simp only [execOp, Act.eval]; go_simp) (BN.out u) (fun _ => rfl)⟩
        | 4, hi =>
          cases (show some _ = some o from hi)
          have e12 : (f.tmps.getD 12 undef) = .agg (ocells (b)) := depS (V := (VPu N t base s b c a7 c7 ls)) hdep 3 12 (by decide) (by kernel_rfl)
          clear hdep hsame hi hlate hfr hkeep
          exact .inl ⟨wanted_none rfl, showsO_call1 hsn rfl 12 #[.agg (ocells (b)), .int .i64 15] (by simp only [execOp, Act.eval]; go_simp) (CN.out u) (fun _ => rfl)⟩
        | 5, hi =>
          cases (show some _ = some o from hi)
          have e13 : (f.tmps.getD 13 undef) = .agg (ocells (c)) := depS (V := (VPu N t base s b c a7 c7 ls)) hdep 4 13 (by decide) (by kernel_rfl)
          clear hdep hsame hi hlate hfr hkeep
          exact .inl ⟨wanted_none rfl, showsO_built hsn rfl 1 23 (ocells c) (run_bs_one u (.tmp 13) rfl c CL.out e13) (fun h => h)⟩
        | 6, hi =>
          cases (show some _ = some o from hi)
          have e9 : (f.tmps.getD 9 undef) = .slice a7 t c7 := depS (V := (VPu N t base s b c a7 c7 ls)) hdep 0 9 (by decide) (by kernel_rfl)
          have e14 : BuiltV own u (f.tmps.getD 14 undef) 1 23 (ocells c) := depS (V := (VPu N t base s b c a7 c7 ls)) hdep 5 14 (by decide) (by kernel_rfl)
          clear hdep hsame hi hlate hfr
          exact .inl ⟨wanted_none rfl, showsO_append hsn hkeep rfl (.tmp 9) (.tmp 14) 24 rfl base 23 i0 (.agg zeros32) 32 32 underHs RI.out.1 RI.out.2.1 RI.out.2.2.1 RI.out.2.2.2 rfl (by decide) (.slice a7 t c7) t (hcells ls) e9 HO.out (ownOf_at _ _) e14 (by rw [ocells_size, CL.out]) (ocells_one _) M1.out M2.out HBS.out (fun _ _ _ h => h)⟩
        | 7, hi =>
          cases (show some _ = some o from hi)
          have e15 : GrownV own u 6 base 23 32 (f.tmps.getD 15 undef) (t + 1) (hcells ls ++ (ocells c).toList) := depS (V := (VPu N t base s b c a7 c7 ls)) hdep 6 15 (by decide) (by kernel_rfl)
          clear hdep hsame hi hlate hfr hkeep
          exact .inl ⟨wanted_none rfl, showsO_assign hsn rfl _ rfl e15⟩
        | n + 8, hi => exact absurd hi (by simp)
      · intro f u own hsame hsn hall
        have q9 : f.tmps.getD 9 undef = .slice a7 t c7 := finO (V := (VPu N t base s b c a7 c7 ls)) hall 0 9 rfl
        have q10 : f.tmps.getD 10 undef = .agg (ocells (s)) := finO (V := (VPu N t base s b c a7 c7 ls)) hall 1 10 rfl
        have q11 : f.tmps.getD 11 undef = .int .i64 (t : Int) := finO (V := (VPu N t base s b c a7 c7 ls)) hall 2 11 rfl
        have q12 : f.tmps.getD 12 undef = .agg (ocells (b)) := finO (V := (VPu N t base s b c a7 c7 ls)) hall 3 12 rfl
        have q13 : f.tmps.getD 13 undef = .agg (ocells (c)) := finO (V := (VPu N t base s b c a7 c7 ls)) hall 4 13 rfl
        obtain ⟨g14, q14, o14, m14⟩ : BuiltV own u (f.tmps.getD 14 undef) 1 23 (ocells c) := finO (V := (VPu N t base s b c a7 c7 ls)) hall 5 14 rfl
        have m15 := finO (V := (VPu N t base s b c a7 c7 ls)) hall 6 15 rfl
        obtain ⟨r15, q15⟩ : ∃ r, f.tmps.getD 15 undef = r := ⟨_, rfl⟩
        rw [q15] at m15
        have m3 := finO (V := (VPu N t base s b c a7 c7 ls)) hall 7 3 rfl
        obtain ⟨r3, q3⟩ : ∃ r, f.tmps.getD 3 undef = r := ⟨_, rfl⟩
        rw [q3] at m3
        obtain rfl := frame_eq hsame [(9, .slice a7 t c7), (10, .agg (ocells (s))), (11, .int .i64 (t : Int)), (12, .agg (ocells (b))), (13, .agg (ocells (c))), (14, .slice (some ⟨g14, 0, none⟩) 1 1), (15, r15), (3, r3)] (by kernel_rfl) ⟨q9, q10, q11, q12, q13, q14, q15, q3, trivial⟩
        clear hall hsame q9 q10 q11 q12 q13 q14 q15 q3
        simp only [List.foldl, List.setIfInBounds_toArray, List.set_cons_succ, List.set_cons_zero]
        have bu := hsn.below (B := W2.heap.size) (fun k hk => ownOf_base HO.out 6 k (by rw [HBE.out]; exact hk)) BW.out.size
        have BU := Bx.mk (BW.out.trans (bu.mono (Nat.le_refl _)))
        have M7 := Bx.mk m3.1
        clear bu m3 m15 hsn
        go_wp2_with fail
        go_roundw
        case rel => exact ⟨t + 1, HLT.out, by go_num, by rw [← HBE.out, ← HPU.out]; exact M7.out, BU.out⟩
        case measure => have := HLT.out; simp [intOf]; omega
    · obtain rfl : t = 67 := by omega
      have hmem := rowOf_memS (f := fun i => chainN (beginB s i) 15) (t := 67) (fun i _ => chainN_length (beginB_length s i) 15)
      have cc := close22_any wr a7 67 c7 (rowOf (fun i => chainN (beginB s i) 15) 67) (hss_own HO.out hmem (rowOf_length _ _).symm) (by rw [rowOf_length]; decide)
      rw [hv_agg] at cc
      have hpl : (publicB s).length = 32 := sha_length _
      have z1 := (BW.out.block _ (Array.getElem?_eq_some_iff.1 X1.out).1).trans X1.out
      have CC : Bx (Calls Tryz.prog 18 #[.slice a7 67 c7] wr fun e w' => e = .returned (.agg (ocells (publicB s))) ∧ Below wr.heap.size wr w') := ⟨cc⟩
      have PL := Bx.mk hpl; have Z1 := Bx.mk z1
      have f1 : ¬ ((67 : Nat) : Int) < 67 := by decide
      obtain ⟨pb, hpb⟩ : ∃ pb, pb = publicB s := ⟨_, rfl⟩
      rw [← hpb] at CC PL
      have HPB := Bx.mk hpb
      clear cc hmem hpl z1 hlt ht hpb
      go_wp2_with fail
      refine CC.out.mono ?_
      rintro e w5 ⟨rfl, hb⟩
      have Z5 := Bx.mk ((hb.block _ (Array.getElem?_eq_some_iff.1 Z1.out).1).trans Z1.out)
      have K5 := Bx.mk (K2.out.trans ((BW.out.trans (hb.mono BW.out.size)).mono K2.out.size))
      have HSZ := Bx.mk (hszL PL.out); have HSO := Bx.mk (hsoL PL.out)
      clear hb
      go_wp2_with (guard_target =~ wpList _ _ _ (⟨none, _, _, _, _, _⟩ :: _) _ _; refine wpList_store_row rfl 23 (.tmp 2) (.tmp 17) rfl (N + 1) (ocells pb) rfl rfl _ _ Z5.out HSZ.out HSO.out (ocells_one _) ?_)
      refine bodyPost_ret (results_cell_row rfl _ _ (N + 1) _ (ocells pb) _ _ rfl (setRow_heap _ _ _ _ _ _ Z5.out) underH rfl HSZ.out) rfl ⟨by rw [HPB.out]; rfl, below_setRow K5.out (by have := HN.out; omega) _⟩
end Go.Proofs.YtohifpomdanmkaaGreatDoor
