/- cartularyref22.Recover. -/
import Derived.Test.YtohifpomdanmkaaDoorRvb
import Derived.Test.YtohifpomdanmkaaDoorOwn4
import Derived.Test.YtohifpomdanmkaaDoorBs1
namespace Go.Proofs.YtohifpomdanmkaaDoor
set_option maxRecDepth 100000
open Go.RowKit
/-- what the document answers -/
def rrecV (m : List UInt8) (hs : List (List UInt8)) : Value := if hs.length = 67 then .tuple #[hv (recoverB m hs), .agg #[.int .i64 0, .int .i64 0]] else .tuple #[hv zero32', .agg #[.int .i64 2, .int .i64 (-1)]]
theorem built_zero : Tryd.prog.built 23 [] = some zeros32 := by kernel_rfl
theorem goB_length {m : List UInt8} {hs : List (List UInt8)} (hl : hs.length = 67) (h : ∀ x ∈ hs, x.length = 32) (i : Nat) (hi : i < 67) : (goB m hs i).length = 32 := by
  have hti : i < hs.length := by omega
  unfold goB
  rw [List.getD_eq_getElem?_getD, List.getElem?_eq_getElem hti]
  exact chainN_length (h _ (List.getElem_mem hti)) _
theorem rowOf_mem {f : Nat → List UInt8} {t : Nat} (h : ∀ i, i < t → (f i).length = 32) : ∀ x ∈ rowOf f t, x.length = 32 := by
  intro x hx
  unfold rowOf at hx
  obtain ⟨i, hi, rfl⟩ := List.mem_map.1 hx
  exact h i (List.mem_range.1 hi)
def VRc (Ba off cap t gd cd d base : Nat) (px c : List UInt8) (a7 : Option Addr) (c7 : Nat) (ls : List (List UInt8)) (oi : Nat) (v : Value) (own : Nat → Option Nat) (w : World) : Prop :=
  match oi with
  | 0 => v = .slice a7 t c7
  | 1 => v = .slice (some ⟨Ba, off, none⟩) 67 cap
  | 2 => v = .int .i64 (t : Int)
  | 3 => v = .pointer (some ⟨Ba, off + t * 32, none⟩)
  | 4 => v = .agg (ocells (px))
  | 5 => v = .slice (some ⟨gd, 0, none⟩) 67 cd
  | 6 => v = .int .i64 (t : Int)
  | 7 => v = .pointer (some ⟨gd, t, none⟩)
  | 8 => v = .int .i64 (d : Int)
  | 9 => v = .int .i64 (15 - (d : Int))
  | 10 => v = .agg (ocells (c))
  | 11 => BuiltV own w v 1 23 (ocells c)
  | 12 => GrownV own w 12 base 23 32 v (t + 1) (hcells ls ++ (ocells c).toList)
  | 13 => GrownV own w 12 base 23 32 v (t + 1) (hcells ls ++ (ocells c).toList)
  | _ => True
def VRcmk : Nat → Option Nat := fun _ => none
theorem VRc_mono (Ba off cap t gd cd d base : Nat) (px c : List UInt8) (a7 : Option Addr) (c7 : Nat) (ls : List (List UInt8)) (oi oj : Nat) (v : Value) (own : Nat → Option Nat) (w : World) (own' : Nat → Option Nat) (w' : World) (hij : oi ≠ oj) (hx0 : oi = 12 → oj = 13 → False) (h : VRc Ba off cap t gd cd d base px c a7 c7 ls oj v own w) (r : Rel VRcmk oi own w own' w') : VRc Ba off cap t gd cd d base px c a7 c7 ls oj v own' w' := by
  unfold VRc at h ⊢
  split at h
  · exact h
  · exact h
  · exact h
  · exact h
  · exact h
  · exact h
  · exact h
  · exact h
  · exact h
  · exact h
  · exact h
  · exact h.stable r
  · exact h.stable r hij
  · exact h.stable r (fun e => hx0 e rfl)
  · trivial

set_option maxHeartbeats 3200000 in
theorem rrec22_any (w : World) (m : List UInt8) (hm : m.length = 32) (ad : Option Addr) (n cap : Nat) (hs : List (List UInt8)) (hH : Hss w (.slice ad n cap) hs) :
    Calls Tryd.prog 9 #[hv m, .slice ad n cap] w fun e w' => e = .returned (rrecV m hs) ∧ Below w.heap.size w w' := by
  have x0 := ((HashAt.new w m hm).below (er_al (Below.refl _ _) (.cells zeros32 23))).below (er_al (Below.refl _ _) (.cells fz 28))
  have x1 : (((w.alloc (.cells (ocells m) 23)).alloc (.cells zeros32 23)).alloc (.cells fz 28)).heap[w.heap.size + 1]? = some (.cells zeros32 23 (0, 0)) := by
    rw [Below.heap_alloc _ _ _ (by simp)]; simpa using heap_alloc_new (w.alloc (.cells (ocells m) 23)) (.cells zeros32 23)
  have x2 : (((w.alloc (.cells (ocells m) 23)).alloc (.cells zeros32 23)).alloc (.cells fz 28)).heap[w.heap.size + 1 + 1]? = some (.cells fz 28 (0, 0)) := by
    simpa using heap_alloc_new ((w.alloc (.cells (ocells m) 23)).alloc (.cells zeros32 23)) (.cells fz 28)
  have kb : Below w.heap.size w (((w.alloc (.cells (ocells m) 23)).alloc (.cells zeros32 23)).alloc (.cells fz 28)) := er_al (er_al (er_al (Below.refl _ _) _) _) _
  obtain ⟨_, c', e1, hc1, hc2⟩ := hH.len
  have hcc : cap = c' := by cases e1; rfl
  subst hcc
  have hn : n = hs.length := by cases e1; rfl
  subst hn
  obtain ⟨i0, hi, hz0, hz1, hz2⟩ := info_parts infoH
  have RI := Bx.mk (And.intro hi (And.intro hz0 (And.intro hz1 hz2)))
  have ML := Bx.mk hm; have HHS := Bx.mk hH
  clear hm hH e1 hi hz0 hz1 hz2
  unfold hv
  go_enter Tryd.func9, Tryd.ntmps9
  go_upto_region 1 with (fail)
  change Code.wp _ _ _ _ (((w.alloc (.cells (ocells m) 23)).alloc (.cells zeros32 23)).alloc (.cells fz 28))
  generalize ((w.alloc (.cells (ocells m) 23)).alloc (.cells zeros32 23)).alloc (.cells fz 28) = W at x0 x1 x2 kb ⊢
  obtain ⟨N, hN⟩ : ∃ N, N = w.heap.size := ⟨_, rfl⟩
  rw [← hN] at x0 x1 x2 ⊢
  have X0 := Bx.mk x0; have X1 := Bx.mk x1; have X2 := Bx.mk x2; have KB := Bx.mk kb; have HN := Bx.mk hN
  clear x0 x1 x2 kb hN
  by_cases hlen : hs.length = 67
  · have hv : rrecV m hs = .tuple #[.agg (ocells (recoverB m hs)), .agg #[.int .i64 0, .int .i64 0]] := by unfold rrecV; rw [if_pos hlen]; rfl
    have HV := Bx.mk hv
    have HLN := Bx.mk hlen
    rw [hlen] at HHS ⊢
    clear hv hlen hc1 hc2
    go_wp2_with (guard_target =~ wpList _ _ _ (⟨some 14, _, _, _, _, _⟩ :: _) _ _; refine wpList_load_row rfl 23 (.tmp 2) rfl N rfl _ _ _ _ X0.out.1 underH rfl (hszL ML.out) ?_)
    have cr := digits22r_any W m ML.out
    rw [hv_agg] at cr
    refine cr.mono ?_
    clear cr
    rintro e W2 ⟨vd, rfl, hod, hb⟩
    obtain ⟨gd, cd, rfl, _, hgd, _⟩ := ints_at hod 0 (by decide)
    have K2 := Bx.mk (KB.out.trans (hb.mono KB.out.size)); have Y1 := Bx.mk ((hb.block _ (Array.getElem?_eq_some_iff.1 X1.out).1).trans X1.out); have Y2 := Bx.mk ((hb.block _ (Array.getElem?_eq_some_iff.1 X2.out).1).trans X2.out)
    have OD := Bx.mk hod; have GD := Bx.mk hgd
    clear hb hod hgd X1 X2
    go_wp2_with fail
    go_loopw [7, 8] (fun lv iv wr => ∃ t : Nat, t ≤ 67 ∧ iv = .int .i64 (t : Int) ∧ wr.ownsRow W2.heap.size 23 32 lv t (hcells (rowOf (goB m hs) t)) ∧ Below W2.heap.size W2 wr) (fun _ iv _ => 67 - (intOf iv).toNat)
    case atStart => exact ⟨0, by decide, rfl, ⟨rfl, .inl ⟨rfl, rfl⟩⟩, Below.refl _ _⟩
    case round =>
      obtain ⟨t, ht, rfl, ho, hb⟩ := hrel
      obtain ⟨a7, c7, rfl, q1, q2, q3⟩ := own_shape ho
      have HO := Bx.mk ho; have BW := Bx.mk hb
      have kw : ∀ u, Below W2.heap.size W2 u → Below w.heap.size w u := fun u h => K2.out.trans (h.mono K2.out.size)
      have KW := Bx.mk kw
      clear kw ho hb q1 q2 q3
      by_cases hlt : t < 67
      · have hts : t < hs.length := by have := HLN.out; omega
        obtain ⟨hnl, hc1', hc2', Ba, off, rfl, hBl, hr, hpl⟩ := (HHS.out.below K2.out).at t hts
        have hd := dall_lt m t
        have hge : goB m hs t = chainN hs[t] (15 - dall m t) := by unfold goB; rw [List.getD_eq_getElem?_getD, List.getElem?_eq_getElem hts]; rfl
        obtain ⟨px, hpx⟩ : ∃ px, px = hs[t] := ⟨_, rfl⟩
        rw [← hpx] at hr hpl hge
        have cn : ∀ u, _ := fun u => on22_any u px hpl (15 - dall m t) (by omega)
        have hcl := chainN_length hpl (15 - dall m t)
        rw [← hge] at cn hcl
        simp only [hv_agg] at cn
        have hrow := rowOf_succ (goB m hs) t
        have hdc : W2.cell? ⟨gd, t, none⟩ = some (.int .i64 (dall m t : Int)) := by
          obtain ⟨g', c', e, _, _, hcell⟩ := ints_at OD.out t hlt
          cases e
          rw [hcell, digsL_cell m 67 t hlt]
        generalize goB m hs t = c at cn hcl hrow hge
        have e15 : ((15 - dall m t : Nat) : Int) = 15 - (dall m t : Int) := by omega
        rw [e15] at cn
        generalize dall m t = d at cn hd hdc e15 hge
        have hpush := hcells_push (rowOf (goB m hs) t) c
        rw [← hrow] at hpush
        have HRO := Bx.mk (fun u (hu : Below W2.heap.size W2 u) => rangeAt_below hr hBl hu)
        have HDC := Bx.mk (fun u (hu : Below W2.heap.size W2 u) => (hu.cell (p := ⟨gd, t, none⟩) GD.out).trans hdc)
        have CN := Bx.mk cn; have CL := Bx.mk hcl; have PX := Bx.mk hpl; have HD := Bx.mk hd; have HLT := Bx.mk hlt; have HPU := Bx.mk hpush
        have M1 := Bx.mk (show t + 1 ≤ maxLen by unfold maxLen; omega); have M2 := Bx.mk (show (t + 1) * 32 ≤ 140737488355328 by omega)
        have HBS := Bx.mk BW.out.size
        clear cn hcl hrow hpl hd hdc e15 hge hr hBl hpx hnl hpush ht hts hc1' hc2'
        generalize rowOf (goB m hs) t = ls at HO HPU ⊢
        obtain ⟨base, hbase⟩ : ∃ b, b = W2.heap.size := ⟨_, rfl⟩
        rw [← hbase] at HO HBS
        have HBE := Bx.mk hbase
        clear hbase
        go_upto_region 8 with (fail)
        refine wp_region_own4 (n := 36) VRcmk (ownOf (.slice a7 t c7) 12) (VRc Ba off cap t gd cd d base px c a7 c7 ls) (by kernel_rfl) (by kernel_rfl) rfl (ownOf_top HO.out 12) (fun j i hj _ => by cases hj) ?_ ?_ ?_
        · exact fun oi oj v own w own' w' hij hnd h r => VRc_mono Ba off cap t gd cd d base px c a7 c7 ls oi oj v own w own' w' hij (by rintro rfl rfl; exact Bool.noConfusion (hnd.symm.trans (show depB _ 13 12 = true by kernel_rfl))) h r
        · intro oi o hi f u own hsame hsn hfr hlate hkeep hdep
          have hb6 : Below W2.heap.size W2 u := BW.out.trans (hsn.below (B := W2.heap.size) (fun k hk => ownOf_base HO.out 12 k (by rw [HBE.out]; exact hk)) BW.out.size)
          match oi, hi with
          | 0, hi =>
            cases (show some _ = some o from hi)
            have e7 : f.tmps.getD 7 undef = .slice a7 t c7 := hlate 7 (late_of (by kernel_rfl))
            clear hdep hsame hi hlate hfr hkeep
            exact .inl ⟨wanted_none rfl, showsO_move hsn rfl _ rfl e7⟩
          | 1, hi =>
            cases (show some _ = some o from hi)
            have e1 : f.tmps.getD 1 undef = .slice (some ⟨Ba, off, none⟩) 67 cap := hsame.slot 1 (fun i o h => invB2_not 1 (by kernel_rfl) h)
            clear hdep hsame hi hlate hfr hkeep
            exact .inl ⟨wanted_none rfl, showsO_move hsn rfl _ rfl e1⟩
          | 2, hi =>
            cases (show some _ = some o from hi)
            have e8 : f.tmps.getD 8 undef = .int .i64 (t : Int) := hsame.slot 8 (fun i o h => invB2_not 8 (by kernel_rfl) h)
            clear hdep hsame hi hlate hfr hkeep
            exact .inl ⟨wanted_none rfl, showsO_move hsn rfl _ rfl e8⟩
          | 3, hi =>
            cases (show some _ = some o from hi)
            have e21 : (f.tmps.getD 21 undef) = .slice (some ⟨Ba, off, none⟩) 67 cap := depO (V := (VRc Ba off cap t gd cd d base px c a7 c7 ls)) hdep 1 21 (by kernel_rfl) (by kernel_rfl)
            have e22 : (f.tmps.getD 22 undef) = .int .i64 (t : Int) := depO (V := (VRc Ba off cap t gd cd d base px c a7 c7 ls)) hdep 2 22 (by kernel_rfl) (by kernel_rfl)
            clear hdep hsame hi hlate hfr hkeep
            have hlt := HLT.out
            exact .inl ⟨wanted_none rfl, showsO_pure hsn rfl (.pointer (some ⟨Ba, off + t * 32, none⟩)) (by simp only [execOp, Act.eval]; go_simp) rfl⟩
          | 4, hi =>
            cases (show some _ = some o from hi)
            have e23 : (f.tmps.getD 23 undef) = .pointer (some ⟨Ba, off + t * 32, none⟩) := depO (V := (VRc Ba off cap t gd cd d base px c a7 c7 ls)) hdep 3 23 (by kernel_rfl) (by kernel_rfl)
            clear hdep hsame hi hlate hfr hkeep
            exact .inl ⟨wanted_none rfl, showsO_mid hsn rfl 23 (.tmp 23) rfl Ba (off + t * 32) e23 (bcells (px)) (HRO.out u hb6) underH rfl (hszB' PX.out) rfl⟩
          | 5, hi =>
            cases (show some _ = some o from hi)
            have e6 : f.tmps.getD 6 undef = .slice (some ⟨gd, 0, none⟩) 67 cd := hsame.slot 6 (fun i o h => invB2_not 6 (by kernel_rfl) h)
            clear hdep hsame hi hlate hfr hkeep
            exact .inl ⟨wanted_none rfl, showsO_move hsn rfl _ rfl e6⟩
          | 6, hi =>
            cases (show some _ = some o from hi)
            have e8 : f.tmps.getD 8 undef = .int .i64 (t : Int) := hsame.slot 8 (fun i o h => invB2_not 8 (by kernel_rfl) h)
            clear hdep hsame hi hlate hfr hkeep
            exact .inl ⟨wanted_none rfl, showsO_move hsn rfl _ rfl e8⟩
          | 7, hi =>
            cases (show some _ = some o from hi)
            have e25 : (f.tmps.getD 25 undef) = .slice (some ⟨gd, 0, none⟩) 67 cd := depO (V := (VRc Ba off cap t gd cd d base px c a7 c7 ls)) hdep 5 25 (by kernel_rfl) (by kernel_rfl)
            have e26 : (f.tmps.getD 26 undef) = .int .i64 (t : Int) := depO (V := (VRc Ba off cap t gd cd d base px c a7 c7 ls)) hdep 6 26 (by kernel_rfl) (by kernel_rfl)
            clear hdep hsame hi hlate hfr hkeep
            have hlt := HLT.out
            exact .inl ⟨wanted_none rfl, showsO_pure hsn rfl (.pointer (some ⟨gd, t, none⟩)) (by simp only [execOp, Act.eval]; go_simp) rfl⟩
          | 8, hi =>
            cases (show some _ = some o from hi)
            have e27 : (f.tmps.getD 27 undef) = .pointer (some ⟨gd, t, none⟩) := depO (V := (VRc Ba off cap t gd cd d base px c a7 c7 ls)) hdep 7 27 (by kernel_rfl) (by kernel_rfl)
            clear hdep hsame hi hlate hfr hkeep
            have hc := HDC.out u hb6
            exact .inl ⟨wanted_none rfl, showsO_pure hsn rfl (.int .i64 (d : Int)) (by simp only [execOp, Act.eval]; go_simp) rfl⟩
          | 9, hi =>
            cases (show some _ = some o from hi)
            have e28 : (f.tmps.getD 28 undef) = .int .i64 (d : Int) := depO (V := (VRc Ba off cap t gd cd d base px c a7 c7 ls)) hdep 8 28 (by kernel_rfl) (by kernel_rfl)
            clear hdep hsame hi hlate hfr hkeep
            have hd := HD.out
            exact .inl ⟨wanted_none rfl, showsO_pure hsn rfl (.int .i64 (15 - (d : Int))) (by simp only [execOp, Act.eval]; go_simp; simp [IntKind.wrap, IntKind.bits, IntKind.signed]; omega) rfl⟩
          | 10, hi =>
            cases (show some _ = some o from hi)
            have e24 : (f.tmps.getD 24 undef) = .agg (ocells (px)) := depO (V := (VRc Ba off cap t gd cd d base px c a7 c7 ls)) hdep 4 24 (by kernel_rfl) (by kernel_rfl)
            have e29 : (f.tmps.getD 29 undef) = .int .i64 (15 - (d : Int)) := depO (V := (VRc Ba off cap t gd cd d base px c a7 c7 ls)) hdep 9 29 (by kernel_rfl) (by kernel_rfl)
            clear hdep hsame hi hlate hfr hkeep
            exact .inl ⟨wanted_none rfl, showsO_call1 hsn rfl 23 #[.agg (ocells (px)), .int .i64 (15 - (d : Int))] (by simp only [execOp, Act.eval]; go_simp) (CN.out u) (fun _ => rfl)⟩
          | 11, hi =>
            cases (show some _ = some o from hi)
            have e30 : (f.tmps.getD 30 undef) = .agg (ocells (c)) := depO (V := (VRc Ba off cap t gd cd d base px c a7 c7 ls)) hdep 10 30 (by kernel_rfl) (by kernel_rfl)
            clear hdep hsame hi hlate hfr hkeep
            exact .inl ⟨wanted_none rfl, showsO_built hsn rfl 1 23 (ocells c) (run_bs_one u (.tmp 30) rfl c CL.out e30) (fun h => h)⟩
          | 12, hi =>
            cases (show some _ = some o from hi)
            have e20 : (f.tmps.getD 20 undef) = .slice a7 t c7 := depO (V := (VRc Ba off cap t gd cd d base px c a7 c7 ls)) hdep 0 20 (by kernel_rfl) (by kernel_rfl)
            have e31 : BuiltV own u (f.tmps.getD 31 undef) 1 23 (ocells c) := depO (V := (VRc Ba off cap t gd cd d base px c a7 c7 ls)) hdep 11 31 (by kernel_rfl) (by kernel_rfl)
            clear hdep hsame hi hlate hfr
            exact .inl ⟨wanted_none rfl, showsO_append hsn hkeep rfl (.tmp 20) (.tmp 31) 24 rfl base 23 i0 (.agg zeros32) 32 32 underHs RI.out.1 RI.out.2.1 RI.out.2.2.1 RI.out.2.2.2 rfl (by decide) (.slice a7 t c7) t (hcells ls) e20 HO.out (ownOf_at _ _) e31 (by rw [ocells_size, CL.out]) (ocells_one _) M1.out M2.out HBS.out (fun _ _ _ h => h)⟩
          | 13, hi =>
            cases (show some _ = some o from hi)
            have e32 : GrownV own u 12 base 23 32 (f.tmps.getD 32 undef) (t + 1) (hcells ls ++ (ocells c).toList) := depO (V := (VRc Ba off cap t gd cd d base px c a7 c7 ls)) hdep 12 32 (by kernel_rfl) (by kernel_rfl)
            clear hdep hsame hi hlate hfr hkeep
            exact .inl ⟨wanted_none rfl, showsO_assign hsn rfl _ rfl e32⟩
          | n + 14, hi => exact absurd hi (by simp)
        · intro f u own hsame hsn hall
          have q20 : f.tmps.getD 20 undef = .slice a7 t c7 := finO (V := (VRc Ba off cap t gd cd d base px c a7 c7 ls)) hall 0 20 rfl
          have q21 : f.tmps.getD 21 undef = .slice (some ⟨Ba, off, none⟩) 67 cap := finO (V := (VRc Ba off cap t gd cd d base px c a7 c7 ls)) hall 1 21 rfl
          have q22 : f.tmps.getD 22 undef = .int .i64 (t : Int) := finO (V := (VRc Ba off cap t gd cd d base px c a7 c7 ls)) hall 2 22 rfl
          have q23 : f.tmps.getD 23 undef = .pointer (some ⟨Ba, off + t * 32, none⟩) := finO (V := (VRc Ba off cap t gd cd d base px c a7 c7 ls)) hall 3 23 rfl
          have q24 : f.tmps.getD 24 undef = .agg (ocells (px)) := finO (V := (VRc Ba off cap t gd cd d base px c a7 c7 ls)) hall 4 24 rfl
          have q25 : f.tmps.getD 25 undef = .slice (some ⟨gd, 0, none⟩) 67 cd := finO (V := (VRc Ba off cap t gd cd d base px c a7 c7 ls)) hall 5 25 rfl
          have q26 : f.tmps.getD 26 undef = .int .i64 (t : Int) := finO (V := (VRc Ba off cap t gd cd d base px c a7 c7 ls)) hall 6 26 rfl
          have q27 : f.tmps.getD 27 undef = .pointer (some ⟨gd, t, none⟩) := finO (V := (VRc Ba off cap t gd cd d base px c a7 c7 ls)) hall 7 27 rfl
          have q28 : f.tmps.getD 28 undef = .int .i64 (d : Int) := finO (V := (VRc Ba off cap t gd cd d base px c a7 c7 ls)) hall 8 28 rfl
          have q29 : f.tmps.getD 29 undef = .int .i64 (15 - (d : Int)) := finO (V := (VRc Ba off cap t gd cd d base px c a7 c7 ls)) hall 9 29 rfl
          have q30 : f.tmps.getD 30 undef = .agg (ocells (c)) := finO (V := (VRc Ba off cap t gd cd d base px c a7 c7 ls)) hall 10 30 rfl
          obtain ⟨g31, q31, o31, m31⟩ : BuiltV own u (f.tmps.getD 31 undef) 1 23 (ocells c) := finO (V := (VRc Ba off cap t gd cd d base px c a7 c7 ls)) hall 11 31 rfl
          have m32 := finO (V := (VRc Ba off cap t gd cd d base px c a7 c7 ls)) hall 12 32 rfl
          obtain ⟨r32, q32⟩ : ∃ r, f.tmps.getD 32 undef = r := ⟨_, rfl⟩
          rw [q32] at m32
          have m7 := finO (V := (VRc Ba off cap t gd cd d base px c a7 c7 ls)) hall 13 7 rfl
          obtain ⟨r7, q7⟩ : ∃ r, f.tmps.getD 7 undef = r := ⟨_, rfl⟩
          rw [q7] at m7
          obtain rfl := frame_eq hsame [(20, .slice a7 t c7), (21, .slice (some ⟨Ba, off, none⟩) 67 cap), (22, .int .i64 (t : Int)), (23, .pointer (some ⟨Ba, off + t * 32, none⟩)), (24, .agg (ocells (px))), (25, .slice (some ⟨gd, 0, none⟩) 67 cd), (26, .int .i64 (t : Int)), (27, .pointer (some ⟨gd, t, none⟩)), (28, .int .i64 (d : Int)), (29, .int .i64 (15 - (d : Int))), (30, .agg (ocells (c))), (31, .slice (some ⟨g31, 0, none⟩) 1 1), (32, r32), (7, r7)] (by kernel_rfl) ⟨q20, q21, q22, q23, q24, q25, q26, q27, q28, q29, q30, q31, q32, q7, trivial⟩
          clear hall hsame q20 q21 q22 q23 q24 q25 q26 q27 q28 q29 q30 q31 q32 q7
          simp only [List.foldl, List.setIfInBounds_toArray, List.set_cons_succ, List.set_cons_zero]
          have bu := hsn.below (B := W2.heap.size) (fun k hk => ownOf_base HO.out 12 k (by rw [HBE.out]; exact hk)) BW.out.size
          have BU := Bx.mk (BW.out.trans (bu.mono (Nat.le_refl _)))
          have M7 := Bx.mk m7.1
          clear bu m7 m32 hsn
          go_wp2_with fail
          go_roundw
          case rel => exact ⟨t + 1, HLT.out, by go_num, by rw [← HBE.out, ← HPU.out]; exact M7.out, BU.out⟩
          case measure => have := HLT.out; simp [intOf]; omega
      · obtain rfl : t = 67 := by omega
        have hmem := rowOf_mem (f := goB m hs) (t := 67) (fun i hi => goB_length HLN.out HHS.out.1 i hi)
        have cc := close22_any wr a7 67 c7 (rowOf (goB m hs) 67) (hss_own HO.out hmem (rowOf_length _ _).symm) (by rw [rowOf_length]; decide)
        rw [hv_agg] at cc
        have hpl : (recoverB m hs).length = 32 := sha_length _
        have z1 := (BW.out.block _ (Array.getElem?_eq_some_iff.1 Y1.out).1).trans Y1.out
        have z2 := (BW.out.block _ (Array.getElem?_eq_some_iff.1 Y2.out).1).trans Y2.out
        have CC := Bx.mk cc; have PL := Bx.mk hpl; have Z1 := Bx.mk z1; have Z2 := Bx.mk z2
        clear cc hmem hpl z1 z2 hlt ht
        go_wp2_with fail
        refine CC.out.mono ?_
        rintro e w5 ⟨rfl, hb⟩
        have z1 := (hb.block _ (Array.getElem?_eq_some_iff.1 Z1.out).1).trans Z1.out
        have z2 := (hb.block _ (Array.getElem?_eq_some_iff.1 Z2.out).1).trans Z2.out
        have kz := KW.out _ (BW.out.trans (hb.mono BW.out.size))
        have HSZ := Bx.mk (hszL PL.out); have HSO := Bx.mk (hsoL PL.out)
        have u2 : (w5.setRow (N + 1) (ocells (recoverB m hs))).heap[N + 1 + 1]? = some (.cells #[.int .i64 0, .int .i64 0] 28 (0, 0)) := by
          rw [heap_setRow_other _ _ _ _ (by omega)]
          exact z2
        have c0 := er_cellAt u2 0 _ rfl
        have c1 := er_cellAt u2 1 _ rfl
        have f0 := er_frozen u2 0
        have f1 := er_frozen u2 1
        have b3 : Below w.heap.size w (w5.setRow (N + 1) (ocells (recoverB m hs))) := below_setRow kz (by have := HN.out; omega) _
        have r1 : (w5.setRow (N + 1) (ocells (recoverB m hs))).heap[N + 1]? = some (.cells (ocells (recoverB m hs)) 23 (0, 0)) := setRow_heap _ _ _ _ _ _ z1
        have U2 := Bx.mk u2; have B3 := Bx.mk b3; have R1' := Bx.mk r1; have Z1' := Bx.mk z1
        clear u2 b3 r1 z1 z2 kz
        go_wp2_with (guard_target =~ wpList _ _ _ (⟨none, _, _, _, _, _⟩ :: _) _ _; refine wpList_store_row rfl 23 (.tmp 4) (.tmp 34) rfl (N + 1) (ocells (recoverB m hs)) rfl rfl _ _ Z1'.out HSZ.out HSO.out (ocells_one _) ?_)
        have tw := two_set U2.out (.int .i64 0) (.int .i64 0)
        exact bodyPost_ret (results_two_rows rfl _ _ (N + 1) (N + 1 + 1) _ _ (ocells (recoverB m hs)) #[.int .i64 0, .int .i64 0] _ _ rfl ((tw.2 _ (by omega)).trans R1'.out) HSZ.out rfl tw.1 (by kernel_rfl)) rfl ⟨by rw [HV.out], (B3.out.setCell (by have := HN.out; simp; omega) _).setCell (by have := HN.out; simp; omega) _⟩
  · have hv : rrecV m hs = .tuple #[.agg (ocells zero32'), .agg #[.int .i64 2, .int .i64 (-1)]] := by unfold rrecV; rw [if_neg hlen]; rfl
    have HV := Bx.mk hv
    have l1 : ¬ (hs.length : Int) = 67 := by omega
    have l2 : ((hs.length : Int) == 67) = false := by simpa using l1
    clear hv hlen
    generalize hs.length = l at l1 l2 ⊢
    have bz := built_zero
    go_wp2_with fail
    refine (plain_any W 2 (by decide)).mono ?_
    rintro e w5 ⟨rfl, hb⟩
    have z1 := (hb.block _ (Array.getElem?_eq_some_iff.1 X1.out).1).trans X1.out
    have z2 := (hb.block _ (Array.getElem?_eq_some_iff.1 X2.out).1).trans X2.out
    have kz := KB.out.trans (hb.mono KB.out.size)
    clear hb bz l1 l2
    have HSZ := Bx.mk (hszL zero32'_length); have HSO := Bx.mk (hsoL zero32'_length)
    have u2 : (w5.setRow (N + 1) (ocells (zero32'))).heap[N + 1 + 1]? = some (.cells #[.int .i64 0, .int .i64 0] 28 (0, 0)) := by
      rw [heap_setRow_other _ _ _ _ (by omega)]
      exact z2
    have c0 := er_cellAt u2 0 _ rfl
    have c1 := er_cellAt u2 1 _ rfl
    have f0 := er_frozen u2 0
    have f1 := er_frozen u2 1
    have b3 : Below w.heap.size w (w5.setRow (N + 1) (ocells (zero32'))) := below_setRow kz (by have := HN.out; omega) _
    have r1 : (w5.setRow (N + 1) (ocells (zero32'))).heap[N + 1]? = some (.cells (ocells (zero32')) 23 (0, 0)) := setRow_heap _ _ _ _ _ _ z1
    have U2 := Bx.mk u2; have B3 := Bx.mk b3; have R1' := Bx.mk r1; have Z1' := Bx.mk z1
    clear u2 b3 r1 z1 z2 kz
    go_wp2_with (guard_target =~ wpList _ _ _ (⟨none, _, _, _, _, _⟩ :: _) _ _; refine wpList_store_row rfl 23 (.tmp 4) (.tmp 12) rfl (N + 1) (ocells (zero32')) rfl rfl _ _ Z1'.out HSZ.out HSO.out (ocells_one _) ?_)
    have tw := two_set U2.out (.int .i64 2) (.int .i64 (-1))
    exact bodyPost_ret (results_two_rows rfl _ _ (N + 1) (N + 1 + 1) _ _ (ocells (zero32')) #[.int .i64 2, .int .i64 (-1)] _ _ rfl ((tw.2 _ (by omega)).trans R1'.out) HSZ.out rfl tw.1 (by kernel_rfl)) rfl ⟨by rw [HV.out], (B3.out.setCell (by have := HN.out; simp; omega) _).setCell (by have := HN.out; simp; omega) _⟩
end Go.Proofs.YtohifpomdanmkaaDoor
