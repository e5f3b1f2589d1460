/- (*compact.Range).Hashes. -/
import Derived.Test.YtgbafjmklefoiaaGreatDoorZ14
import Derived.Test.YtgbafjmklefoiaaGreatDoorZ08
import Derived.Laws.MakeOwn
import Derived.Lib.SmallJoins
namespace Go.Proofs.YtgbafjmklefoiaaGreatDoor
set_option maxRecDepth 100000
open Go.RowKit
theorem infoHC : (Tryz.prog.info? 81).map (fun i => (i.zero, i.size, i.bytes)) = some (some (.agg zeros32), 32, 32) := by kernel_rfl
def hsC (l : List (Nat × Nat × List UInt8)) : List (List UInt8) := l.map fun p => p.2.2
theorem hsC_mem {l : List (Nat × Nat × List UInt8)} (h : ∀ x ∈ l, x.2.2.length = 32) : ∀ x ∈ hsC l, x.length = 32 := by
  intro x hx
  obtain ⟨p, hp, rfl⟩ := List.mem_map.1 hx
  exact h p hp
theorem hsC_len (l : List (Nat × Nat × List UInt8)) : (hsC l).length = l.length := by simp [hsC]
theorem hsC_take {l : List (Nat × Nat × List UInt8)} {t : Nat} (h : t < l.length) : hsC (l.take (t + 1)) = hsC (l.take t) ++ [l[t].2.2] := by
  unfold hsC
  rw [List.take_succ_eq_append_getElem h, List.map_append]; rfl
def VD6 (t _m _sc Bq oq : Nat) (x : Nat × Nat × List UInt8) (oi : Nat) (v : Value) (own : Nat → Option Nat) (w : World) : Prop :=
  match oi with
  | 0 => v = .pointer (some ⟨Bq, oq + t * 34, none⟩)
  | 1 => v = .agg (ncell x)
  | 2 => AllocV own w v 3 105 34
  | 3 => StoredV own w 3 105 (ncell x)
  | _ => True
def VD6mk : Nat → Option Nat := fun j => match j with | 3 => some 2 | _ => none
theorem VD6_mono (t m sc Bq oq : Nat) (x : Nat × Nat × List UInt8) (oi oj : Nat) (v : Value) (own : Nat → Option Nat) (w : World) (own' : Nat → Option Nat) (w' : World) (hij : oi ≠ oj)   (h : VD6 t m sc Bq oq x oj v own w) (r : Rel VD6mk oi own w own' w') : VD6 t m sc Bq oq x oj v own' w' := by
  unfold VD6 at h ⊢
  split at h
  · exact h
  · exact h
  · exact h.stable r rfl hij
  · exact h.stable r hij
  · trivial

def VD7 (t g5 c3 base : Nat) (a3 : Option Addr) (l : List (Nat × Nat × List UInt8)) (x : Nat × Nat × List UInt8) (oi : Nat) (v : Value) (own : Nat → Option Nat) (w : World) : Prop :=
  match oi with
  | 0 => v = .slice a3 t c3
  | 1 => v = .pointer (some ⟨g5, 2, none⟩)
  | 2 => v = .agg (ocells (x.2.2))
  | 3 => BuiltV own w v 1 81 (ocells x.2.2)
  | 4 => GrownV own w 4 base 81 32 v (t + 1) (hcells (hsC (l.take t)) ++ (ocells x.2.2).toList)
  | 5 => GrownV own w 4 base 81 32 v (t + 1) (hcells (hsC (l.take t)) ++ (ocells x.2.2).toList)
  | _ => True
def VD7mk : Nat → Option Nat := fun _ => none
theorem VD7_mono (t g5 c3 base : Nat) (a3 : Option Addr) (l : List (Nat × Nat × List UInt8)) (x : Nat × Nat × List UInt8) (oi oj : Nat) (v : Value) (own : Nat → Option Nat) (w : World) (own' : Nat → Option Nat) (w' : World) (hij : oi ≠ oj)  (hx0 : oi = 4 → oj = 5 → False) (h : VD7 t g5 c3 base a3 l x oj v own w) (r : Rel VD7mk oi own w own' w') : VD7 t g5 c3 base a3 l x oj v own' w' := by
  unfold VD7 at h ⊢
  split at h
  · exact h
  · exact h
  · exact h
  · exact h.stable r
  · exact h.stable r hij
  · exact h.stable r (fun e => hx0 e rfl)
  · trivial

set_option maxHeartbeats 1600000 in
theorem rhash_any (base : Nat) (w : World) (r B E : Nat) (l : List (Nat × Nat × List UInt8)) (s : Value) (hR : RaP base w r B E l s) (hm : l.length ≤ 1001) :
    Calls Tryz.prog 26 #[.pointer (some ⟨r, 0, none⟩)] w fun e w' => ∃ v, e = .returned v ∧ w'.ownsRow w.heap.size 81 32 v l.length (hcells (hsC l)) ∧ Below w.heap.size w w' := by
  have hown := hR.own
  obtain ⟨Z0, hZ0⟩ : ∃ Z0, Z0 = w.heap.size := ⟨_, rfl⟩
  have HZ := Bx.mk hZ0
  clear hZ0
  obtain ⟨m, hm2⟩ : ∃ m, m = l.length := ⟨_, rfl⟩
  rw [← hm2] at hown
  obtain ⟨sa, sc, hs, -, -, -⟩ := own_shape hown
  subst hs
  have R0 := Bx.mk hR; have HM := Bx.mk hm2; have LM := Bx.mk (show m ≤ 1001 by omega)
  have NS := Bx.mk (nss_own hown hR.h32 hm2); have NS0 := NS; have H32 := Bx.mk hR.h32
  clear hown hR hm hm2
  go_enter Tryz.func26, Tryz.ntmps26
  go_wp2_with fail
  refine (there_any R0.out).mono ?_
  rintro e W ⟨rfl, hb⟩
  have K1 := Bx.mk hb; have R1 := Bx.mk (R0.out.below hb); have N1 := Bx.mk (NS.out.below hb)
  clear hb R0 NS
  have c3 := er_cellAt R1.out.hb 3 _ rfl
  obtain ⟨i0, hi0, hz0, hz1, hz2⟩ := info_parts infoHC
  obtain ⟨W2, hmk, ho, hgr⟩ := run_make_own (P := Tryz.prog) (w := W) Z0 55 81 i0 (.agg zeros32) 32 underHs hi0 hz0 hz1 .i64 .i64 m (by rw [hz2]; have := LM.out; omega) (by have := LM.out; unfold maxLen; omega) (by rw [HZ.out]; exact K1.out.size)
  have RI := Bx.mk (And.intro hi0 (And.intro hz0 (And.intro hz1 hz2)))
  have hb := (show Below W.heap.size W W2 from ⟨hgr.os, hgr.tape, hgr.output, hgr.size, fun k hk => hgr.block k hk (by simp)⟩)
  have O0 := Bx.mk ho; have K2 := Bx.mk (K1.out.trans (hb.mono K1.out.size)); have N2 := Bx.mk (N1.out.below hb)
  have R2 := Bx.mk (R1.out.below hb)
  have c32 := er_cellAt R2.out.hb 3 _ rfl
  have lm := LM.out
  clear ho hgr hb hi0 hz0 hz1 hz2 N1 K1
  go_wp2_with fail
  clear c3 c32 hmk lm R1 R2 N2
  go_loopw [3, 20] (fun lv iv wr => ∃ t : Nat, t ≤ m ∧ iv = .int .i64 (t : Int) ∧ wr.ownsRow Z0 81 32 lv t (hcells (hsC (l.take t))) ∧ Below w.heap.size w wr) (fun _ iv _ => m - (intOf iv).toNat)
  case atStart => exact ⟨0, Nat.zero_le _, rfl, O0.out, K2.out⟩
  case round =>
    obtain ⟨t, ht, rfl, ho, hb⟩ := hrel
    have hns := NS0.out.below hb
    obtain ⟨a3, c3, rfl, -, -, -⟩ := own_shape ho
    have HO := Bx.mk ho; have BW := Bx.mk hb; have NW := Bx.mk hns
    clear ho hb hns
    by_cases hlt : t < m
    · have TP := Bx.mk (show t < l.length by rw [← HM.out]; exact hlt)
      obtain ⟨-, -, -, Bq, oq, e, hbq, hrq, -⟩ := NW.out.at t TP.out
      subst e
      obtain ⟨x, hx⟩ : ∃ x, x = l[t]'(TP.out) := ⟨_, rfl⟩
      have hrq : wr.rangeAt Bq (oq + t * 34) (ncell x).toList := by rw [hx]; exact hrq
      have XL := Bx.mk (show x.2.2.length = 32 by rw [hx]; exact H32.out _ (List.getElem_mem _))
      have RX := Bx.mk hrq; have BQ := Bx.mk hbq
      have HS : Bx (hsC (l.take (t + 1)) = hsC (l.take t) ++ [x.2.2]) := ⟨by rw [hsC_take TP.out, hx]⟩
      have TL := Bx.mk hlt
      have f1 : (t : Int) < (m : Int) := by omega
      clear hx hrq hbq hlt ht
      go_upto_region 6 with (fail)
      refine wp_region_seq8 (n := 31) VD6mk (fun _ => none) (VD6 t m sc Bq oq x) (by kernel_rfl) rfl (fun _ _ => rfl) (fun _ _ _ _ h => by cases h) ?_ ?_ ?_
      · exact fun oi oj v own w own' w' hij h r => VD6_mono t m sc Bq oq x oi oj v own w own' w' (by omega)  h r
      · intro oi o hi f u own hsame hsn hfr hlate hkeep8 hdep
        have hkeep := hkeep8 _ (Nat.le_refl _)
        have hb6 := hsn.below (B := wr.heap.size) (fun _ _ => rfl) (Nat.le_refl _)
        match oi, hi with
        | 0, hi =>
          cases (show some _ = some o from hi)
          have e18 : f.tmps.getD 18 undef = .slice (some ⟨Bq, oq, none⟩) m sc := hlate 18 (earlyS (by kernel_rfl))
          have e20 : f.tmps.getD 20 undef = .int .i64 (t : Int) := hlate 20 (earlyS (by kernel_rfl))
          clear hdep hsame hi hlate hfr hkeep
          have f2 : ¬ (m : Int) ≤ (t : Int) := by have := TL.out; omega
          have f3 : (t : Int) < (m : Int) := by have := TL.out; omega
          exact .inl ⟨wanted_none rfl, showsO_pure hsn rfl (.pointer (some ⟨Bq, oq + t * 34, none⟩)) (by simp only [execOp, Act.eval]; go_simp) rfl⟩
        | 1, hi =>
          cases (show some _ = some o from hi)
          have e22 : (f.tmps.getD 22 undef) = .pointer (some ⟨Bq, oq + t * 34, none⟩) := depS (V := (VD6 t m sc Bq oq x)) hdep 0 22 (by decide) (by kernel_rfl)
          clear hdep hsame hi hlate hfr hkeep
          exact .inl ⟨wanted_none rfl, showsO_mid hsn rfl 105 (.tmp 22) rfl Bq (oq + t * 34) e22 (ncell x).toList (rangeAt_below RX.out BQ.out hb6) underNd rfl (nszB XL.out) rfl⟩
        | 2, hi =>
          cases (show some _ = some o from hi)
          clear hdep hsame hi hlate hkeep
          exact .inl ⟨wanted_none rfl, showsO_alloc hsn hfr rfl zerosN 105 3 rfl (by simp only [execOp, Act.eval]; go_simp <;> rfl) (fun h => h)⟩
        | 3, hi =>
          cases (show some _ = some o from hi)
          have e5 : AllocV own u (f.tmps.getD 5 undef) 3 105 34 := depS (V := (VD6 t m sc Bq oq x)) hdep 2 5 (by decide) (by kernel_rfl)
          have e23 : (f.tmps.getD 23 undef) = .agg (ncell x) := depS (V := (VD6 t m sc Bq oq x)) hdep 1 23 (by decide) (by kernel_rfl)
          clear hdep hsame hi hlate hfr hkeep
          exact .inl ⟨wanted_none rfl, showsO_store_alloc hsn rfl 105 (.tmp 5) (.tmp 23) rfl e5 (ncell x) e23 (nszA XL.out) (by rw [ncell_size XL.out]) (ncell_one _) (fun _ h => h)⟩
        | n + 4, hi => exact absurd hi (by simp)
      intro fr u own hsame hsn hall
      have q22 : fr.tmps.getD 22 undef = .pointer (some ⟨Bq, oq + t * 34, none⟩) := finO (V := (VD6 t m sc Bq oq x)) hall 0 22 rfl
      have q23 : fr.tmps.getD 23 undef = .agg (ncell x) := finO (V := (VD6 t m sc Bq oq x)) hall 1 23 rfl
      obtain ⟨g5, q5, o5, m5⟩ := AllocV.stored (finO (V := (VD6 t m sc Bq oq x)) hall 2 5 rfl) (finN (V := (VD6 t m sc Bq oq x)) hall 3 rfl)
      obtain rfl := frame_eq hsame [(22, .pointer (some ⟨Bq, oq + t * 34, none⟩)), (23, .agg (ncell x)), (5, .pointer (some ⟨g5, 0, none⟩))] (by kernel_rfl) ⟨q22, q23, q5, trivial⟩
      clear hall hsame q22 q23 q5
      simp only [List.foldl, List.setIfInBounds_toArray, List.set_cons_succ, List.set_cons_zero]
      have hb := hsn.below (B := wr.heap.size) (fun _ _ => rfl) (Nat.le_refl _)
      have O1 := Bx.mk (own_keep HO.out (Keep.of_below hb (fun _ => False)) (fun _ _ h => h)); have B1 := Bx.mk (BW.out.trans (hb.mono BW.out.size)); have N1 := Bx.mk (NW.out.below hb); have M5 := Bx.mk m5
      have G5 := Bx.mk (hsn.ge o5 (fun _ _ h => by cases h))
      have NB : Bx (∀ j, (Value.slice a3 t c3).ownBlock = some j → j ≠ g5) := ⟨fun j hj e => by have := ownsRow_lt HO.out j hj; have := G5.out; omega⟩
      have NQ : Bx (∀ j, (Value.slice a3 t c3).ownBlock = some j → w.heap.size ≤ j) := ⟨fun j hj => by rw [← HZ.out]; exact ownsRow_fresh HO.out j hj⟩
      clear hb hsn m5 o5 HO BW NW f1
      have M1 := Bx.mk (show t + 1 ≤ maxLen by have := TL.out; have := LM.out; unfold maxLen; omega); have M2 := Bx.mk (show (t + 1) * 32 ≤ 140737488355328 by have := TL.out; have := LM.out; omega)
      go_upto_region 7 with (fail)
      refine wp_region_seq8 (n := 31) VD7mk (ownOf (.slice a3 t c3) 4) (VD7 t g5 c3 Z0 a3 l x) (by kernel_rfl) rfl (ownOf_top O1.out 4) (fun j i hj _ => by cases hj) ?_ ?_ ?_
      · exact fun oi oj v own w own' w' hij h r => VD7_mono t g5 c3 Z0 a3 l x oi oj v own w own' w' (by omega) (by rintro rfl rfl; omega) h r
      · intro oi o hi f u own hsame hsn hfr hlate hkeep8 hdep
        have hkeep := hkeep8 _ (Nat.le_refl _)
        have hk6 := hsn.keepOf
        match oi, hi with
        | 0, hi =>
          cases (show some _ = some o from hi)
          have e3 : f.tmps.getD 3 undef = .slice a3 t c3 := hlate 3 (earlyS (by kernel_rfl))
          clear hdep hsame hi hlate hfr hkeep
          exact .inl ⟨wanted_none rfl, showsO_move hsn rfl _ rfl e3⟩
        | 1, hi =>
          cases (show some _ = some o from hi)
          have e5 : f.tmps.getD 5 undef = .pointer (some ⟨g5, 0, none⟩) := hlate 5 (earlyS (by kernel_rfl))
          clear hdep hsame hi hlate hfr hkeep
          exact .inl ⟨wanted_none rfl, showsO_pure hsn rfl (.pointer (some ⟨g5, 2, none⟩)) (by simp only [execOp, Act.eval]; go_simp) rfl⟩
        | 2, hi =>
          cases (show some _ = some o from hi)
          have e25 : (f.tmps.getD 25 undef) = .pointer (some ⟨g5, 2, none⟩) := depS (V := (VD7 t g5 c3 Z0 a3 l x)) hdep 1 25 (by decide) (by kernel_rfl)
          clear hdep hsame hi hlate hfr hkeep
          have hrg := (node_cells ((hk6.block _ (Array.getElem?_eq_some_iff.1 M5.out).1 (fun e => NB.out _ e rfl)).trans M5.out)).2
          exact .inl ⟨wanted_none rfl, showsO_mid hsn rfl 81 (.tmp 25) rfl g5 (2) e25 (bcells x.2.2) hrg underH rfl (hszB' XL.out) rfl⟩
        | 3, hi =>
          cases (show some _ = some o from hi)
          have e26 : (f.tmps.getD 26 undef) = .agg (ocells (x.2.2)) := depS (V := (VD7 t g5 c3 Z0 a3 l x)) hdep 2 26 (by decide) (by kernel_rfl)
          clear hdep hsame hi hlate hfr hkeep
          exact .inl ⟨wanted_none rfl, showsO_built hsn rfl 1 81 (ocells x.2.2) (run_bs_one u (.tmp 26) rfl x.2.2 XL.out e26) (fun h => h)⟩
        | 4, hi =>
          cases (show some _ = some o from hi)
          have e24 : (f.tmps.getD 24 undef) = .slice a3 t c3 := depS (V := (VD7 t g5 c3 Z0 a3 l x)) hdep 0 24 (by decide) (by kernel_rfl)
          have e27 : BuiltV own u (f.tmps.getD 27 undef) 1 81 (ocells x.2.2) := depS (V := (VD7 t g5 c3 Z0 a3 l x)) hdep 3 27 (by decide) (by kernel_rfl)
          clear hdep hsame hi hlate hfr
          exact .inl ⟨wanted_none rfl, showsO_append hsn hkeep rfl (.tmp 24) (.tmp 27) 55 rfl Z0 81 i0 (.agg zeros32) 32 32 underHs RI.out.1 RI.out.2.1 RI.out.2.2.1 RI.out.2.2.2 rfl (by decide) (.slice a3 t c3) t (hcells (hsC (l.take t))) e24 O1.out (ownOf_at _ _) e27 (by rw [ocells_size, XL.out]) (ocells_one _) M1.out M2.out (by rw [HZ.out]; exact B1.out.size) (fun _ _ _ h => h)⟩
        | 5, hi =>
          cases (show some _ = some o from hi)
          have e28 : GrownV own u 4 Z0 81 32 (f.tmps.getD 28 undef) (t + 1) (hcells (hsC (l.take t)) ++ (ocells x.2.2).toList) := depS (V := (VD7 t g5 c3 Z0 a3 l x)) hdep 4 28 (by decide) (by kernel_rfl)
          clear hdep hsame hi hlate hfr hkeep
          exact .inl ⟨wanted_none rfl, showsO_assign hsn rfl _ rfl e28⟩
        | n + 6, hi => exact absurd hi (by simp)
      intro fr u2 own hsame hsn hall
      have q24 : fr.tmps.getD 24 undef = .slice a3 t c3 := finO (V := (VD7 t g5 c3 Z0 a3 l x)) hall 0 24 rfl
      have q25 : fr.tmps.getD 25 undef = .pointer (some ⟨g5, 2, none⟩) := finO (V := (VD7 t g5 c3 Z0 a3 l x)) hall 1 25 rfl
      have q26 : fr.tmps.getD 26 undef = .agg (ocells (x.2.2)) := finO (V := (VD7 t g5 c3 Z0 a3 l x)) hall 2 26 rfl
      obtain ⟨g27, q27, o27, m27⟩ : BuiltV own u2 (fr.tmps.getD 27 undef) 1 81 (ocells x.2.2) := finO (V := (VD7 t g5 c3 Z0 a3 l x)) hall 3 27 rfl
      have m28 := finO (V := (VD7 t g5 c3 Z0 a3 l x)) hall 4 28 rfl
      obtain ⟨r28, q28⟩ : ∃ r, fr.tmps.getD 28 undef = r := ⟨_, rfl⟩
      rw [q28] at m28
      have m3 := finO (V := (VD7 t g5 c3 Z0 a3 l x)) hall 5 3 rfl
      obtain ⟨r3, q3⟩ : ∃ r, fr.tmps.getD 3 undef = r := ⟨_, rfl⟩
      rw [q3] at m3
      obtain rfl := frame_eq hsame [(24, .slice a3 t c3), (25, .pointer (some ⟨g5, 2, none⟩)), (26, .agg (ocells (x.2.2))), (27, .slice (some ⟨g27, 0, none⟩) 1 1), (28, r28), (3, r3)] (by kernel_rfl) ⟨q24, q25, q26, q27, q28, q3, trivial⟩
      clear hall hsame q24 q25 q26 q27 q28 q3
      simp only [List.foldl, List.setIfInBounds_toArray, List.set_cons_succ, List.set_cons_zero]
      have hk6 := hsn.keepOf
      have B2 := Bx.mk (B1.out.trans (hk6.below B1.out.size (fun j hj => NQ.out j hj)))
      have P3 := Bx.mk m3.1
      clear m28 m3 hk6 hsn
      have tl := TL.out
      have lm := LM.out
      go_wp2_with fail
      go_roundw
      case rel => exact ⟨t + 1, TL.out, by go_num, by rw [HS.out, ← hcells_push]; exact P3.out, B2.out⟩
      case measure => have := TL.out; simp [intOf]; omega
    · obtain rfl : t = m := by omega
      have f1 : ¬ (t : Int) < (t : Int) := by omega
      have ho := HO.out
      rw [HM.out, List.take_length, ← HM.out] at ho
      have HO2 := Bx.mk ho
      clear ho ht hlt
      go_wp2_with fail
      go_ret
      exact ⟨_, rfl, by rw [← HM.out, ← HZ.out]; exact HO2.out, BW.out⟩
end Go.Proofs.YtgbafjmklefoiaaGreatDoor
