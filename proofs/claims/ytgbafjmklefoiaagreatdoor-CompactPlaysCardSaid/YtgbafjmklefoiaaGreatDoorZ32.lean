/- cartularylaw09.stands. -/
import Derived.Test.YtgbafjmklefoiaaGreatDoorZ27
import Derived.Test.YtgbafjmklefoiaaGreatDoorZ30
import Derived.Test.YtgbafjmklefoiaaGreatDoorZ31
namespace Go.Proofs.YtgbafjmklefoiaaGreatDoor
set_option maxRecDepth 100000
open Go.RowKit
def VLs (wb t n vc B E rt dt : Nat) (va : Option Addr) (hs : List (List UInt8)) (oi : Nat) (v : Value) (own : Nat → Option Nat) (w : World) : Prop :=
  match oi with
  | 0 => v = .pointer (some ⟨wb, 0, none⟩)
  | 1 => v = .int .i64 (t : Int)
  | 2 => v = .pointer (some ⟨wb, 0, none⟩)
  | 3 => v = .pointer (some ⟨wb, 0, none⟩)
  | 4 => v = .pointer (some ⟨wb, t, none⟩)
  | 5 => v = .pointer (some ⟨rt, 0, none⟩)
  | 6 => v = .agg #[.int .u64 (B : Int), .int .u64 (E : Int)]
  | 7 => v = .pointer (some ⟨wb, 0, none⟩)
  | 8 => v = .int .i64 (t : Int)
  | 9 => v = .pointer (some ⟨wb, 0, none⟩)
  | 10 => v = .pointer (some ⟨wb, 4, none⟩)
  | 11 => v = .pointer (some ⟨wb, 4 + t, none⟩)
  | 12 => v = .pointer (some ⟨dt, 0, none⟩)
  | 13 => v = .pointer (some ⟨dt, 0, none⟩)
  | 14 => v = .pointer (some ⟨dt, 0, none⟩)
  | 15 => v = .agg #[.int .u64 (B : Int), .int .u64 (E : Int)]
  | 16 => v = .bool false
  | 17 => v = .bool false
  | 18 => v = .slice va n vc
  | 19 => v = .pointer (some ⟨wb, 0, none⟩)
  | 20 => v = .int .i64 (t : Int)
  | 21 => v = .pointer (some ⟨wb, 0, none⟩)
  | 22 => v = .pointer (some ⟨wb, 4, none⟩)
  | 23 => v = .pointer (some ⟨wb, 4 + t, none⟩)
  | 24 => v = .pointer (some ⟨dt, 0, none⟩)
  | 25 => RowN own w v 0 81 32 n (hcells hs)
  | 26 => v = .bool true
  | 27 => v = .bool false
  | 28 => v = .bool false
  | _ => True
def VLsmk : Nat → Option Nat := fun _ => none
theorem VLs_mono (wb t n vc B E rt dt : Nat) (va : Option Addr) (hs : List (List UInt8)) (oi oj : Nat) (v : Value) (own : Nat → Option Nat) (w : World) (own' : Nat → Option Nat) (w' : World) (hij : oi ≠ oj)   (h : VLs wb t n vc B E rt dt va hs oj v own w) (r : Rel VLsmk oi own w own' w') : VLs wb t n vc B E rt dt va hs oj v own' w' := by
  unfold VLs at h ⊢
  split at h
  · exact h
  · exact h
  · exact h
  · exact h
  · exact h
  · exact h
  · exact h
  · exact h
  · exact h
  · exact h
  · exact h
  · exact h
  · exact h
  · exact h
  · exact h
  · exact h
  · exact h
  · exact h
  · exact h
  · exact h
  · exact h
  · exact h
  · exact h
  · exact h
  · exact h
  · exact h.stable r
  · exact h
  · exact h
  · exact h
  · trivial

/-- what stands leaves -/
def StaR (base : Nat) (w : World) (wb kb n : Nat) (D : CD) (b : CK) (w' : World) : Prop :=
  ∃ b', CW base w' wb D ∧ CB base w' kb n b' ∧ (∀ k, D.F wb k → ¬ b'.F kb k) ∧ Keep (fun j => b.F kb j) w w' ∧ ∀ j, b'.F kb j → b.F kb j ∨ w.heap.size ≤ j
set_option maxHeartbeats 3200000 in
theorem stands9_any (base : Nat) (w : World) (wb kb n0 : Nat) (D : CD) (b : CK) (h : CW base w wb D) (hB : CB base w kb n0 b) (hd : ∀ k, D.F wb k → ¬ b.F kb k) (hbase : base ≤ w.heap.size) (hbn : n0 ≤ 90000000) :
    Calls Tryz.prog 8 #[.pointer (some ⟨wb, 0, none⟩), .pointer (some ⟨kb, 0, none⟩)] w fun e w' => e = .returned (.bool true) ∧ StaR base w wb kb (n0 + 4) D b w' := by
  have H0 := Bx.mk (show StaR base w wb kb (n0 + 0) D b w from ⟨b, h, hB, hd, Keep.refl _ _, fun j hj => .inl hj⟩)
  have BA := Bx.mk hbase; have NN := Bx.mk hbn
  have OLD := Bx.mk (show ∀ j, b.F kb j → j < w.heap.size from hB.lt)
  clear h hB hd hbase hbn
  go_enter Tryz.func8, Tryz.ntmps8
  go_wp2_with fail
  go_loopw [5] (fun iv wr => ∃ t : Nat, t ≤ 4 ∧ iv = .int .i64 (t : Int) ∧ StaR base w wb kb (n0 + t) D b wr) (fun iv _ => 4 - (intOf iv).toNat)
  case atStart => exact ⟨0, by decide, rfl, H0.out⟩
  case round =>
    obtain ⟨t, ht, rfl, b1, hW, hK, hdj, hkp, hfr⟩ := hrel
    have W1 := Bx.mk hW; have K1 := Bx.mk hK; have DJ := Bx.mk hdj; have KP := Bx.mk hkp; have FR := Bx.mk hfr
    clear hW hK hdj hkp hfr H0
    by_cases hlt : t < 4
    · have TL := Bx.mk hlt
      obtain ⟨rt, hrt⟩ : ∃ x, x = D.r t := ⟨_, rfl⟩
      obtain ⟨dt, hdt⟩ : ∃ x, x = D.d t := ⟨_, rfl⟩
      obtain ⟨B, hBB⟩ : ∃ x, x = D.B t := ⟨_, rfl⟩
      obtain ⟨E, hEE⟩ : ∃ x, x = D.E t := ⟨_, rfl⟩
      obtain ⟨lt, hl⟩ : ∃ x, x = D.l t := ⟨_, rfl⟩
      obtain ⟨n, hn⟩ : ∃ x, x = lt.length := ⟨_, rfl⟩
      obtain ⟨hs, hhs⟩ : ∃ x, x = hsC lt := ⟨_, rfl⟩
      have HNN := Bx.mk hn; have HHS := Bx.mk hhs; have HR := Bx.mk hrt.symm; have HDD := Bx.mk hdt.symm
      have RAF := Bx.mk (show ∀ u, CW base u wb D → RaP base u rt B E lt (D.sv t) from fun u hu => by rw [hrt, hBB, hEE, hl]; exact hu.ra t hlt)
      have RMF := Bx.mk (show ∀ u, CW base u wb D → RmP base u dt B E lt (D.dv t) from fun u hu => by rw [hdt, hBB, hEE, hl]; exact hu.rm t hlt)
      have LL := Bx.mk (show lt.length ≤ 128 by rw [hl]; exact (W1.out.st t hlt).le)
      have KH := Bx.mk (show n = hs.length by rw [hn, hhs]; unfold hsC; rw [List.length_map])
      have S32 := Bx.mk (show ∀ x ∈ hs, x.length = 32 by rw [hhs]; exact hsC_mem (RAF.out _ W1.out).h32)
      have cR := W1.out.cR hlt
      rw [← hrt] at cR
      have CH := Bx.mk (rhash_any base wr rt B E lt (D.sv t) (RAF.out _ W1.out) (by have := LL.out; omega))
      have f1 : (t : Int) < 4 := by omega
      have f0 : ¬ (4 : Int) ≤ (t : Int) := by omega
      clear hlt ht hrt hdt hBB hEE hl hn hhs
      go_wp2_with fail
      refine CH.out.mono ?_
      rintro e u1 ⟨v1, rfl, hv1, hb1⟩
      rw [← HNN.out, ← HHS.out] at hv1
      obtain ⟨va, vc, rfl, -, -, -⟩ := own_shape hv1
      have B1 := Bx.mk hb1
      have BS := Bx.mk (show base ≤ wr.heap.size from Nat.le_trans BA.out KP.out.size)
      have FV := Bx.mk (show ∀ j, (Value.slice va n vc).ownBlock = some j → wr.heap.size ≤ j from fun j hj => ownsRow_fresh hv1 j hj)
      have OV1 := Bx.mk (ownsRow_mono hv1 BS.out)
      have CB1 := Bx.mk (bhash9_any base u1 kb (n0 + t) b1 (K1.out.kept (Keep.of_below hb1 (fun _ => False)) (fun _ _ e => e)) (Nat.le_trans BS.out hb1.size) (by have := NN.out; have := TL.out; omega) va vc n (hcells hs) OV1.out (fun j hj e => by have h1 := FV.out j hj; have h2 := K1.out.lt j e; omega) (by have := LL.out; have := HNN.out; omega))
      clear hv1 hb1 CH cR f0
      go_wp2_with fail
      refine CB1.out.mono ?_
      rintro e W3 ⟨rfl, b2, hB2, hkp, hfr⟩
      have KQ := Bx.mk hkp; have FQ := Bx.mk hfr; have K3 := Bx.mk hB2
      have W2 := Bx.mk (show CW base W3 wb D from (W1.out.below B1.out).kept hkp (fun j hj e => DJ.out j hj (e.imp id .inl)))
      have RA := Bx.mk (RAF.out _ W2.out); have RM := Bx.mk (RMF.out _ W2.out)
      have OV3 := Bx.mk (show W3.ownsRow base 81 32 (.slice va n vc) n (hcells hs) from own_keep OV1.out hkp (fun j hj e => by
        have h1 := FV.out j hj
        have h2 := K1.out.lt j (e.imp id .inl)
        omega))
      have HV := Bx.mk (hss_own OV3.out S32.out KH.out)
      clear hB2 hkp hfr CB1 f1
      go_upto_region 6 with (fail)
      refine wp_region_own8 (n := 50) VLsmk (fun _ => none) (VLs wb t n vc B E rt dt va hs) (by kernel_rfl) (by kernel_rfl) rfl (fun _ _ => rfl) (fun j i hj _ => by cases hj) ?_ ?_ ?_
      · exact fun oi oj v own w own' w' hij _ h r => VLs_mono wb t n vc B E rt dt va hs oi oj v own w own' w' hij h r
      · intro oi o hi f u own hsame hsn hfr hlate hkeep8 hdep
        have hkeep := hkeep8 _ (.inl rfl)
        have hb6 := hsn.below (B := W3.heap.size) (fun _ _ => rfl) (Nat.le_refl _)
        match oi, hi with
        | 0, hi =>
          cases (show some _ = some o from hi)
          have e0 : f.tmps.getD 0 undef = .pointer (some ⟨wb, 0, none⟩) := hsame.slot 0 (fun i o h => invB2_not 0 (by kernel_rfl) h)
          clear hdep hsame hi hlate hfr hkeep
          exact .inl ⟨wanted_none rfl, showsO_move hsn rfl _ rfl e0⟩
        | 1, hi =>
          cases (show some _ = some o from hi)
          have e5 : f.tmps.getD 5 undef = .int .i64 (t : Int) := hsame.slot 5 (fun i o h => invB2_not 5 (by kernel_rfl) h)
          clear hdep hsame hi hlate hfr hkeep
          exact .inl ⟨wanted_none rfl, showsO_move hsn rfl _ rfl e5⟩
        | 2, hi =>
          cases (show some _ = some o from hi)
          have e21 : (f.tmps.getD 21 undef) = .pointer (some ⟨wb, 0, none⟩) := depO (V := (VLs wb t n vc B E rt dt va hs)) hdep 0 21 (by kernel_rfl) (by kernel_rfl)
          clear hdep hsame hi hlate hfr hkeep
          exact .inl ⟨wanted_none rfl, showsO_pure hsn rfl (.pointer (some ⟨wb, 0, none⟩)) (by simp only [execOp, Act.eval]; go_simp) rfl⟩
        | 3, hi =>
          cases (show some _ = some o from hi)
          have e23 : (f.tmps.getD 23 undef) = .pointer (some ⟨wb, 0, none⟩) := depO (V := (VLs wb t n vc B E rt dt va hs)) hdep 2 23 (by kernel_rfl) (by kernel_rfl)
          clear hdep hsame hi hlate hfr hkeep
          exact .inl ⟨wanted_none rfl, showsO_pure hsn rfl (.pointer (some ⟨wb, 0, none⟩)) (by simp only [execOp, Act.eval]; go_simp) rfl⟩
        | 4, hi =>
          cases (show some _ = some o from hi)
          have e22 : (f.tmps.getD 22 undef) = .int .i64 (t : Int) := depO (V := (VLs wb t n vc B E rt dt va hs)) hdep 1 22 (by kernel_rfl) (by kernel_rfl)
          have e24 : (f.tmps.getD 24 undef) = .pointer (some ⟨wb, 0, none⟩) := depO (V := (VLs wb t n vc B E rt dt va hs)) hdep 3 24 (by kernel_rfl) (by kernel_rfl)
          clear hdep hsame hi hlate hfr hkeep
          have f2 : ¬ (4 : Int) ≤ (t : Int) := by have := TL.out; omega
          have f3 : (t : Int) < 4 := by have := TL.out; omega
          exact .inl ⟨wanted_none rfl, showsO_pure hsn rfl (.pointer (some ⟨wb, t, none⟩)) (by simp only [execOp, Act.eval]; go_simp) rfl⟩
        | 5, hi =>
          cases (show some _ = some o from hi)
          have e25 : (f.tmps.getD 25 undef) = .pointer (some ⟨wb, t, none⟩) := depO (V := (VLs wb t n vc B E rt dt va hs)) hdep 4 25 (by kernel_rfl) (by kernel_rfl)
          clear hdep hsame hi hlate hfr hkeep
          have cR := (W2.out.below hb6).cR TL.out
          rw [HR.out] at cR
          exact .inl ⟨wanted_none rfl, showsO_pure hsn rfl (.pointer (some ⟨rt, 0, none⟩)) (by simp only [execOp, Act.eval]; go_simp) rfl⟩
        | 6, hi =>
          cases (show some _ = some o from hi)
          have e26 : (f.tmps.getD 26 undef) = .pointer (some ⟨rt, 0, none⟩) := depO (V := (VLs wb t n vc B E rt dt va hs)) hdep 5 26 (by kernel_rfl) (by kernel_rfl)
          clear hdep hsame hi hlate hfr hkeep
          exact .inl ⟨wanted_none rfl, showsO_call1 hsn rfl 28 #[.pointer (some ⟨rt, 0, none⟩)] (by simp only [execOp, Act.eval]; go_simp) (rgspan_any (RA.out.below hb6)) (fun _ => rfl)⟩
        | 7, hi =>
          cases (show some _ = some o from hi)
          have e0 : f.tmps.getD 0 undef = .pointer (some ⟨wb, 0, none⟩) := hsame.slot 0 (fun i o h => invB2_not 0 (by kernel_rfl) h)
          clear hdep hsame hi hlate hfr hkeep
          exact .inl ⟨wanted_none rfl, showsO_move hsn rfl _ rfl e0⟩
        | 8, hi =>
          cases (show some _ = some o from hi)
          have e5 : f.tmps.getD 5 undef = .int .i64 (t : Int) := hsame.slot 5 (fun i o h => invB2_not 5 (by kernel_rfl) h)
          clear hdep hsame hi hlate hfr hkeep
          exact .inl ⟨wanted_none rfl, showsO_move hsn rfl _ rfl e5⟩
        | 9, hi =>
          cases (show some _ = some o from hi)
          have e28 : (f.tmps.getD 28 undef) = .pointer (some ⟨wb, 0, none⟩) := depO (V := (VLs wb t n vc B E rt dt va hs)) hdep 7 28 (by kernel_rfl) (by kernel_rfl)
          clear hdep hsame hi hlate hfr hkeep
          exact .inl ⟨wanted_none rfl, showsO_pure hsn rfl (.pointer (some ⟨wb, 0, none⟩)) (by simp only [execOp, Act.eval]; go_simp) rfl⟩
        | 10, hi =>
          cases (show some _ = some o from hi)
          have e30 : (f.tmps.getD 30 undef) = .pointer (some ⟨wb, 0, none⟩) := depO (V := (VLs wb t n vc B E rt dt va hs)) hdep 9 30 (by kernel_rfl) (by kernel_rfl)
          clear hdep hsame hi hlate hfr hkeep
          exact .inl ⟨wanted_none rfl, showsO_pure hsn rfl (.pointer (some ⟨wb, 4, none⟩)) (by simp only [execOp, Act.eval]; go_simp) rfl⟩
        | 11, hi =>
          cases (show some _ = some o from hi)
          have e29 : (f.tmps.getD 29 undef) = .int .i64 (t : Int) := depO (V := (VLs wb t n vc B E rt dt va hs)) hdep 8 29 (by kernel_rfl) (by kernel_rfl)
          have e31 : (f.tmps.getD 31 undef) = .pointer (some ⟨wb, 4, none⟩) := depO (V := (VLs wb t n vc B E rt dt va hs)) hdep 10 31 (by kernel_rfl) (by kernel_rfl)
          clear hdep hsame hi hlate hfr hkeep
          have f2 : ¬ (4 : Int) ≤ (t : Int) := by have := TL.out; omega
          have f3 : (t : Int) < 4 := by have := TL.out; omega
          exact .inl ⟨wanted_none rfl, showsO_pure hsn rfl (.pointer (some ⟨wb, 4 + t, none⟩)) (by simp only [execOp, Act.eval]; go_simp) rfl⟩
        | 12, hi =>
          cases (show some _ = some o from hi)
          have e32 : (f.tmps.getD 32 undef) = .pointer (some ⟨wb, 4 + t, none⟩) := depO (V := (VLs wb t n vc B E rt dt va hs)) hdep 11 32 (by kernel_rfl) (by kernel_rfl)
          clear hdep hsame hi hlate hfr hkeep
          have cM := (W2.out.below hb6).cM TL.out
          rw [HDD.out] at cM
          exact .inl ⟨wanted_none rfl, showsO_pure hsn rfl (.pointer (some ⟨dt, 0, none⟩)) (by simp only [execOp, Act.eval]; go_simp) rfl⟩
        | 13, hi =>
          cases (show some _ = some o from hi)
          have e33 : (f.tmps.getD 33 undef) = .pointer (some ⟨dt, 0, none⟩) := depO (V := (VLs wb t n vc B E rt dt va hs)) hdep 12 33 (by kernel_rfl) (by kernel_rfl)
          clear hdep hsame hi hlate hfr hkeep
          exact .inl ⟨wanted_none rfl, showsO_pure hsn rfl (.pointer (some ⟨dt, 0, none⟩)) (by simp only [execOp, Act.eval]; go_simp) rfl⟩
        | 14, hi =>
          cases (show some _ = some o from hi)
          have e34 : (f.tmps.getD 34 undef) = .pointer (some ⟨dt, 0, none⟩) := depO (V := (VLs wb t n vc B E rt dt va hs)) hdep 13 34 (by kernel_rfl) (by kernel_rfl)
          clear hdep hsame hi hlate hfr hkeep
          exact .inl ⟨wanted_none rfl, showsO_pure hsn rfl (.pointer (some ⟨dt, 0, none⟩)) (by simp only [execOp, Act.eval]; go_simp) rfl⟩
        | 15, hi =>
          cases (show some _ = some o from hi)
          have e35 : (f.tmps.getD 35 undef) = .pointer (some ⟨dt, 0, none⟩) := depO (V := (VLs wb t n vc B E rt dt va hs)) hdep 14 35 (by kernel_rfl) (by kernel_rfl)
          clear hdep hsame hi hlate hfr hkeep
          exact .inl ⟨wanted_none rfl, showsO_mid hsn rfl 54 (.tmp 35) rfl dt (0) e35 [.int .u64 (B : Int), .int .u64 (E : Int)] (RM.out.below hb6).span Tryz.underlying54 rfl (by kernel_rfl) rfl⟩
        | 16, hi =>
          cases (show some _ = some o from hi)
          have e27 : (f.tmps.getD 27 undef) = .agg #[.int .u64 (B : Int), .int .u64 (E : Int)] := depO (V := (VLs wb t n vc B E rt dt va hs)) hdep 6 27 (by kernel_rfl) (by kernel_rfl)
          have e36 : (f.tmps.getD 36 undef) = .agg #[.int .u64 (B : Int), .int .u64 (E : Int)] := depO (V := (VLs wb t n vc B E rt dt va hs)) hdep 15 36 (by kernel_rfl) (by kernel_rfl)
          clear hdep hsame hi hlate hfr hkeep
          exact .inl ⟨wanted_none rfl, showsO_pure hsn rfl (.bool false) (by simp only [execOp, Act.eval]; go_simp) rfl⟩
        | 17, hi =>
          cases (show some _ = some o from hi)
          have e37 : (f.tmps.getD 37 undef) = .bool false := depO (V := (VLs wb t n vc B E rt dt va hs)) hdep 16 37 (by kernel_rfl) (by kernel_rfl)
          clear hdep hsame hi hlate hfr hkeep
          exact .inl ⟨wanted_none rfl, showsO_move hsn rfl _ rfl e37⟩
        | 18, hi =>
          cases (show some _ = some o from hi)
          have e6 : f.tmps.getD 6 undef = .slice va n vc := hsame.slot 6 (fun i o h => invB2_not 6 (by kernel_rfl) h)
          have eg : f.tmps.getD 38 undef = .bool false := depO (V := (VLs wb t n vc B E rt dt va hs)) hdep 17 38 (by kernel_rfl) (by kernel_rfl)
          clear hdep hsame hi hlate hfr hkeep
          exact .inl ⟨wanted_of 17 rfl eg (by kernel_rfl), showsO_move hsn rfl _ rfl e6⟩
        | 19, hi =>
          cases (show some _ = some o from hi)
          have e0 : f.tmps.getD 0 undef = .pointer (some ⟨wb, 0, none⟩) := hsame.slot 0 (fun i o h => invB2_not 0 (by kernel_rfl) h)
          have eg : f.tmps.getD 38 undef = .bool false := depO (V := (VLs wb t n vc B E rt dt va hs)) hdep 17 38 (by kernel_rfl) (by kernel_rfl)
          clear hdep hsame hi hlate hfr hkeep
          exact .inl ⟨wanted_of 17 rfl eg (by kernel_rfl), showsO_move hsn rfl _ rfl e0⟩
        | 20, hi =>
          cases (show some _ = some o from hi)
          have e5 : f.tmps.getD 5 undef = .int .i64 (t : Int) := hsame.slot 5 (fun i o h => invB2_not 5 (by kernel_rfl) h)
          have eg : f.tmps.getD 38 undef = .bool false := depO (V := (VLs wb t n vc B E rt dt va hs)) hdep 17 38 (by kernel_rfl) (by kernel_rfl)
          clear hdep hsame hi hlate hfr hkeep
          exact .inl ⟨wanted_of 17 rfl eg (by kernel_rfl), showsO_move hsn rfl _ rfl e5⟩
        | 21, hi =>
          cases (show some _ = some o from hi)
          have e40 : (f.tmps.getD 40 undef) = .pointer (some ⟨wb, 0, none⟩) := depO (V := (VLs wb t n vc B E rt dt va hs)) hdep 19 40 (by kernel_rfl) (by kernel_rfl)
          have eg : f.tmps.getD 38 undef = .bool false := depO (V := (VLs wb t n vc B E rt dt va hs)) hdep 17 38 (by kernel_rfl) (by kernel_rfl)
          clear hdep hsame hi hlate hfr hkeep
          exact .inl ⟨wanted_of 17 rfl eg (by kernel_rfl), showsO_pure hsn rfl (.pointer (some ⟨wb, 0, none⟩)) (by simp only [execOp, Act.eval]; go_simp) rfl⟩
        | 22, hi =>
          cases (show some _ = some o from hi)
          have e42 : (f.tmps.getD 42 undef) = .pointer (some ⟨wb, 0, none⟩) := depO (V := (VLs wb t n vc B E rt dt va hs)) hdep 21 42 (by kernel_rfl) (by kernel_rfl)
          have eg : f.tmps.getD 38 undef = .bool false := depO (V := (VLs wb t n vc B E rt dt va hs)) hdep 17 38 (by kernel_rfl) (by kernel_rfl)
          clear hdep hsame hi hlate hfr hkeep
          exact .inl ⟨wanted_of 17 rfl eg (by kernel_rfl), showsO_pure hsn rfl (.pointer (some ⟨wb, 4, none⟩)) (by simp only [execOp, Act.eval]; go_simp) rfl⟩
        | 23, hi =>
          cases (show some _ = some o from hi)
          have e41 : (f.tmps.getD 41 undef) = .int .i64 (t : Int) := depO (V := (VLs wb t n vc B E rt dt va hs)) hdep 20 41 (by kernel_rfl) (by kernel_rfl)
          have e43 : (f.tmps.getD 43 undef) = .pointer (some ⟨wb, 4, none⟩) := depO (V := (VLs wb t n vc B E rt dt va hs)) hdep 22 43 (by kernel_rfl) (by kernel_rfl)
          have eg : f.tmps.getD 38 undef = .bool false := depO (V := (VLs wb t n vc B E rt dt va hs)) hdep 17 38 (by kernel_rfl) (by kernel_rfl)
          clear hdep hsame hi hlate hfr hkeep
          have f2 : ¬ (4 : Int) ≤ (t : Int) := by have := TL.out; omega
          have f3 : (t : Int) < 4 := by have := TL.out; omega
          exact .inl ⟨wanted_of 17 rfl eg (by kernel_rfl), showsO_pure hsn rfl (.pointer (some ⟨wb, 4 + t, none⟩)) (by simp only [execOp, Act.eval]; go_simp) rfl⟩
        | 24, hi =>
          cases (show some _ = some o from hi)
          have e44 : (f.tmps.getD 44 undef) = .pointer (some ⟨wb, 4 + t, none⟩) := depO (V := (VLs wb t n vc B E rt dt va hs)) hdep 23 44 (by kernel_rfl) (by kernel_rfl)
          have eg : f.tmps.getD 38 undef = .bool false := depO (V := (VLs wb t n vc B E rt dt va hs)) hdep 17 38 (by kernel_rfl) (by kernel_rfl)
          clear hdep hsame hi hlate hfr hkeep
          have cM := (W2.out.below hb6).cM TL.out
          rw [HDD.out] at cM
          exact .inl ⟨wanted_of 17 rfl eg (by kernel_rfl), showsO_pure hsn rfl (.pointer (some ⟨dt, 0, none⟩)) (by simp only [execOp, Act.eval]; go_simp) rfl⟩
        | 25, hi =>
          cases (show some _ = some o from hi)
          have e45 : (f.tmps.getD 45 undef) = .pointer (some ⟨dt, 0, none⟩) := depO (V := (VLs wb t n vc B E rt dt va hs)) hdep 24 45 (by kernel_rfl) (by kernel_rfl)
          have eg : f.tmps.getD 38 undef = .bool false := depO (V := (VLs wb t n vc B E rt dt va hs)) hdep 17 38 (by kernel_rfl) (by kernel_rfl)
          clear hdep hsame hi hlate hfr hkeep
          have c := (rmhash_any _ u _ _ _ _ _ (RM.out.below hb6) (by have := LL.out; omega)).mono (fun e w1 ⟨v, h1, h2, h3⟩ => (⟨v, h1, ⟨ownsRow_mono h2 (Nat.zero_le _), fun k hk => ownsRow_fresh h2 k hk⟩, h3⟩ : ∃ v, e = Ending.returned v ∧ (w1.ownsRow 0 81 32 v lt.length (hcells (hsC lt)) ∧ ∀ k, v.ownBlock = some k → u.heap.size ≤ k) ∧ Below u.heap.size u w1))
          rw [← HNN.out, ← HHS.out] at c
          exact .inl ⟨wanted_of 17 rfl eg (by kernel_rfl), showsO_call (R := fun v w' => w'.ownsRow 0 81 32 v n (hcells hs) ∧ ∀ k, v.ownBlock = some k → u.heap.size ≤ k) hsn rfl 30 #[.pointer (some ⟨dt, 0, none⟩)] (by simp only [execOp, Act.eval]; go_simp) c (fun v w' h _ => ⟨h.1, fun k hk => hsn.top k (h.2 k hk)⟩)⟩
        | 26, hi =>
          cases (show some _ = some o from hi)
          have e39 : (f.tmps.getD 39 undef) = .slice va n vc := depO (V := (VLs wb t n vc B E rt dt va hs)) hdep 18 39 (by kernel_rfl) (by kernel_rfl)
          have e46 : RowN own u (f.tmps.getD 46 undef) 0 81 32 n (hcells hs) := depO (V := (VLs wb t n vc B E rt dt va hs)) hdep 25 46 (by kernel_rfl) (by kernel_rfl)
          have eg : f.tmps.getD 38 undef = .bool false := depO (V := (VLs wb t n vc B E rt dt va hs)) hdep 17 38 (by kernel_rfl) (by kernel_rfl)
          clear hdep hsame hi hlate hfr hkeep
          obtain ⟨hr1, _⟩ := e46
          obtain ⟨ax, cx, e46, _, _, _⟩ := own_shape hr1
          rw [e46] at hr1
          have c := same_any u _ _ _ hs _ _ _ hs (HV.out.below hb6) (hss_own hr1 S32.out KH.out)
          rw [beq_self_eq_true] at c
          exact .inl ⟨wanted_of 17 rfl eg (by kernel_rfl), showsO_call1 hsn rfl 29 #[.slice va n vc, .slice ax n cx] (by simp only [execOp, Act.eval]; go_simp) (c) (fun _ => rfl)⟩
        | 27, hi =>
          cases (show some _ = some o from hi)
          have e47 : (f.tmps.getD 47 undef) = .bool true := depO (V := (VLs wb t n vc B E rt dt va hs)) hdep 26 47 (by kernel_rfl) (by kernel_rfl)
          have eg : f.tmps.getD 38 undef = .bool false := depO (V := (VLs wb t n vc B E rt dt va hs)) hdep 17 38 (by kernel_rfl) (by kernel_rfl)
          clear hdep hsame hi hlate hfr hkeep
          exact .inl ⟨wanted_of 17 rfl eg (by kernel_rfl), showsO_pure hsn rfl (.bool false) (by simp only [execOp, Act.eval]; go_simp) rfl⟩
        | 28, hi =>
          cases (show some _ = some o from hi)
          have e38 : (f.tmps.getD 38 undef) = .bool false := depO (V := (VLs wb t n vc B E rt dt va hs)) hdep 17 38 (by kernel_rfl) (by kernel_rfl)
          have e48 : (f.tmps.getD 48 undef) = .bool false := depO (V := (VLs wb t n vc B E rt dt va hs)) hdep 27 48 (by kernel_rfl) (by kernel_rfl)
          clear hdep hsame hi hlate hfr hkeep
          exact .inl ⟨wanted_none rfl, showsO_pure hsn rfl (.bool false) (by simp only [execOp, Act.eval]; go_simp) rfl⟩
        | n + 29, hi => exact absurd hi (by simp)
      · intro f W4 own hsame hsn hall
        have q21 : f.tmps.getD 21 undef = .pointer (some ⟨wb, 0, none⟩) := finO (V := (VLs wb t n vc B E rt dt va hs)) hall 0 21 rfl
        have q22 : f.tmps.getD 22 undef = .int .i64 (t : Int) := finO (V := (VLs wb t n vc B E rt dt va hs)) hall 1 22 rfl
        have q23 : f.tmps.getD 23 undef = .pointer (some ⟨wb, 0, none⟩) := finO (V := (VLs wb t n vc B E rt dt va hs)) hall 2 23 rfl
        have q24 : f.tmps.getD 24 undef = .pointer (some ⟨wb, 0, none⟩) := finO (V := (VLs wb t n vc B E rt dt va hs)) hall 3 24 rfl
        have q25 : f.tmps.getD 25 undef = .pointer (some ⟨wb, t, none⟩) := finO (V := (VLs wb t n vc B E rt dt va hs)) hall 4 25 rfl
        have q26 : f.tmps.getD 26 undef = .pointer (some ⟨rt, 0, none⟩) := finO (V := (VLs wb t n vc B E rt dt va hs)) hall 5 26 rfl
        have q27 : f.tmps.getD 27 undef = .agg #[.int .u64 (B : Int), .int .u64 (E : Int)] := finO (V := (VLs wb t n vc B E rt dt va hs)) hall 6 27 rfl
        have q28 : f.tmps.getD 28 undef = .pointer (some ⟨wb, 0, none⟩) := finO (V := (VLs wb t n vc B E rt dt va hs)) hall 7 28 rfl
        have q29 : f.tmps.getD 29 undef = .int .i64 (t : Int) := finO (V := (VLs wb t n vc B E rt dt va hs)) hall 8 29 rfl
        have q30 : f.tmps.getD 30 undef = .pointer (some ⟨wb, 0, none⟩) := finO (V := (VLs wb t n vc B E rt dt va hs)) hall 9 30 rfl
        have q31 : f.tmps.getD 31 undef = .pointer (some ⟨wb, 4, none⟩) := finO (V := (VLs wb t n vc B E rt dt va hs)) hall 10 31 rfl
        have q32 : f.tmps.getD 32 undef = .pointer (some ⟨wb, 4 + t, none⟩) := finO (V := (VLs wb t n vc B E rt dt va hs)) hall 11 32 rfl
        have q33 : f.tmps.getD 33 undef = .pointer (some ⟨dt, 0, none⟩) := finO (V := (VLs wb t n vc B E rt dt va hs)) hall 12 33 rfl
        have q34 : f.tmps.getD 34 undef = .pointer (some ⟨dt, 0, none⟩) := finO (V := (VLs wb t n vc B E rt dt va hs)) hall 13 34 rfl
        have q35 : f.tmps.getD 35 undef = .pointer (some ⟨dt, 0, none⟩) := finO (V := (VLs wb t n vc B E rt dt va hs)) hall 14 35 rfl
        have q36 : f.tmps.getD 36 undef = .agg #[.int .u64 (B : Int), .int .u64 (E : Int)] := finO (V := (VLs wb t n vc B E rt dt va hs)) hall 15 36 rfl
        have q37 : f.tmps.getD 37 undef = .bool false := finO (V := (VLs wb t n vc B E rt dt va hs)) hall 16 37 rfl
        have q38 : f.tmps.getD 38 undef = .bool false := finO (V := (VLs wb t n vc B E rt dt va hs)) hall 17 38 rfl
        have q39 : f.tmps.getD 39 undef = .slice va n vc := finO (V := (VLs wb t n vc B E rt dt va hs)) hall 18 39 rfl
        have q40 : f.tmps.getD 40 undef = .pointer (some ⟨wb, 0, none⟩) := finO (V := (VLs wb t n vc B E rt dt va hs)) hall 19 40 rfl
        have q41 : f.tmps.getD 41 undef = .int .i64 (t : Int) := finO (V := (VLs wb t n vc B E rt dt va hs)) hall 20 41 rfl
        have q42 : f.tmps.getD 42 undef = .pointer (some ⟨wb, 0, none⟩) := finO (V := (VLs wb t n vc B E rt dt va hs)) hall 21 42 rfl
        have q43 : f.tmps.getD 43 undef = .pointer (some ⟨wb, 4, none⟩) := finO (V := (VLs wb t n vc B E rt dt va hs)) hall 22 43 rfl
        have q44 : f.tmps.getD 44 undef = .pointer (some ⟨wb, 4 + t, none⟩) := finO (V := (VLs wb t n vc B E rt dt va hs)) hall 23 44 rfl
        have q45 : f.tmps.getD 45 undef = .pointer (some ⟨dt, 0, none⟩) := finO (V := (VLs wb t n vc B E rt dt va hs)) hall 24 45 rfl
        have m46 := finO (V := (VLs wb t n vc B E rt dt va hs)) hall 25 46 rfl
        obtain ⟨r46, q46⟩ : ∃ r, f.tmps.getD 46 undef = r := ⟨_, rfl⟩
        rw [q46] at m46
        have q47 : f.tmps.getD 47 undef = .bool true := finO (V := (VLs wb t n vc B E rt dt va hs)) hall 26 47 rfl
        have q48 : f.tmps.getD 48 undef = .bool false := finO (V := (VLs wb t n vc B E rt dt va hs)) hall 27 48 rfl
        have q49 : f.tmps.getD 49 undef = .bool false := finO (V := (VLs wb t n vc B E rt dt va hs)) hall 28 49 rfl
        obtain rfl := frame_eq hsame [(21, .pointer (some ⟨wb, 0, none⟩)), (22, .int .i64 (t : Int)), (23, .pointer (some ⟨wb, 0, none⟩)), (24, .pointer (some ⟨wb, 0, none⟩)), (25, .pointer (some ⟨wb, t, none⟩)), (26, .pointer (some ⟨rt, 0, none⟩)), (27, .agg #[.int .u64 (B : Int), .int .u64 (E : Int)]), (28, .pointer (some ⟨wb, 0, none⟩)), (29, .int .i64 (t : Int)), (30, .pointer (some ⟨wb, 0, none⟩)), (31, .pointer (some ⟨wb, 4, none⟩)), (32, .pointer (some ⟨wb, 4 + t, none⟩)), (33, .pointer (some ⟨dt, 0, none⟩)), (34, .pointer (some ⟨dt, 0, none⟩)), (35, .pointer (some ⟨dt, 0, none⟩)), (36, .agg #[.int .u64 (B : Int), .int .u64 (E : Int)]), (37, .bool false), (38, .bool false), (39, .slice va n vc), (40, .pointer (some ⟨wb, 0, none⟩)), (41, .int .i64 (t : Int)), (42, .pointer (some ⟨wb, 0, none⟩)), (43, .pointer (some ⟨wb, 4, none⟩)), (44, .pointer (some ⟨wb, 4 + t, none⟩)), (45, .pointer (some ⟨dt, 0, none⟩)), (46, r46), (47, .bool true), (48, .bool false), (49, .bool false)] (by kernel_rfl) ⟨q21, q22, q23, q24, q25, q26, q27, q28, q29, q30, q31, q32, q33, q34, q35, q36, q37, q38, q39, q40, q41, q42, q43, q44, q45, q46, q47, q48, q49, trivial⟩
        clear hall hsame q21 q22 q23 q24 q25 q26 q27 q28 q29 q30 q31 q32 q33 q34 q35 q36 q37 q38 q39 q40 q41 q42 q43 q44 q45 q46 q47 q48 q49
        simp only [List.foldl, List.setIfInBounds_toArray, List.set_cons_succ, List.set_cons_zero]
        have hb4 := hsn.below (B := W3.heap.size) (fun _ _ => rfl) (Nat.le_refl _)
        have NX := Bx.mk (show StaR base w wb kb (n0 + (t + 1)) D b W4 from ⟨b2, W2.out.below hb4, K3.out.kept (Keep.of_below hb4 (fun _ => False)) (fun _ _ e => e), fun k h1 h2 => by
            rcases FQ.out k h2 with h3 | h3 | h3
            · exact DJ.out k h1 h3
            · have h4 := FV.out k h3; have h5 := W1.out.lt k h1; omega
            · have h4 := W1.out.lt k h1; have h5 := B1.out.size; omega,
          ((KP.out.trans (Keep.of_below B1.out (fun j => b.F kb j)) (fun _ _ h => h)).trans KQ.out (fun k hk e => by
            rcases FR.out k (e.imp id .inl) with h3 | h3
            · exact h3
            · omega)).trans (Keep.of_below hb4 (fun j => b.F kb j)) (fun _ _ h => h),
          fun j hj => by
            rcases FQ.out j hj with h3 | h3 | h3
            · exact FR.out j h3
            · have h4 := FV.out j h3; have h5 := KP.out.size; right; omega
            · have h4 := B1.out.size; have h5 := KP.out.size; right; omega⟩)
        have tl := TL.out
        clear hsn hb4 m46
        go_wp2_with fail
        go_roundw
        case rel => exact ⟨t + 1, TL.out, by go_num, NX.out⟩
        case measure => have := TL.out; simp [intOf]; omega
    · obtain rfl : t = 4 := by omega
      have RES := Bx.mk (show StaR base w wb kb (n0 + 4) D b wr from ⟨b1, W1.out, K1.out, DJ.out, KP.out, FR.out⟩)
      clear ht hlt W1 K1 DJ KP FR
      go_wp2_with fail
      go_ret
      exact ⟨rfl, RES.out⟩
end Go.Proofs.YtgbafjmklefoiaaGreatDoor
