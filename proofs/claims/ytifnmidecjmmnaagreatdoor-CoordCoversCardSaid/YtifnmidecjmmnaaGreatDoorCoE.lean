/- cartulary/coord, walked: Cmp. -/
import Derived.Test.YtifnmidecjmmnaaGreatDoorCoD
namespace Go.Proofs.YtifnmidecjmmnaaGreatDoor
open Go.RowKit
def ordN (a b : Nat) : Int := if a < b then -1 else if b < a then 1 else 0
set_option maxHeartbeats 800000 in
theorem cmp64_any (w : World) (a b : Nat) : Calls Tryz.prog 106 #[.int .u64 (a : Int), .int .u64 (b : Int)] w fun e w' => e = .returned (.int .i64 (ordN a b)) ∧ w' = w := by
  unfold ordN
  by_cases h1 : a < b
  · go_enter Tryz.func106, Tryz.ntmps106
    go_wp2
    go_ret
    exact ⟨rfl, rfl⟩
  · by_cases h2 : b < a
    · go_enter Tryz.func106, Tryz.ntmps106
      go_wp2
      go_ret
      exact ⟨rfl, rfl⟩
    · obtain rfl : a = b := by omega
      go_enter Tryz.func106, Tryz.ntmps106
      go_wp2
      go_ret
      exact ⟨rfl, rfl⟩
set_option maxHeartbeats 800000 in
theorem cmp8_any (w : World) (a b : Nat) : Calls Tryz.prog 107 #[.int .u8 (a : Int), .int .u8 (b : Int)] w fun e w' => e = .returned (.int .i64 (ordN a b)) ∧ w' = w := by
  unfold ordN
  by_cases h1 : a < b
  · go_enter Tryz.func107, Tryz.ntmps107
    go_wp2
    go_ret
    exact ⟨rfl, rfl⟩
  · by_cases h2 : b < a
    · go_enter Tryz.func107, Tryz.ntmps107
      go_wp2
      go_ret
      exact ⟨rfl, rfl⟩
    · obtain rfl : a = b := by omega
      go_enter Tryz.func107, Tryz.ntmps107
      go_wp2
      go_ret
      exact ⟨rfl, rfl⟩
set_option maxHeartbeats 800000 in
theorem cmpi_any (w : World) (a b : Nat) : Calls Tryz.prog 108 #[.int .i64 (a : Int), .int .i64 (b : Int)] w fun e w' => e = .returned (.int .i64 (ordN a b)) ∧ w' = w := by
  unfold ordN
  by_cases h1 : a < b
  · go_enter Tryz.func108, Tryz.ntmps108
    go_wp2
    go_ret
    exact ⟨rfl, rfl⟩
  · by_cases h2 : b < a
    · go_enter Tryz.func108, Tryz.ntmps108
      go_wp2
      go_ret
      exact ⟨rfl, rfl⟩
    · obtain rfl : a = b := by omega
      go_enter Tryz.func108, Tryz.ntmps108
      go_wp2
      go_ret
      exact ⟨rfl, rfl⟩
theorem cmpN_zero_l {La Lb Ib : Nat} (h : Ib ≠ 0) : cmpN La 0 Lb Ib = -1 := by
  have := Nat.two_pow_pos Lb
  exact cmpN_lt (by rw [Nat.zero_mul]; exact Nat.mul_pos (Nat.pos_of_ne_zero h) this)
theorem cmpN_zero_r {La Lb Ia : Nat} (h : Ia ≠ 0) : cmpN La Ia Lb 0 = 1 := by
  have := Nat.two_pow_pos La
  exact cmpN_gt (by rw [Nat.zero_mul]; exact Nat.mul_pos (Nat.pos_of_ne_zero h) this)
theorem cmpN_same {La Ia Lb Ib : Nat} (h : Ia * 2 ^ La = Ib * 2 ^ Lb) : cmpN La Ia Lb Ib = ordN Lb La := cmpN_eq h
theorem cmpN_bits {La Ia Lb Ib : Nat} (ha : Ia < 2 ^ 64) (hb : Ib < 2 ^ 64) (ha0 : Ia ≠ 0) (hb0 : Ib ≠ 0) (h : Lib.bitLen Ia + La ≠ Lib.bitLen Ib + Lb) : cmpN La Ia Lb Ib = ordN (Lib.bitLen Ia + La) (Lib.bitLen Ib + Lb) := by
  unfold ordN
  rcases Nat.lt_or_gt_of_ne h with h1 | h1
  · rw [if_pos h1]; exact cmpN_lt (scaled_lt ha hb ha0 hb0 h1)
  · rw [if_neg (by omega), if_pos h1]; exact cmpN_gt (scaled_lt hb ha hb0 ha0 h1)
theorem cmpN_shift {La Ia Lb Ib : Nat} (h : Lb ≤ La) : cmpN La Ia Lb Ib = if Ia * 2 ^ (La - Lb) = Ib then ordN Lb La else ordN (Ia * 2 ^ (La - Lb)) Ib := by
  have h1 := scale_lt h (Ia := Ia) (Ib := Ib)
  have h2 := scale_gt h (Ia := Ia) (Ib := Ib)
  unfold cmpN ordN
  generalize Ia * 2 ^ La = p at *
  generalize Ib * 2 ^ Lb = q at *
  generalize Ia * 2 ^ (La - Lb) = r at *
  by_cases e : r = Ib
  · rw [if_pos e, if_neg (by omega), if_neg (by omega)]
  · rw [if_neg e]
    by_cases l : r < Ib
    · rw [if_pos (show p < q by omega), if_pos l]
    · rw [if_neg (show ¬ p < q by omega), if_pos (show q < p by omega), if_neg l, if_pos (show Ib < r by omega)]
theorem shift_fits {La Ia Lb Ib : Nat} (ha : Ia < 2 ^ 64) (hb : Ib < 2 ^ 64) (ha0 : Ia ≠ 0) (hb0 : Ib ≠ 0) (h : Lb ≤ La) (he : Lib.bitLen Ia + La = Lib.bitLen Ib + Lb) : La - Lb < 64 ∧ Ia * 2 ^ (La - Lb) < 2 ^ 64 := by
  obtain ⟨a1, _, a3⟩ := bitLen_bounds ha ha0
  obtain ⟨b1, b2, _⟩ := bitLen_bounds hb hb0
  have b4 : Lib.bitLen Ib ≤ 64 := Lib.bitLen_le Ib 64 (by decide) hb
  refine ⟨by omega, ?_⟩
  have : Ia * 2 ^ (La - Lb) < 2 ^ Lib.bitLen Ia * 2 ^ (La - Lb) := Nat.mul_lt_mul_of_pos_right a3 (Nat.two_pow_pos _)
  rw [← Nat.pow_add, show Lib.bitLen Ia + (La - Lb) = Lib.bitLen Ib by omega] at this
  exact Nat.lt_of_lt_of_le this (Nat.pow_le_pow_right (by decide) b4)
theorem ordN_swap (a b : Nat) : 0 - ordN a b = ordN b a := by
  unfold ordN
  repeat' split
  all_goals first | rfl | omega
theorem wrap8_nat {n : Nat} {x : Int} (hx : x = (n : Int)) (h : n < 256) : IntKind.u8.wrap x = (n : Int) := by
  subst hx
  simp [IntKind.wrap, IntKind.bits, IntKind.signed]; omega
set_option maxHeartbeats 3200000 in
theorem cmp_any (w : World) (La Ia Lb Ib : Nat) (hLa : La < 256) (hLb : Lb < 256) (hIa : Ia < 2 ^ 64) (hIb : Ib < 2 ^ 64) :
    Calls Tryz.prog 69 #[cv La Ia, cv Lb Ib] w fun e w' => e = .returned (.int .i64 (cmpN La Ia Lb Ib)) ∧ Below w.heap.size w w' := by
  have k0 : Below w.heap.size w ((w.alloc (.cells #[.int .u8 (La : Int), .int .u64 (Ia : Int)] 59)).alloc (.cells #[.int .u8 (Lb : Int), .int .u64 (Ib : Int)] 59)) := (below_new _ _).alloc (by simp) _
  have K0 := Bx.mk k0; clear k0
  have hc64 := cmp64_any; have hc8 := cmp8_any; have hci := cmpi_any
  have HC64 := Bx.mk hc64; have HC8 := Bx.mk hc8; have HCI := Bx.mk hci; clear hc64 hc8 hci
  unfold cv
  by_cases ha0 : Ia = 0
  · subst ha0
    by_cases hb0 : Ib = 0
    · subst hb0
      rw [cmpN_same (by simp)]
      go_enter Tryz.func69, Tryz.ntmps69
      go_wp2_with fail
      refine (HC8.out _ Lb La).mono ?_
      rintro e w1 ⟨rfl, rfl⟩
      go_wp2_with fail
      go_ret
      exact ⟨rfl, K0.out⟩
    · rw [cmpN_zero_l hb0, show (-1 : Int) = ordN 0 Ib by unfold ordN; rw [if_pos (by omega)]]
      have hne : ((0 : Int) != (Ib : Int)) = true := by simp; omega
      go_enter Tryz.func69, Tryz.ntmps69
      go_wp2_with fail
      refine (HC64.out _ 0 Ib).mono ?_
      rintro e w1 ⟨rfl, rfl⟩
      go_wp2_with fail
      go_ret
      exact ⟨rfl, K0.out⟩
  · by_cases hb0 : Ib = 0
    · subst hb0
      rw [cmpN_zero_r ha0, show (1 : Int) = ordN Ia 0 by unfold ordN; rw [if_neg (by omega), if_pos (by omega)]]
      go_enter Tryz.func69, Tryz.ntmps69
      go_wp2_with fail
      refine (HC64.out _ Ia 0).mono ?_
      rintro e w1 ⟨rfl, rfl⟩
      go_wp2_with fail
      go_ret
      exact ⟨rfl, K0.out⟩
    · have hla := fun w => len_any Ia w hIa
      have hlb := fun w => len_any Ib w hIb
      have b1 : Lib.bitLen Ia ≤ 64 := Lib.bitLen_le Ia 64 (by decide) hIa
      have b2 : Lib.bitLen Ib ≤ 64 := Lib.bitLen_le Ib 64 (by decide) hIb
      have HLA := Bx.mk hla; have HLB := Bx.mk hlb; clear hla hlb
      have za : ((Ia : Int) == 0) = false := by simp; omega
      have zb : ((Ib : Int) == 0) = false := by simp; omega
      go_enter Tryz.func69, Tryz.ntmps69
      go_wp2_with fail
      go_quiet ((go_at_call 13; refine Calls.quiet_of_same (HLA.out _)))
      obtain ⟨W, hW, y1, y2, y3⟩ : ∃ W, W = (((w.alloc (.cells #[.int .u8 (La : Int), .int .u64 (Ia : Int)] 59)).alloc (.cells #[.int .u8 (Lb : Int), .int .u64 (Ib : Int)] 59)).drewN nq) ∧ W.heap[w.heap.size]? = some (.cells #[.int .u8 (La : Int), .int .u64 (Ia : Int)] 59 (0, 0)) ∧ W.heap[w.heap.size + 1]? = some (.cells #[.int .u8 (Lb : Int), .int .u64 (Ib : Int)] 59 (0, 0)) ∧ Below w.heap.size w W :=
        ⟨_, rfl, (two_new (below_drewN (Below.refl _ _) nq)).1, (two_new (below_drewN (Below.refl _ _) nq)).2.1, below_drewN K0.out nq⟩
      rw [← hW]
      obtain ⟨a1, a2, a3, a4⟩ := two_cells y1
      obtain ⟨b1', b2', b3, b4⟩ := two_cells y2
      have HB := Bx.mk y3; have Y1 := Bx.mk y1; have Y2 := Bx.mk y2
      clear hW y1 y2 y3 K0
      go_wp2_with fail
      go_quiet ((go_at_call 13; refine Calls.quiet_of_same (HLB.out _)))
      have hbits := fun h => cmpN_bits (La := La) (Lb := Lb) hIa hIb ha0 hb0 h
      have hfit := fun h h' => shift_fits (La := La) (Lb := Lb) hIa hIb ha0 hb0 h h'
      have hfit' := fun h h' => shift_fits (La := Lb) (Lb := La) hIb hIa hb0 ha0 h h'
      generalize Lib.bitLen Ia = ka at *
      generalize Lib.bitLen Ib = kb at *
      obtain ⟨V, hV, y1, y2, y3⟩ : ∃ V, V = W.drewN nq ∧ V.heap[w.heap.size]? = some (.cells #[.int .u8 (La : Int), .int .u64 (Ia : Int)] 59 (0, 0)) ∧ V.heap[w.heap.size + 1]? = some (.cells #[.int .u8 (Lb : Int), .int .u64 (Ib : Int)] 59 (0, 0)) ∧ Below w.heap.size w V :=
        ⟨_, rfl, Y1.out, Y2.out, below_drewN HB.out nq⟩
      rw [← hV]
      obtain ⟨a1, a2, a3, a4⟩ := two_cells y1
      obtain ⟨b1', b2', b3, b4⟩ := two_cells y2
      have HV := Bx.mk y3; have Y3 := Bx.mk y1; have Y4 := Bx.mk y2
      clear hV HB Y1 Y2
      have HBITS := Bx.mk hbits; have HFIT := Bx.mk hfit; have HFIT' := Bx.mk hfit'
      clear y1 y2 y3 hbits hfit hfit' HLA HLB
      by_cases hne : ka + La = kb + Lb
      · have hci : ((ka : Int) + (La : Int) != (kb : Int) + (Lb : Int)) = false := by simp; omega
        go_wp2_with fail
        go_quiet (fail)
        obtain ⟨U, hU, y1, y2, y3⟩ : ∃ U, U = V.drewN nq ∧ U.heap[w.heap.size]? = some (.cells #[.int .u8 (La : Int), .int .u64 (Ia : Int)] 59 (0, 0)) ∧ U.heap[w.heap.size + 1]? = some (.cells #[.int .u8 (Lb : Int), .int .u64 (Ib : Int)] 59 (0, 0)) ∧ Below w.heap.size w U :=
          ⟨_, rfl, Y3.out, Y4.out, below_drewN HV.out nq⟩
        rw [← hU]
        obtain ⟨a1, a2, a3, a4⟩ := two_cells y1
        obtain ⟨b1', b2', b3, b4⟩ := two_cells y2
        have HU := Bx.mk y3
        clear hU HV Y3 Y4 y1 y2 y3
        by_cases hge : Lb ≤ La
        · obtain ⟨f1, f2⟩ := HFIT.out hge hne
          have e1 : IntKind.u8.wrap ((La : Int) - (Lb : Int)) = ((La - Lb : Nat) : Int) := wrap8_nat (n := La - Lb) (by omega) (by omega)
          have hs := cmpN_shift (Ia := Ia) (Ib := Ib) hge
          have e2 : IntKind.u64.wrap ((Ia : Int) * 2 ^ (La - Lb)) = ((Ia * 2 ^ (La - Lb) : Nat) : Int) := wrap_nat (by simp) f2
          generalize Ia * 2 ^ (La - Lb) = r at e2 f2 hs
          clear HFIT HFIT' HBITS
          by_cases hr : r = Ib
          · rw [if_pos hr] at hs
            have HS := Bx.mk hs; clear hs
            subst hr
            go_wp2_with fail
            refine (HC8.out _ Lb La).mono ?_
            rintro e w1 ⟨rfl, rfl⟩
            go_wp2_with fail
            go_ret
            exact ⟨by rw [HS.out]; rfl, HU.out⟩
          · rw [if_neg hr] at hs
            have HS := Bx.mk hs; clear hs
            have hr' : ((r : Int) != (Ib : Int)) = true := by simp; omega
            clear hr
            go_wp2_with fail
            refine (HC64.out _ r Ib).mono ?_
            rintro e w1 ⟨rfl, rfl⟩
            go_wp2_with fail
            go_ret
            exact ⟨by rw [HS.out]; rfl, HU.out⟩
        · obtain ⟨f1, f2⟩ := HFIT'.out (by omega) hne.symm
          have e1 : IntKind.u8.wrap ((Lb : Int) - (La : Int)) = ((Lb - La : Nat) : Int) := wrap8_nat (n := Lb - La) (by omega) (by omega)
          have hs := cmpN_shift (La := Lb) (Lb := La) (Ia := Ib) (Ib := Ia) (by omega)
          have e2 : IntKind.u64.wrap ((Ib : Int) * 2 ^ (Lb - La)) = ((Ib * 2 ^ (Lb - La) : Nat) : Int) := wrap_nat (by simp) f2
          generalize Ib * 2 ^ (Lb - La) = r at e2 f2 hs
          clear HFIT HFIT' HBITS
          by_cases hr : r = Ia
          · rw [if_pos hr] at hs
            have HS := Bx.mk hs; clear hs
            subst hr
            go_wp2_with fail
            refine (HC8.out _ Lb La).mono ?_
            rintro e w1 ⟨rfl, rfl⟩
            go_wp2_with fail
            go_ret
            exact ⟨by rw [cmpN_swap, HS.out, ordN_swap]; rfl, HU.out⟩
          · rw [if_neg hr] at hs
            have HS := Bx.mk hs; clear hs
            have hr' : ((Ia : Int) != (r : Int)) = true := by simp; omega
            clear hr
            go_wp2_with fail
            refine (HC64.out _ Ia r).mono ?_
            rintro e w1 ⟨rfl, rfl⟩
            go_wp2_with fail
            go_ret
            exact ⟨by rw [cmpN_swap, HS.out, ordN_swap]; rfl, HU.out⟩
      · have hci : ((ka : Int) + (La : Int) != (kb : Int) + (Lb : Int)) = true := by simp; omega
        go_wp2_with fail
        have hc' := HCI.out V (ka + La) (kb + Lb)
        rw [show ((ka + La : Nat) : Int) = (ka : Int) + (La : Int) by simp, show ((kb + Lb : Nat) : Int) = (kb : Int) + (Lb : Int) by simp] at hc'
        refine hc'.mono ?_
        rintro e w1 ⟨rfl, rfl⟩
        go_wp2_with fail
        go_ret
        exact ⟨by rw [HBITS.out hne]; rfl, HV.out⟩
end Go.Proofs.YtifnmidecjmmnaaGreatDoor
