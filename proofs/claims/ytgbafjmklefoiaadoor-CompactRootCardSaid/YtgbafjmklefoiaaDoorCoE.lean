/- cartulary/coord, walked: Cmp. -/
import Derived.Test.YtgbafjmklefoiaaDoorCoD
namespace Go.Proofs.YtgbafjmklefoiaaDoor
open Go.RowKit
def ordN (a b : Nat) : Int := if a < b then -1 else if b < a then 1 else 0
theorem cmpN_zero_l {La Lb Ib : Nat} (h : Ib ≠ 0) : cmpN La 0 Lb Ib = -1 := by
  have := Nat.two_pow_pos Lb
  exact cmpN_lt (by rw [Nat.zero_mul]; exact Nat.mul_pos (Nat.pos_of_ne_zero h) this)
theorem cmpN_zero_r {La Lb Ia : Nat} (h : Ia ≠ 0) : cmpN La Ia Lb 0 = 1 := by
  have := Nat.two_pow_pos La
  exact cmpN_gt (by rw [Nat.zero_mul]; exact Nat.mul_pos (Nat.pos_of_ne_zero h) this)
theorem cmpN_same {La Ia Lb Ib : Nat} (h : Ia * 2 ^ La = Ib * 2 ^ Lb) : cmpN La Ia Lb Ib = ordN Lb La := cmpN_eq h
theorem cmpN_bits {La Ia Lb Ib : Nat} (ha : Ia < 2 ^ 64) (hb : Ib < 2 ^ 64) (ha0 : Ia ≠ 0) (hb0 : Ib ≠ 0) (h : Lib.bitLen Ia + La ≠ Lib.bitLen Ib + Lb) : cmpN La Ia Lb Ib = ordN (Lib.bitLen Ia + La) (Lib.bitLen Ib + Lb) := by
  unfold ordN
  rcases Nat.lt_or_gt_of_ne h with h1 | h1
  · rw [if_pos h1]; exact cmpN_lt (scaled_lt ha hb ha0 hb0 h1)
  · rw [if_neg (by omega), if_pos h1]; exact cmpN_gt (scaled_lt hb ha hb0 ha0 h1)
theorem cmpN_shift {La Ia Lb Ib : Nat} (h : Lb ≤ La) : cmpN La Ia Lb Ib = if Ia * 2 ^ (La - Lb) = Ib then ordN Lb La else ordN (Ia * 2 ^ (La - Lb)) Ib := by
  have h1 := scale_lt h (Ia := Ia) (Ib := Ib)
  have h2 := scale_gt h (Ia := Ia) (Ib := Ib)
  unfold cmpN ordN
  generalize Ia * 2 ^ La = p at *
  generalize Ib * 2 ^ Lb = q at *
  generalize Ia * 2 ^ (La - Lb) = r at *
  by_cases e : r = Ib
  · rw [if_pos e, if_neg (by omega), if_neg (by omega)]
  · rw [if_neg e]
    by_cases l : r < Ib
    · rw [if_pos (show p < q by omega), if_pos l]
    · rw [if_neg (show ¬ p < q by omega), if_pos (show q < p by omega), if_neg l, if_pos (show Ib < r by omega)]
theorem shift_fits {La Ia Lb Ib : Nat} (ha : Ia < 2 ^ 64) (hb : Ib < 2 ^ 64) (ha0 : Ia ≠ 0) (hb0 : Ib ≠ 0) (h : Lb ≤ La) (he : Lib.bitLen Ia + La = Lib.bitLen Ib + Lb) : La - Lb < 64 ∧ Ia * 2 ^ (La - Lb) < 2 ^ 64 := by
  obtain ⟨a1, _, a3⟩ := bitLen_bounds ha ha0
  obtain ⟨b1, b2, _⟩ := bitLen_bounds hb hb0
  have b4 : Lib.bitLen Ib ≤ 64 := Lib.bitLen_le Ib 64 (by decide) hb
  refine ⟨by omega, ?_⟩
  have : Ia * 2 ^ (La - Lb) < 2 ^ Lib.bitLen Ia * 2 ^ (La - Lb) := Nat.mul_lt_mul_of_pos_right a3 (Nat.two_pow_pos _)
  rw [← Nat.pow_add, show Lib.bitLen Ia + (La - Lb) = Lib.bitLen Ib by omega] at this
  exact Nat.lt_of_lt_of_le this (Nat.pow_le_pow_right (by decide) b4)
theorem ordN_swap (a b : Nat) : 0 - ordN a b = ordN b a := by
  unfold ordN
  repeat' split
  all_goals first | rfl | omega
theorem wrap8_nat {n : Nat} {x : Int} (hx : x = (n : Int)) (h : n < 256) : IntKind.u8.wrap x = (n : Int) := by
  subst hx
  simp [IntKind.wrap, IntKind.bits, IntKind.signed]; omega
end Go.Proofs.YtgbafjmklefoiaaDoor
