/- cartulary/coord, walked: Of. -/
import Derived.Test.YtgbafjmklefoiaaDoorCoB
import Derived.Test.YtgbafjmklefoiaaDoorCoShelf
namespace Go.Proofs.YtgbafjmklefoiaaDoor
open Go.RowKit
theorem TabZ.below {w w' : World} (h : TabZ w) (hg : 4 < w.heap.size) (k : Below w.heap.size w w') : TabZ w' :=
  fun j hj => (k.cell (p := ⟨4, j, none⟩) hg).trans (h j hj)
theorem pow_two_iff {n : Nat} (h : n ≠ 0) : n &&& (n - 1) = 0 ↔ 2 ^ Nat.log2 n = n := by
  rw [Nat.and_sub_one_eq_zero_iff_isPowerOfTwo h]
  constructor
  · rintro ⟨k, rfl⟩; rw [log2_pow]
  · intro h2; exact ⟨_, h2.symm⟩
theorem and_mask (b n : Nat) (h : 2 ^ Nat.log2 n = n) : b &&& (n - 1) = b % n := by
  generalize Nat.log2 n = k at h
  subst h
  exact Nat.and_two_pow_sub_one_eq_mod _ _
theorem ctz_pow {n : Nat} (h0 : n ≠ 0) (h : 2 ^ Nat.log2 n = n) (hn : n < 2 ^ 64) : Lib.ctz 64 n = Nat.log2 n := by
  have h1 : Nat.log2 n ≤ Lib.ctz 64 n := (dvd_ctz hn h0).1 (by rw [h]; exact Nat.dvd_refl _)
  have h2 : 2 ^ Lib.ctz 64 n ∣ n := (dvd_ctz hn h0).2 (Nat.le_refl _)
  have h3 : 2 ^ Lib.ctz 64 n ≤ 2 ^ Nat.log2 n := by rw [h]; exact Nat.le_of_dvd (by omega) h2
  have := (Nat.pow_le_pow_iff_right (a := 2) (by decide)).1 h3
  omega
theorem sub_nat {B E : Nat} (h : B ≤ E) (hE : E < 2 ^ 64) : IntKind.u64.wrap ((E : Int) - (B : Int)) = ((E - B : Nat) : Int) := wrap_nat (n := E - B) (by omega) (by omega)
theorem div_pow_nat (B k : Nat) : (B : Int) / 2 ^ k = ((B / 2 ^ k : Nat) : Int) := by
  rw [show ((2 : Int) ^ k) = ((2 ^ k : Nat) : Int) by simp, ← Int.natCast_ediv]
end Go.Proofs.YtgbafjmklefoiaaDoor
