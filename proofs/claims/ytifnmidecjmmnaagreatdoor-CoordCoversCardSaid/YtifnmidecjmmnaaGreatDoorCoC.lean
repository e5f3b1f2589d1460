/- cartulary/coord, walked: Of. -/
import Derived.Test.YtifnmidecjmmnaaGreatDoorCoB
import Derived.Test.YtifnmidecjmmnaaGreatDoorCoShelf
namespace Go.Proofs.YtifnmidecjmmnaaGreatDoor
open Go.RowKit
theorem TabZ.below {w w' : World} (h : TabZ w) (hg : 1 < w.heap.size) (k : Below w.heap.size w w') : TabZ w' :=
  fun j hj => (k.cell (p := ⟨1, j, none⟩) hg).trans (h j hj)
theorem pow_two_iff {n : Nat} (h : n ≠ 0) : n &&& (n - 1) = 0 ↔ 2 ^ Nat.log2 n = n := by
  rw [Nat.and_sub_one_eq_zero_iff_isPowerOfTwo h]
  constructor
  · rintro ⟨k, rfl⟩; rw [log2_pow]
  · intro h2; exact ⟨_, h2.symm⟩
theorem and_mask (b n : Nat) (h : 2 ^ Nat.log2 n = n) : b &&& (n - 1) = b % n := by
  generalize Nat.log2 n = k at h
  subst h
  exact Nat.and_two_pow_sub_one_eq_mod _ _
theorem ctz_pow {n : Nat} (h0 : n ≠ 0) (h : 2 ^ Nat.log2 n = n) (hn : n < 2 ^ 64) : Lib.ctz 64 n = Nat.log2 n := by
  have h1 : Nat.log2 n ≤ Lib.ctz 64 n := (dvd_ctz hn h0).1 (by rw [h]; exact Nat.dvd_refl _)
  have h2 : 2 ^ Lib.ctz 64 n ∣ n := (dvd_ctz hn h0).2 (Nat.le_refl _)
  have h3 : 2 ^ Lib.ctz 64 n ≤ 2 ^ Nat.log2 n := by rw [h]; exact Nat.le_of_dvd (by omega) h2
  have := (Nat.pow_le_pow_iff_right (a := 2) (by decide)).1 h3
  omega
theorem sub_nat {B E : Nat} (h : B ≤ E) (hE : E < 2 ^ 64) : IntKind.u64.wrap ((E : Int) - (B : Int)) = ((E - B : Nat) : Int) := wrap_nat (n := E - B) (by omega) (by omega)
theorem div_pow_nat (B k : Nat) : (B : Int) / 2 ^ k = ((B / 2 ^ k : Nat) : Int) := by
  rw [show ((2 : Int) ^ k) = ((2 ^ k : Nat) : Int) by simp, ← Int.natCast_ediv]
set_option maxHeartbeats 1600000 in
theorem of_any (w : World) (B E : Nat) (hB : B < 2 ^ 64) (hE : E < 2 ^ 64) (hT : TabZ w) (hg : 1 < w.heap.size) :
    Calls Tryz.prog 67 #[sv B E] w fun e w' => e = .returned (.tuple #[cv (ofL B E) (ofI B E), .bool (ofK B E)]) ∧ Below w.heap.size w w' := by
  have k0 : Below w.heap.size w ((w.alloc (.cells #[.int .u64 (B : Int), .int .u64 (E : Int)] 24)).alloc (.cells #[.int .u8 0, .int .u64 0] 59)) := (below_new _ _).alloc (by simp) _
  have t0 := hT.below hg k0
  have K0 := Bx.mk k0; have T0 := Bx.mk t0
  clear k0 t0 hT hg
  unfold sv cv
  by_cases h1 : E ≤ B
  · have hk : ofK B E = false := by unfold ofK; exact decide_eq_false (by omega)
    go_enter Tryz.func67, Tryz.ntmps67
    go_wp2_with fail
    refine bodyPost_ret (res_two rfl _ _ (w.heap.size + 1) _ _ _ _ rfl (heap_alloc2_new w _ _) Tryz.underlying59 sizeC) rfl ⟨?_, K0.out⟩
    rw [show ofL B E = 0 by unfold ofL; rw [if_neg (by rw [hk]; decide)], show ofI B E = 0 by unfold ofI; rw [if_neg (by rw [hk]; decide)]]; try rw [hk]
    rfl
  · by_cases h2 : 2 ^ 63 < E
    · have hk : ofK B E = false := by unfold ofK; exact decide_eq_false (by omega)
      go_enter Tryz.func67, Tryz.ntmps67
      go_wp2_with fail
      refine bodyPost_ret (res_two rfl _ _ (w.heap.size + 1) _ _ _ _ rfl (heap_alloc2_new w _ _) Tryz.underlying59 sizeC) rfl ⟨?_, K0.out⟩
      rw [show ofL B E = 0 by unfold ofL; rw [if_neg (by rw [hk]; decide)], show ofI B E = 0 by unfold ofI; rw [if_neg (by rw [hk]; decide)]]; try rw [hk]
      rfl
    · have hn : IntKind.u64.wrap ((E : Int) - (B : Int)) = ((E - B : Nat) : Int) := sub_nat (by omega) hE
      have hn1 : IntKind.u64.wrap (((E - B : Nat) : Int) - 1) = ((E - B - 1 : Nat) : Int) := wrap_nat (n := E - B - 1) (by omega) (by omega)
      have ha : bits .and .u64 ((E - B : Nat) : Int) ((E - B - 1 : Nat) : Int) = (((E - B) &&& (E - B - 1) : Nat) : Int) := u64_and_nat _ _ (by omega) (by omega)
      have hb : bits .and .u64 (B : Int) ((E - B - 1 : Nat) : Int) = ((B &&& (E - B - 1) : Nat) : Int) := u64_and_nat _ _ (by omega) (by omega)
      by_cases h3 : 2 ^ Nat.log2 (E - B) = E - B
      · have h3' := (pow_two_iff (n := E - B) (by omega)).2 h3
        rw [h3'] at ha
        rw [and_mask B _ h3] at hb
        by_cases h4 : B % (E - B) = 0
        · rw [h4] at hb
          have hk : ofK B E = true := by unfold ofK; exact decide_eq_true ⟨by omega, by omega, h3, h4⟩
          have hz := tz_any (E - B) _ (by omega) T0.out
          rw [ctz_pow (by omega) h3 (by omega)] at hz
          have HZ := Bx.mk hz
          have HN := Bx.mk (show B < E ∧ E ≤ 2 ^ 63 from ⟨by omega, by omega⟩)
          have hl : Nat.log2 (E - B) < 64 := (Nat.log2_lt (by omega)).2 (by omega)
          have H3 := Bx.mk h3
          clear hz h3 h3' h4
          go_enter Tryz.func67, Tryz.ntmps67
          go_wp2_with fail
          refine HZ.out.mono ?_
          rintro e w1 ⟨rfl, rfl⟩
          generalize hlg : Nat.log2 (E - B) = k at *
          go_wp2_with fail
          refine bodyPost_ret (res_two rfl _ _ (w.heap.size + 1) _ _ _ _ rfl (heap_alloc2_new w _ _) Tryz.underlying59 sizeC) rfl ⟨?_, ((below_new _ _).alloc (by simp) _)⟩
          have h3 := H3.out
          rw [show ofL B E = k by unfold ofL; rw [if_pos hk, hlg], show ofI B E = B / 2 ^ k by unfold ofI; rw [if_pos hk, h3], hk, div_pow_nat]
          rfl
        · have hk : ofK B E = false := by unfold ofK; exact decide_eq_false (by omega)
          generalize B % (E - B) = r at hb h4
          have h4' : ((r : Int) != 0) = true := by simp; omega
          go_enter Tryz.func67, Tryz.ntmps67
          go_wp2_with fail
          refine bodyPost_ret (res_two rfl _ _ (w.heap.size + 1) _ _ _ _ rfl (heap_alloc2_new w _ _) Tryz.underlying59 sizeC) rfl ⟨?_, K0.out⟩
          rw [show ofL B E = 0 by unfold ofL; rw [if_neg (by rw [hk]; decide)], show ofI B E = 0 by unfold ofI; rw [if_neg (by rw [hk]; decide)]]; try rw [hk]
          rfl
      · have hk : ofK B E = false := by unfold ofK; exact decide_eq_false (by omega)
        have h3' := mt (pow_two_iff (n := E - B) (by omega)).1 h3
        generalize (E - B) &&& (E - B - 1) = r at ha h3'
        have h4' : ((r : Int) != 0) = true := by simp; omega
        go_enter Tryz.func67, Tryz.ntmps67
        go_wp2_with fail
        refine bodyPost_ret (res_two rfl _ _ (w.heap.size + 1) _ _ _ _ rfl (heap_alloc2_new w _ _) Tryz.underlying59 sizeC) rfl ⟨?_, K0.out⟩
        rw [show ofL B E = 0 by unfold ofL; rw [if_neg (by rw [hk]; decide)], show ofI B E = 0 by unfold ofI; rw [if_neg (by rw [hk]; decide)]]; try rw [hk]
        rfl
end Go.Proofs.YtifnmidecjmmnaaGreatDoor
