/- What two trees have in common, in plain numbers (chapter 06). -/
import Derived.Test.YtifnmidecjmmnaaGreatDoorCoP
namespace Go.Proofs.YtifnmidecjmmnaaGreatDoor
theorem com_may {La Ia k : Nat} (h : mayB La Ia = true) (hle : La ≤ k) (hk : k ≤ 63) : mayB k (Ia / 2 ^ (k - La)) = true := by
  obtain ⟨h1, h2⟩ := (mayB_iff La Ia).1 h
  rw [mayB_iff]
  refine ⟨hk, ?_⟩
  rw [Nat.div_lt_iff_lt_mul (Nat.two_pow_pos _), ← Nat.pow_add, show 63 - k + (k - La) = 63 - La by omega]
  exact h2
theorem anc_begin {La Ia k : Nat} (hle : La ≤ k) : Ia / 2 ^ (k - La) * 2 ^ k ≤ Ia * 2 ^ La := by
  rw [show 2 ^ k = 2 ^ (k - La) * 2 ^ La by rw [← Nat.pow_add]; congr 1; omega, ← Nat.mul_assoc]
  exact Nat.mul_le_mul_right _ (Nat.div_mul_le_self _ _)
theorem anc_end {La Ia k : Nat} (hle : La ≤ k) : (Ia + 1) * 2 ^ La ≤ (Ia / 2 ^ (k - La) + 1) * 2 ^ k := by
  rw [show 2 ^ k = 2 ^ (k - La) * 2 ^ La by rw [← Nat.pow_add]; congr 1; omega, ← Nat.mul_assoc]
  refine Nat.mul_le_mul_right _ ?_
  rw [Nat.mul_comm]
  exact Nat.lt_mul_div_succ _ (Nat.two_pow_pos _)
theorem anc_succ {La Ia k : Nat} (h : La ≤ k) : Ia / 2 ^ (k + 1 - La) = Ia / 2 ^ (k - La) / 2 := by
  rw [show k + 1 - La = (k - La) + 1 by omega, Nat.pow_succ, Nat.div_div_eq_div_mul]
theorem half_left {La Ia k : Nat} (hle : La ≤ k + 1) (h : (Ia + 1) * 2 ^ La ≤ (2 * (Ia / 2 ^ (k + 1 - La)) + 1) * 2 ^ k) : La ≤ k ∧ Ia / 2 ^ (k - La) = 2 * (Ia / 2 ^ (k + 1 - La)) := by
  rcases Nat.lt_or_eq_of_le hle with h1 | h1
  · have h1 : La ≤ k := by omega
    refine ⟨h1, ?_⟩
    rw [anc_succ h1] at h ⊢
    rw [show 2 ^ k = 2 ^ (k - La) * 2 ^ La by rw [← Nat.pow_add]; congr 1; omega, ← Nat.mul_assoc] at h
    have h2 := Nat.le_of_mul_le_mul_right h (Nat.two_pow_pos _)
    have h3 : Ia / 2 ^ (k - La) < 2 * (Ia / 2 ^ (k - La) / 2) + 1 := by
      rw [Nat.div_lt_iff_lt_mul (Nat.two_pow_pos _)]
      exact h2
    omega
  · subst h1
    rw [Nat.sub_self, Nat.pow_zero, Nat.div_one, Nat.pow_succ, Nat.mul_comm (2 ^ k) 2, ← Nat.mul_assoc] at h
    have := Nat.le_of_mul_le_mul_right h (Nat.two_pow_pos _)
    omega
theorem half_right {La Ia k : Nat} (hle : La ≤ k + 1) (h : (2 * (Ia / 2 ^ (k + 1 - La)) + 1) * 2 ^ k ≤ Ia * 2 ^ La) : La ≤ k ∧ Ia / 2 ^ (k - La) = 2 * (Ia / 2 ^ (k + 1 - La)) + 1 := by
  rcases Nat.lt_or_eq_of_le hle with h1 | h1
  · have h1 : La ≤ k := by omega
    refine ⟨h1, ?_⟩
    rw [anc_succ h1] at h ⊢
    rw [show 2 ^ k = 2 ^ (k - La) * 2 ^ La by rw [← Nat.pow_add]; congr 1; omega, ← Nat.mul_assoc] at h
    have h2 := Nat.le_of_mul_le_mul_right h (Nat.two_pow_pos _)
    have h3 := (Nat.le_div_iff_mul_le (Nat.two_pow_pos (k - La))).2 h2
    omega
  · subst h1
    rw [Nat.sub_self, Nat.pow_zero, Nat.div_one, Nat.pow_succ, Nat.mul_comm (2 ^ k) 2, ← Nat.mul_assoc] at h
    have := Nat.le_of_mul_le_mul_right h (Nat.two_pow_pos _)
    omega
/-- what two trees have in common, all told -/
theorem com_all {La Ia Lb Ib : Nat} (h : comK La Ia Lb Ib = true) :
    ∃ k, comL La Ia Lb Ib = k ∧ comI La Ia Lb Ib = Ia / 2 ^ (k - La) ∧ comI La Ia Lb Ib = Ib / 2 ^ (k - Lb) ∧ La ≤ k ∧ Lb ≤ k ∧ k ≤ 63 ∧ ∀ j, j < k → ¬ Com j La Ia Lb Ib := by
  have h' := h
  unfold comK at h'
  rw [Bool.and_eq_true] at h'
  obtain ⟨h1, h2, h3⟩ := comF_spec h'.1 h'.2
  have e1 : comL La Ia Lb Ib = comF La Ia Lb Ib := by unfold comL; rw [if_pos h]
  have e2 : comI La Ia Lb Ib = Ia / 2 ^ (comF La Ia Lb Ib - La) := by unfold comI; rw [if_pos h]
  exact ⟨_, e1, e2, e2.trans h2.2.2, h2.1, h2.2.1, h1, h3⟩
theorem comK_symm (La Ia Lb Ib : Nat) : comK Lb Ib La Ia = comK La Ia Lb Ib := Bool.and_comm _ _
theorem com_swap (La Ia Lb Ib : Nat) : comL Lb Ib La Ia = comL La Ia Lb Ib ∧ comI Lb Ib La Ia = comI La Ia Lb Ib := by
  cases h : comK La Ia Lb Ib
  · have h' : comK Lb Ib La Ia = false := (comK_symm _ _ _ _).trans h
    unfold comL comI
    rw [h, h']
    exact ⟨rfl, rfl⟩
  · have h' : comK Lb Ib La Ia = true := (comK_symm _ _ _ _).trans h
    have h2 := h
    unfold comK at h2
    rw [Bool.and_eq_true] at h2
    have hs := comF_symm h2.1 h2.2
    obtain ⟨_, hc, _⟩ := comF_spec h2.1 h2.2
    unfold comL comI
    rw [if_pos h, if_pos h', if_pos h, if_pos h', hs]
    exact ⟨rfl, hc.2.2.symm⟩
theorem com_self {La Ia : Nat} (h : mayB La Ia = true) : comK La Ia La Ia = true ∧ comL La Ia La Ia = La ∧ comI La Ia La Ia = Ia := by
  have hk : comK La Ia La Ia = true := by unfold comK; rw [h]; rfl
  refine ⟨hk, ?_, ?_⟩
  · unfold comL; rw [if_pos hk, comF_self h]
  · unfold comI; rw [if_pos hk, comF_self h]; simp
end Go.Proofs.YtifnmidecjmmnaaGreatDoor
