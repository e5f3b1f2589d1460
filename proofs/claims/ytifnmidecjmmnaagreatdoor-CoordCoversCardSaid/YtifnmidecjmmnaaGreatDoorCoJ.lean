/- CoordMeets in plain numbers. -/
import Derived.Test.YtifnmidecjmmnaaGreatDoorCoQ
namespace Go.Proofs.YtifnmidecjmmnaaGreatDoor
theorem sp_of {L I : Nat} (h : mayB L I = true) : spB L I = I * 2 ^ L ∧ spE L I = (I + 1) * 2 ^ L := by
  unfold spB spE; rw [if_pos h, if_pos h]; exact ⟨rfl, rfl⟩
theorem dn_of {L I : Nat} (h : dnK L I = true) : dnL L I = L - 1 ∧ dnI L I = 2 * I ∧ dnJ L I = 2 * I + 1 := by
  unfold dnL dnI dnJ; rw [if_pos h, if_pos h, if_pos h]; exact ⟨rfl, rfl, rfl⟩
theorem meets_law {La Ia Lb Ib : Nat} (h : comK La Ia Lb Ib = true) :
    mayB (comL La Ia Lb Ib) (comI La Ia Lb Ib) = true ∧ spB (comL La Ia Lb Ib) (comI La Ia Lb Ib) ≤ spB La Ia ∧ spE La Ia ≤ spE (comL La Ia Lb Ib) (comI La Ia Lb Ib) ∧
    spB (comL La Ia Lb Ib) (comI La Ia Lb Ib) ≤ spB Lb Ib ∧ spE Lb Ib ≤ spE (comL La Ia Lb Ib) (comI La Ia Lb Ib) := by
  have h' := h
  unfold comK at h'
  rw [Bool.and_eq_true] at h'
  obtain ⟨ha, hb⟩ := h'
  obtain ⟨k, e1, e2, e3, h1, h2, h3, _⟩ := com_all h
  have hm : mayB (comL La Ia Lb Ib) (comI La Ia Lb Ib) = true := by rw [e1, e2]; exact com_may ha h1 h3
  obtain ⟨s1, s2⟩ := sp_of hm
  obtain ⟨t1, t2⟩ := sp_of ha
  obtain ⟨u1, u2⟩ := sp_of hb
  refine ⟨hm, ?_, ?_, ?_, ?_⟩
  · rw [s1, t1, e1, e2]; exact anc_begin h1
  · rw [s2, t2, e1, e2]; exact anc_end h1
  · rw [s1, u1, e1, e3]; exact anc_begin h2
  · rw [s2, u2, e1, e3]; exact anc_end h2
theorem meets_halves {La Ia Lb Ib : Nat} (h : comK La Ia Lb Ib = true) (hd : dnK (comL La Ia Lb Ib) (comI La Ia Lb Ib) = true) :
    ¬ (spE La Ia ≤ spE (dnL (comL La Ia Lb Ib) (comI La Ia Lb Ib)) (dnI (comL La Ia Lb Ib) (comI La Ia Lb Ib)) ∧ spE Lb Ib ≤ spE (dnL (comL La Ia Lb Ib) (comI La Ia Lb Ib)) (dnI (comL La Ia Lb Ib) (comI La Ia Lb Ib))) ∧
    ¬ (spB (dnL (comL La Ia Lb Ib) (comI La Ia Lb Ib)) (dnJ (comL La Ia Lb Ib) (comI La Ia Lb Ib)) ≤ spB La Ia ∧ spB (dnL (comL La Ia Lb Ib) (comI La Ia Lb Ib)) (dnJ (comL La Ia Lb Ib) (comI La Ia Lb Ib)) ≤ spB Lb Ib) := by
  have h' := h
  unfold comK at h'
  rw [Bool.and_eq_true] at h'
  obtain ⟨ha, hb⟩ := h'
  obtain ⟨hm, h0⟩ := dnK_iff.1 hd
  obtain ⟨ml, mr⟩ := dn_may hm h0
  obtain ⟨d1, d2, d3⟩ := dn_of hd
  rw [d1, d2, d3]
  obtain ⟨k, e1, e2, e3, h1, h2, h3, hmin⟩ := com_all h
  obtain ⟨t1, t2⟩ := sp_of ha
  obtain ⟨u1, u2⟩ := sp_of hb
  obtain ⟨_, l2⟩ := sp_of ml
  obtain ⟨r1, _⟩ := sp_of mr
  rw [t1, t2, u1, u2, l2, r1]
  obtain ⟨j, rfl⟩ : ∃ j, k = j + 1 := ⟨k - 1, by rw [e1] at h0; omega⟩
  have ea : comI La Ia Lb Ib = Ia / 2 ^ (j + 1 - La) := e2
  have eb : comI La Ia Lb Ib = Ib / 2 ^ (j + 1 - Lb) := e3
  rw [e1, show j + 1 - 1 = j by omega]
  constructor
  · rintro ⟨x, y⟩
    rw [ea] at x; rw [eb] at y
    obtain ⟨x1, x2⟩ := half_left h1 x
    obtain ⟨y1, y2⟩ := half_left h2 y
    exact hmin j (Nat.lt_succ_self _) ⟨x1, y1, by rw [x2, y2, ← ea, ← eb]⟩
  · rintro ⟨x, y⟩
    rw [ea] at x; rw [eb] at y
    obtain ⟨x1, x2⟩ := half_right h1 x
    obtain ⟨y1, y2⟩ := half_right h2 y
    exact hmin j (Nat.lt_succ_self _) ⟨x1, y1, by rw [x2, y2, ← ea, ← eb]⟩
end Go.Proofs.YtifnmidecjmmnaaGreatDoor
