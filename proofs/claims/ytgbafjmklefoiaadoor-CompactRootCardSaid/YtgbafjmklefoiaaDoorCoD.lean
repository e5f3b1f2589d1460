/- cartulary/coord, walked: Common. -/
import Derived.Test.YtgbafjmklefoiaaDoorCoC
import Derived.Deep.LoopGhost
namespace Go.Proofs.YtgbafjmklefoiaaDoor
open Go.RowKit
theorem cv_eql (w : World) (L1 I1 L2 I2 : Nat) : (binOp .eql 44 (.agg #[.int .u8 (L1 : Int), .int .u64 (I1 : Int)]) (.agg #[.int .u8 (L2 : Int), .int .u64 (I2 : Int)])).run Tryd.prog w = .ok (.bool (decide (L1 = L2 ∧ I1 = I2))) w := by
  simp [go_sem]
  by_cases h1 : L1 = L2
  · by_cases h2 : I1 = I2
    · subst h1; subst h2; simp
    · have : ¬ (I1 : Int) = (I2 : Int) := by omega
      simp [h1, h2, this]
  · have : ¬ (L1 : Int) = (L2 : Int) := by omega
    simp [h1, this]
theorem cv_neq (w : World) (L1 I1 L2 I2 : Nat) : (binOp .neq 44 (.agg #[.int .u8 (L1 : Int), .int .u64 (I1 : Int)]) (.agg #[.int .u8 (L2 : Int), .int .u64 (I2 : Int)])).run Tryd.prog w = .ok (.bool (!decide (L1 = L2 ∧ I1 = I2))) w := by
  simp [go_sem]
  by_cases h1 : L1 = L2
  · by_cases h2 : I1 = I2
    · subst h1; subst h2; simp
    · have : ¬ (I1 : Int) = (I2 : Int) := by omega
      simp [h1, h2, this]
  · have : ¬ (L1 : Int) = (L2 : Int) := by omega
    simp [h1, this]
theorem sv_eql (w : World) (L1 I1 L2 I2 : Nat) : (binOp .eql 39 (.agg #[.int .u64 (L1 : Int), .int .u64 (I1 : Int)]) (.agg #[.int .u64 (L2 : Int), .int .u64 (I2 : Int)])).run Tryd.prog w = .ok (.bool (decide (L1 = L2 ∧ I1 = I2))) w := by
  simp [go_sem]
  by_cases h1 : L1 = L2
  · by_cases h2 : I1 = I2
    · subst h1; subst h2; simp
    · have : ¬ (I1 : Int) = (I2 : Int) := by omega
      simp [h1, h2, this]
  · have : ¬ (L1 : Int) = (L2 : Int) := by omega
    simp [h1, this]
/-- where the search for what two trees have in common stands -/
structure CmInv (La Ia Lb Ib L1 I1 L2 I2 : Nat) : Prop where
  m1 : mayB L1 I1 = true
  m2 : mayB L2 I2 = true
  com : ∀ j, Com j La Ia Lb Ib ↔ Com j L1 I1 L2 I2
  anc : (Anc La Ia L1 I1 ∧ Anc Lb Ib L2 I2) ∨ (Anc Lb Ib L1 I1 ∧ Anc La Ia L2 I2)
theorem CmInv.swap {La Ia Lb Ib L1 I1 L2 I2 : Nat} (h : CmInv La Ia Lb Ib L1 I1 L2 I2) : CmInv La Ia Lb Ib L2 I2 L1 I1 :=
  ⟨h.m2, h.m1, fun j => (h.com j).trans ⟨Com.symm, Com.symm⟩, h.anc.elim (fun h => .inr ⟨h.2, h.1⟩) (fun h => .inl ⟨h.2, h.1⟩)⟩
theorem CmInv.step {La Ia Lb Ib L1 I1 L2 I2 : Nat} (h : CmInv La Ia Lb Ib L1 I1 L2 I2) (hl : L1 ≤ L2) (hne : ¬ (L1 = L2 ∧ I1 = I2)) : L1 < 63 ∧ CmInv La Ia Lb Ib (L1 + 1) (I1 / 2) L2 I2 := by
  obtain ⟨a1, a2⟩ := (mayB_iff _ _).1 h.m1
  obtain ⟨b1, b2⟩ := (mayB_iff _ _).1 h.m2
  have h63 : L1 ≠ 63 := by
    rintro rfl
    obtain rfl : L2 = 63 := by omega
    simp at a2 b2
    exact hne ⟨rfl, by omega⟩
  exact ⟨by omega, up_may h.m1 h63, h.m2, fun j => (h.com j).trans (com_up hl hne), h.anc.elim (fun h => .inl ⟨h.1.up, h.2⟩) (fun h => .inr ⟨h.1.up, h.2⟩)⟩
theorem CmInv.done {La Ia Lb Ib L I : Nat} (ha : mayB La Ia = true) (hb : mayB Lb Ib = true) (h : CmInv La Ia Lb Ib L I L I) : comL La Ia Lb Ib = L ∧ comI La Ia Lb Ib = I := by
  have hk : comK La Ia Lb Ib = true := by unfold comK; rw [ha, hb]; rfl
  have hf := comF_end ha hb h.com
  unfold comL comI
  rw [if_pos hk, if_pos hk, hf]
  refine ⟨rfl, ?_⟩
  rcases h.anc with h | h
  · exact h.1.2.symm
  · exact h.2.2.symm
theorem CmInv.start {La Ia Lb Ib : Nat} (ha : mayB La Ia = true) (hb : mayB Lb Ib = true) : CmInv La Ia Lb Ib La Ia Lb Ib :=
  ⟨ha, hb, fun _ => Iff.rfl, .inl ⟨Anc.refl _ _, Anc.refl _ _⟩⟩
end Go.Proofs.YtgbafjmklefoiaaDoor
