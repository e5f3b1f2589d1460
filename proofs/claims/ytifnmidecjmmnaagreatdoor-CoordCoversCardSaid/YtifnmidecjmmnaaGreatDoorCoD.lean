/- cartulary/coord, walked: Common. -/
import Derived.Test.YtifnmidecjmmnaaGreatDoorCoC
import Derived.Deep.LoopGhost
namespace Go.Proofs.YtifnmidecjmmnaaGreatDoor
open Go.RowKit
theorem cv_eql (w : World) (L1 I1 L2 I2 : Nat) : (binOp .eql 59 (.agg #[.int .u8 (L1 : Int), .int .u64 (I1 : Int)]) (.agg #[.int .u8 (L2 : Int), .int .u64 (I2 : Int)])).run Tryz.prog w = .ok (.bool (decide (L1 = L2 ∧ I1 = I2))) w := by
  simp [go_sem]
  by_cases h1 : L1 = L2
  · by_cases h2 : I1 = I2
    · subst h1; subst h2; simp
    · have : ¬ (I1 : Int) = (I2 : Int) := by omega
      simp [h1, h2, this]
  · have : ¬ (L1 : Int) = (L2 : Int) := by omega
    simp [h1, this]
theorem cv_neq (w : World) (L1 I1 L2 I2 : Nat) : (binOp .neq 59 (.agg #[.int .u8 (L1 : Int), .int .u64 (I1 : Int)]) (.agg #[.int .u8 (L2 : Int), .int .u64 (I2 : Int)])).run Tryz.prog w = .ok (.bool (!decide (L1 = L2 ∧ I1 = I2))) w := by
  simp [go_sem]
  by_cases h1 : L1 = L2
  · by_cases h2 : I1 = I2
    · subst h1; subst h2; simp
    · have : ¬ (I1 : Int) = (I2 : Int) := by omega
      simp [h1, h2, this]
  · have : ¬ (L1 : Int) = (L2 : Int) := by omega
    simp [h1, this]
theorem sv_eql (w : World) (L1 I1 L2 I2 : Nat) : (binOp .eql 24 (.agg #[.int .u64 (L1 : Int), .int .u64 (I1 : Int)]) (.agg #[.int .u64 (L2 : Int), .int .u64 (I2 : Int)])).run Tryz.prog w = .ok (.bool (decide (L1 = L2 ∧ I1 = I2))) w := by
  simp [go_sem]
  by_cases h1 : L1 = L2
  · by_cases h2 : I1 = I2
    · subst h1; subst h2; simp
    · have : ¬ (I1 : Int) = (I2 : Int) := by omega
      simp [h1, h2, this]
  · have : ¬ (L1 : Int) = (L2 : Int) := by omega
    simp [h1, this]
/-- where the search for what two trees have in common stands -/
structure CmInv (La Ia Lb Ib L1 I1 L2 I2 : Nat) : Prop where
  m1 : mayB L1 I1 = true
  m2 : mayB L2 I2 = true
  com : ∀ j, Com j La Ia Lb Ib ↔ Com j L1 I1 L2 I2
  anc : (Anc La Ia L1 I1 ∧ Anc Lb Ib L2 I2) ∨ (Anc Lb Ib L1 I1 ∧ Anc La Ia L2 I2)
theorem CmInv.swap {La Ia Lb Ib L1 I1 L2 I2 : Nat} (h : CmInv La Ia Lb Ib L1 I1 L2 I2) : CmInv La Ia Lb Ib L2 I2 L1 I1 :=
  ⟨h.m2, h.m1, fun j => (h.com j).trans ⟨Com.symm, Com.symm⟩, h.anc.elim (fun h => .inr ⟨h.2, h.1⟩) (fun h => .inl ⟨h.2, h.1⟩)⟩
theorem CmInv.step {La Ia Lb Ib L1 I1 L2 I2 : Nat} (h : CmInv La Ia Lb Ib L1 I1 L2 I2) (hl : L1 ≤ L2) (hne : ¬ (L1 = L2 ∧ I1 = I2)) : L1 < 63 ∧ CmInv La Ia Lb Ib (L1 + 1) (I1 / 2) L2 I2 := by
  obtain ⟨a1, a2⟩ := (mayB_iff _ _).1 h.m1
  obtain ⟨b1, b2⟩ := (mayB_iff _ _).1 h.m2
  have h63 : L1 ≠ 63 := by
    rintro rfl
    obtain rfl : L2 = 63 := by omega
    simp at a2 b2
    exact hne ⟨rfl, by omega⟩
  exact ⟨by omega, up_may h.m1 h63, h.m2, fun j => (h.com j).trans (com_up hl hne), h.anc.elim (fun h => .inl ⟨h.1.up, h.2⟩) (fun h => .inr ⟨h.1.up, h.2⟩)⟩
theorem CmInv.done {La Ia Lb Ib L I : Nat} (ha : mayB La Ia = true) (hb : mayB Lb Ib = true) (h : CmInv La Ia Lb Ib L I L I) : comL La Ia Lb Ib = L ∧ comI La Ia Lb Ib = I := by
  have hk : comK La Ia Lb Ib = true := by unfold comK; rw [ha, hb]; rfl
  have hf := comF_end ha hb h.com
  unfold comL comI
  rw [if_pos hk, if_pos hk, hf]
  refine ⟨rfl, ?_⟩
  rcases h.anc with h | h
  · exact h.1.2.symm
  · exact h.2.2.symm
theorem CmInv.start {La Ia Lb Ib : Nat} (ha : mayB La Ia = true) (hb : mayB Lb Ib = true) : CmInv La Ia Lb Ib La Ia Lb Ib :=
  ⟨ha, hb, fun _ => Iff.rfl, .inl ⟨Anc.refl _ _, Anc.refl _ _⟩⟩
set_option maxHeartbeats 1600000 in
theorem common_any (w : World) (La Ia Lb Ib : Nat) :
    Calls Tryz.prog 68 #[cv La Ia, cv Lb Ib] w fun e w' => e = .returned (.tuple #[cv (comL La Ia Lb Ib) (comI La Ia Lb Ib), .bool (comK La Ia Lb Ib)]) ∧ Below w.heap.size w w' := by
  have hm := fun w => may_any w La Ia
  have hm2 := fun w => may_any w Lb Ib
  unfold cv at hm hm2 ⊢
  have HM := Bx.mk hm; have HM2 := Bx.mk hm2; clear hm hm2
  go_enter Tryz.func68, Tryz.ntmps68
  go_wp2_with fail
  refine (HM.out _).mono ?_
  rintro e w1 ⟨rfl, hb⟩
  obtain ⟨h1, h2, h3, hb1, hs1⟩ := three_new hb
  by_cases ha : mayB La Ia = true
  · rw [ha]
    obtain ⟨a1, a2, a3, a4⟩ := two_cells h2
    have HB := Bx.mk hb1; have HS := Bx.mk hs1; have H1 := Bx.mk h1; have H2 := Bx.mk h2; have H3 := Bx.mk h3
    clear hb h1 h2 h3 hb1 hs1
    go_wp2_with fail
    refine (HM2.out _).mono ?_
    rintro e w2 ⟨rfl, hb2⟩
    have g1 := (hb2.block _ (by have := HS.out; omega)).trans H1.out
    have g2 := (hb2.block _ (by have := HS.out; omega)).trans H2.out
    have g3 := (hb2.block _ (by have := HS.out; omega)).trans H3.out
    have gb := HB.out.trans (hb2.mono (by have := HS.out; omega))
    by_cases hb : mayB Lb Ib = true
    · rw [hb]
      have HA := Bx.mk (And.intro ha hb)
      have G1 := Bx.mk g1; have G2 := Bx.mk g2; have G3 := Bx.mk g3; have GB := Bx.mk gb
      clear g1 g2 g3 gb hb2 ha hb a1 a2 a3 a4 H1 H2 H3
      go_wp2_with fail
      go_loopg [] (126 - La - Lb) (fun k wr => ∃ L1 I1 L2 I2 : Nat, k = 126 - L1 - L2 ∧ wr.heap[w.heap.size]? = some (.cells #[.int .u8 (L1 : Int), .int .u64 (I1 : Int)] 59 (0, 0)) ∧ wr.heap[w.heap.size + 1]? = some (.cells #[.int .u8 (L2 : Int), .int .u64 (I2 : Int)] 59 (0, 0)) ∧ wr.heap[w.heap.size + 2]? = some (.cells #[.int .u8 0, .int .u64 0] 59 (0, 0)) ∧ Below w.heap.size w wr ∧ CmInv La Ia Lb Ib L1 I1 L2 I2)
      case atStart => exact ⟨La, Ia, Lb, Ib, rfl, G1.out, G2.out, G3.out, GB.out, CmInv.start HA.out.1 HA.out.2⟩
      case round =>
        obtain ⟨L1, I1, L2, I2, hk, h1, h2, h3, hb, hi⟩ := hrel
        obtain ⟨a1, a2, a3, a4⟩ := two_cells h1
        obtain ⟨b1, b2, b3, b4⟩ := two_cells h2
        obtain ⟨c1, c2, c3, c4⟩ := two_cells h3
        have HB := Bx.mk hb; have HI := Bx.mk hi; have HK := Bx.mk hk; have H1 := Bx.mk h1; have H2 := Bx.mk h2; have H3 := Bx.mk h3
        have l1 := ((mayB_iff _ _).1 hi.m1).1
        have l2 := ((mayB_iff _ _).1 hi.m2).1
        clear h1 h2 h3 hb hi hk G1 G2 G3 GB
        have hne := fun w => cv_neq w L1 I1 L2 I2
        by_cases he : L1 = L2 ∧ I1 = I2
        · rw [decide_eq_true he] at hne
          obtain ⟨rfl, rfl⟩ := he
          go_wp2_with fail
          refine bodyPost_ret (res_two rfl _ _ (w.heap.size + 2) _ _ _ _ rfl (two_setC H3.out _ _) Tryz.underlying59 sizeC) rfl ⟨?_, ?_⟩
          · obtain ⟨d1, d2⟩ := HI.out.done HA.out.1 HA.out.2
            rw [d1, d2, show comK La Ia Lb Ib = true by unfold comK; rw [HA.out.1, HA.out.2]; rfl]
            rfl
          · (repeat (first | with_reducible exact HB.out | with_reducible refine Below.drew ?_ | with_reducible refine Below.setCell ?_ (by simp <;> omega) _))
        · rw [decide_eq_false he] at hne
          have HE := Bx.mk he; clear he
          by_cases hgt : L2 < L1
          · go_wp2_with fail
            go_roundg (126 - (L2 + 1) - L1)
            case measure => have := HK.out; omega
            case rel =>
              obtain ⟨s1, s2⟩ := HI.out.swap.step (by omega) (fun h => HE.out ⟨h.1.symm, h.2.symm⟩)
              refine ⟨L2 + 1, I2 / 2, L1, I1, rfl, ?_, ?_, ?_, ?_, s2⟩
              · simp [World.setCell, Array.getElem?_modify, H1.out]
              · simp [World.setCell, Array.getElem?_modify, H2.out]
              · simp [World.setCell, Array.getElem?_modify, H3.out]
              · (repeat (first | with_reducible exact HB.out | with_reducible refine Below.drew ?_ | with_reducible refine Below.setCell ?_ (by simp <;> omega) _))
          · go_wp2_with fail
            go_roundg (126 - (L1 + 1) - L2)
            case measure => have := HK.out; have := (HI.out.step (by omega) HE.out).1; omega
            case rel =>
              obtain ⟨s1, s2⟩ := HI.out.step (by omega) HE.out
              refine ⟨L1 + 1, I1 / 2, L2, I2, rfl, ?_, ?_, ?_, ?_, s2⟩
              · simp [World.setCell, Array.getElem?_modify, H1.out]
              · simp [World.setCell, Array.getElem?_modify, H2.out]
              · simp [World.setCell, Array.getElem?_modify, H3.out]
              · (repeat (first | with_reducible exact HB.out | with_reducible refine Below.drew ?_ | with_reducible refine Below.setCell ?_ (by simp <;> omega) _))
    · rw [Bool.eq_false_iff.2 hb]
      obtain ⟨c1, c2, c3, c4⟩ := two_cells g3
      have GB := Bx.mk gb; have G3 := Bx.mk g3
      clear g1 g2 g3 gb
      go_wp2_with fail
      have hk : comK La Ia Lb Ib = false := by unfold comK; simp [hb]
      refine bodyPost_ret (res_two rfl _ _ (w.heap.size + 2) _ _ _ _ rfl (two_setC G3.out _ _) Tryz.underlying59 sizeC) rfl ⟨?_, ?_⟩
      · rw [show comL La Ia Lb Ib = 0 by unfold comL; rw [if_neg (by rw [hk]; decide)], show comI La Ia Lb Ib = 0 by unfold comI; rw [if_neg (by rw [hk]; decide)], hk]
        rfl
      · (repeat (first | with_reducible exact GB.out | with_reducible refine Below.drew ?_ | with_reducible refine Below.setCell ?_ (by simp <;> omega) _))
  · rw [Bool.eq_false_iff.2 ha]
    obtain ⟨c1, c2, c3, c4⟩ := two_cells h3
    have HB := Bx.mk hb1; have HS := Bx.mk hs1; have H3 := Bx.mk h3
    clear hb h1 h2 h3 hb1 hs1
    go_wp2_with fail
    have hk : comK La Ia Lb Ib = false := by unfold comK; simp [ha]
    refine bodyPost_ret (res_two rfl _ _ (w.heap.size + 2) _ _ _ _ rfl (two_setC H3.out _ _) Tryz.underlying59 sizeC) rfl ⟨?_, ?_⟩
    · rw [show comL La Ia Lb Ib = 0 by unfold comL; rw [if_neg (by rw [hk]; decide)], show comI La Ia Lb Ib = 0 by unfold comI; rw [if_neg (by rw [hk]; decide)], hk]
      rfl
    · (repeat (first | with_reducible exact HB.out | with_reducible refine Below.drew ?_ | with_reducible refine Below.setCell ?_ (by simp <;> omega) _))
end Go.Proofs.YtifnmidecjmmnaaGreatDoor
