/- The document's own answers of chapter 06, walked: May, Span, Parent, Sibling, Children. -/
import Derived.Test.YtifnmidecjmmnaaGreatDoorCoH
import Derived.Test.YtifnmidecjmmnaaGreatDoorCoL
namespace Go.Proofs.YtifnmidecjmmnaaGreatDoor
open Go.RowKit
set_option maxHeartbeats 800000 in
theorem rmay_any (w : World) (L I : Nat) : Calls Tryz.prog 70 #[cv L I] w fun e w' => e = .returned (.bool (mayB L I)) ∧ Below w.heap.size w w' := by
  unfold cv
  go_enter Tryz.func70, Tryz.ntmps70
  by_cases h : L ≤ 63
  · have hd := may_dec (I := I) h
    go_wp2_with fail
    go_ret
    exact ⟨rfl, below_new _ _⟩
  · rw [may_not h]
    go_wp2_with fail
    go_ret
    exact ⟨rfl, below_new _ _⟩
theorem mul_fits {L I : Nat} (h : mayB L I = true) : IntKind.u64.wrap ((I : Int) * (2 : Int) ^ L) = ((I * 2 ^ L : Nat) : Int) := by
  have := may_begin h
  have hp := Nat.two_pow_pos L
  exact wrap_nat (n := I * 2 ^ L) (by simp) (by omega)
theorem add_fits {L I : Nat} (h : mayB L I = true) : IntKind.u64.wrap (((I * 2 ^ L : Nat) : Int) + (2 : Int) ^ L) = (((I + 1) * 2 ^ L : Nat) : Int) := by
  have := may_end h
  exact wrap_nat (n := (I + 1) * 2 ^ L) (by rw [Nat.succ_mul]; simp) (by omega)
theorem one_fits {L : Nat} (h : L ≤ 63) : IntKind.u64.wrap ((2 : Int) ^ L) = (2 : Int) ^ L := by
  have hp : 2 ^ L ≤ 2 ^ 63 := Nat.pow_le_pow_right (by decide) h
  exact (wrap_nat (n := 2 ^ L) (by simp) (by omega)).trans (by simp)
set_option maxHeartbeats 800000 in
theorem rspan_any (w : World) (L I : Nat) : Calls Tryz.prog 12 #[cv L I] w fun e w' => e = .returned (.tuple #[sv (spB L I) (spE L I), .bool (mayB L I)]) ∧ Below w.heap.size w w' := by
  have hm := fun w => rmay_any w L I
  unfold cv at hm ⊢
  have HM := Bx.mk hm; clear hm
  go_enter Tryz.func12, Tryz.ntmps12
  go_wp2_with fail
  refine (HM.out _).mono ?_
  rintro e w1 ⟨rfl, hb⟩
  obtain ⟨h1, h2, hb1, hs1⟩ := two_new hb
  obtain ⟨a1, a2, a3, a4⟩ := two_cells h1
  obtain ⟨b1, b2, b3, b4⟩ := two_cells h2
  have HB := Bx.mk hb1; have HS := Bx.mk hs1; have H2 := Bx.mk h2
  clear hb h1 h2 hb1 hs1
  by_cases h : mayB L I = true
  · rw [h]
    have hL := ((mayB_iff _ _).1 h).1
    have e1 := mul_fits h; have e2 := add_fits h; have e3 := one_fits hL
    obtain ⟨s1, s2⟩ := sp_of h
    rw [← s1, ← s2] at e2; rw [← s1] at e1
    clear s1 s2
    go_wp2_with fail
    refine bodyPost_ret (res_two rfl _ _ (w.heap.size + 1) _ _ _ _ rfl (two_setC H2.out _ _) Tryz.underlying24 sizeS) rfl ⟨?_, (HB.out.setCell (Nat.le_succ _) _).setCell (Nat.le_succ _) _⟩
    rw [h]
    rfl
  · rw [Bool.eq_false_iff.2 h]
    go_wp2_with fail
    refine bodyPost_ret (res_two rfl _ _ (w.heap.size + 1) _ _ _ _ rfl (two_setC H2.out _ _) Tryz.underlying24 sizeS) rfl ⟨?_, (HB.out.setCell (Nat.le_succ _) _).setCell (Nat.le_succ _) _⟩
    rw [show spB L I = 0 by unfold spB; rw [if_neg h], show spE L I = 0 by unfold spE; rw [if_neg h], Bool.eq_false_iff.2 h]
    rfl
end Go.Proofs.YtifnmidecjmmnaaGreatDoor
