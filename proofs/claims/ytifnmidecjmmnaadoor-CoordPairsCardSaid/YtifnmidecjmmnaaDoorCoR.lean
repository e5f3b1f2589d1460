/- The document's own answers of chapter 06, walked: May, Span, Parent, Sibling, Children. -/
import Derived.Test.YtifnmidecjmmnaaDoorCoH
import Derived.Test.YtifnmidecjmmnaaDoorCoL
namespace Go.Proofs.YtifnmidecjmmnaaDoor
open Go.RowKit
set_option maxHeartbeats 800000 in
theorem rmay_any (w : World) (L I : Nat) : Calls Tryd.prog 29 #[cv L I] w fun e w' => e = .returned (.bool (mayB L I)) ∧ Below w.heap.size w w' := by
  unfold cv
  go_enter Tryd.func29, Tryd.ntmps29
  by_cases h : L ≤ 63
  · have hd := may_dec (I := I) h
    go_wp2_with fail
    go_ret
    exact ⟨rfl, below_new _ _⟩
  · rw [may_not h]
    go_wp2_with fail
    go_ret
    exact ⟨rfl, below_new _ _⟩
theorem mul_fits {L I : Nat} (h : mayB L I = true) : IntKind.u64.wrap ((I : Int) * (2 : Int) ^ L) = ((I * 2 ^ L : Nat) : Int) := by
  have := may_begin h
  have hp := Nat.two_pow_pos L
  exact wrap_nat (n := I * 2 ^ L) (by simp) (by omega)
theorem add_fits {L I : Nat} (h : mayB L I = true) : IntKind.u64.wrap (((I * 2 ^ L : Nat) : Int) + (2 : Int) ^ L) = (((I + 1) * 2 ^ L : Nat) : Int) := by
  have := may_end h
  exact wrap_nat (n := (I + 1) * 2 ^ L) (by rw [Nat.succ_mul]; simp) (by omega)
theorem one_fits {L : Nat} (h : L ≤ 63) : IntKind.u64.wrap ((2 : Int) ^ L) = (2 : Int) ^ L := by
  have hp : 2 ^ L ≤ 2 ^ 63 := Nat.pow_le_pow_right (by decide) h
  exact (wrap_nat (n := 2 ^ L) (by simp) (by omega)).trans (by simp)
set_option maxHeartbeats 800000 in
theorem rspan_any (w : World) (L I : Nat) : Calls Tryd.prog 20 #[cv L I] w fun e w' => e = .returned (.tuple #[sv (spB L I) (spE L I), .bool (mayB L I)]) ∧ Below w.heap.size w w' := by
  have hm := fun w => rmay_any w L I
  unfold cv at hm ⊢
  have HM := Bx.mk hm; clear hm
  go_enter Tryd.func20, Tryd.ntmps20
  go_wp2_with fail
  refine (HM.out _).mono ?_
  rintro e w1 ⟨rfl, hb⟩
  obtain ⟨h1, h2, hb1, hs1⟩ := two_new hb
  obtain ⟨a1, a2, a3, a4⟩ := two_cells h1
  obtain ⟨b1, b2, b3, b4⟩ := two_cells h2
  have HB := Bx.mk hb1; have HS := Bx.mk hs1; have H2 := Bx.mk h2
  clear hb h1 h2 hb1 hs1
  by_cases h : mayB L I = true
  · rw [h]
    have hL := ((mayB_iff _ _).1 h).1
    have e1 := mul_fits h; have e2 := add_fits h; have e3 := one_fits hL
    obtain ⟨s1, s2⟩ := sp_of h
    rw [← s1, ← s2] at e2; rw [← s1] at e1
    clear s1 s2
    go_wp2_with fail
    refine bodyPost_ret (res_two rfl _ _ (w.heap.size + 1) _ _ _ _ rfl (two_set H2.out _ _) Tryd.underlying36 sizeS) rfl ⟨?_, (HB.out.setCell (Nat.le_succ _) _).setCell (Nat.le_succ _) _⟩
    rw [h]
    rfl
  · rw [Bool.eq_false_iff.2 h]
    go_wp2_with fail
    refine bodyPost_ret (res_two rfl _ _ (w.heap.size + 1) _ _ _ _ rfl (two_set H2.out _ _) Tryd.underlying36 sizeS) rfl ⟨?_, (HB.out.setCell (Nat.le_succ _) _).setCell (Nat.le_succ _) _⟩
    rw [show spB L I = 0 by unfold spB; rw [if_neg h], show spE L I = 0 by unfold spE; rw [if_neg h], Bool.eq_false_iff.2 h]
    rfl
set_option maxHeartbeats 1600000 in
set_option maxRecDepth 100000 in
theorem rparent_any (w : World) (L I : Nat) (hI : I < 2 ^ 64) : Calls Tryd.prog 23 #[cv L I] w fun e w' => e = .returned (.tuple #[cv (upL L I) (upI L I), .bool (upK L I)]) ∧ Below w.heap.size w w' := by
  have hm := fun w => rmay_any w L I
  have e1 : IntKind.u64.wrap ((I : Int) / 2) = (I : Int) / 2 := (wrap_nat (n := I / 2) (by simp) (by omega)).trans (by simp)
  unfold cv at hm ⊢
  by_cases h : mayB L I = true
  · have hL := ((mayB_iff _ _).1 h).1
    rw [h] at hm
    have HM := Bx.mk hm; clear hm
    by_cases h63 : (L : Int) = 63
    · have hk : upK L I = false := by simp [upK]; omega
      have H63 := Bx.mk h63; clear h63
      go_enter Tryd.func23, Tryd.ntmps23
      go_wp2_with fail
      refine (HM.out _).mono ?_
      rintro e w1 ⟨rfl, hb⟩
      have h63 := H63.out
      obtain ⟨h1, h2, h3, hb1, hs1⟩ := three_new hb
      obtain ⟨a1, a2, a3, a4⟩ := two_cells h1
      obtain ⟨b1, b2, b3, b4⟩ := two_cells h2
      obtain ⟨c1, c2, c3, c4⟩ := two_cells h3
      have HB := Bx.mk hb1; have HS := Bx.mk hs1; have H2 := Bx.mk h2; have H3 := Bx.mk h3
      clear hb h1 h2 h3 hb1 hs1
      go_wp2_with fail
      refine bodyPost_ret (res_two rfl _ _ (w.heap.size + 1) _ _ _ _ rfl (two_set H2.out _ _) Tryd.underlying24 sizeC) rfl ⟨?_, (HB.out.setCell (Nat.le_succ _) _).setCell (Nat.le_succ _) _⟩
      rw [show upL L I = 0 by unfold upL; rw [if_neg (by rw [hk]; decide)], show upI L I = 0 by unfold upI; rw [if_neg (by rw [hk]; decide)], hk]
      rfl
    · have hk : upK L I = true := upK_iff.2 ⟨h, by omega⟩
      have hm2 := fun w => rmay_any w (L + 1) (I / 2)
      rw [up_may h (by omega)] at hm2
      unfold cv at hm2
      rw [show ((L + 1 : Nat) : Int) = (L : Int) + 1 by simp, show ((I / 2 : Nat) : Int) = (I : Int) / 2 by simp] at hm2
      have HM2 := Bx.mk hm2; clear hm2
      go_enter Tryd.func23, Tryd.ntmps23
      go_wp2_with fail
      refine (HM.out _).mono ?_
      rintro e w1 ⟨rfl, hb⟩
      obtain ⟨h1, h2, h3, hb1, hs1⟩ := three_new hb
      obtain ⟨a1, a2, a3, a4⟩ := two_cells h1
      obtain ⟨b1, b2, b3, b4⟩ := two_cells h2
      obtain ⟨c1, c2, c3, c4⟩ := two_cells h3
      have HB := Bx.mk hb1; have HS := Bx.mk hs1; have H2 := Bx.mk h2; have H3 := Bx.mk h3
      clear hb h1 h2 h3 hb1 hs1
      go_wp2_with fail
      refine (HM2.out _).mono ?_
      rintro e w2 ⟨rfl, hb2⟩
      have hs2 := hb2.size
      have g2 := (hb2.block _ (by have := HS.out; omega)).trans H2.out
      have g3 := (hb2.block _ (by have := HS.out; omega)).trans H3.out
      have gb := HB.out.trans (hb2.mono (by have := HS.out; omega))
      obtain ⟨b1, b2, b3, b4⟩ := two_cells g2
      obtain ⟨c1, c2, c3, c4⟩ := two_cells g3
      have G2 := Bx.mk g2; have GB := Bx.mk gb
      clear hb2 g2 g3 gb hs2
      go_wp2_with fail
      refine bodyPost_ret (res_two rfl _ _ (w.heap.size + 1) _ _ _ _ rfl (two_set G2.out _ _) Tryd.underlying24 sizeC) rfl ⟨?_, (GB.out.setCell (Nat.le_succ _) _).setCell (Nat.le_succ _) _⟩
      obtain ⟨d1, d2, _, _⟩ := up_of hk
      rw [d1, d2, hk]
      rfl
  · have hk : upK L I = false := by simp [upK, h]
    rw [Bool.eq_false_iff.2 h] at hm
    have HM := Bx.mk hm; clear hm
    go_enter Tryd.func23, Tryd.ntmps23
    go_wp2_with fail
    refine (HM.out _).mono ?_
    rintro e w1 ⟨rfl, hb⟩
    obtain ⟨h1, h2, h3, hb1, hs1⟩ := three_new hb
    obtain ⟨a1, a2, a3, a4⟩ := two_cells h1
    obtain ⟨b1, b2, b3, b4⟩ := two_cells h2
    obtain ⟨c1, c2, c3, c4⟩ := two_cells h3
    have HB := Bx.mk hb1; have HS := Bx.mk hs1; have H2 := Bx.mk h2; have H3 := Bx.mk h3
    clear hb h1 h2 h3 hb1 hs1
    go_wp2_with fail
    refine bodyPost_ret (res_two rfl _ _ (w.heap.size + 1) _ _ _ _ rfl (two_set H2.out _ _) Tryd.underlying24 sizeC) rfl ⟨?_, (HB.out.setCell (Nat.le_succ _) _).setCell (Nat.le_succ _) _⟩
    rw [show upL L I = 0 by unfold upL; rw [if_neg (by rw [hk]; decide)], show upI L I = 0 by unfold upI; rw [if_neg (by rw [hk]; decide)], hk]
    rfl
end Go.Proofs.YtifnmidecjmmnaaDoor
