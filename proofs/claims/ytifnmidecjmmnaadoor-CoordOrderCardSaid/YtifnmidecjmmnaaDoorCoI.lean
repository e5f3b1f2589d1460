/- cartularylaw06.CoordOrder walked. -/
import Derived.Test.YtifnmidecjmmnaaDoorCoH
namespace Go.Proofs.YtifnmidecjmmnaaDoor
open Go.RowKit
theorem i64_neg {x : Int} (h : x = -1 ∨ x = 0 ∨ x = 1) : IntKind.i64.wrap (0 - x) = 0 - x := by
  rcases h with rfl | rfl | rfl <;> decide
set_option maxHeartbeats 6400000 in
set_option maxRecDepth 100000 in
theorem order_any (W : World) (La Ia Lb Ib Lc Ic : Nat) (hLa : La < 256) (hLb : Lb < 256) (hLc : Lc < 256) (hIa : Ia < 2 ^ 64) (hIb : Ib < 2 ^ 64) (hIc : Ic < 2 ^ 64) (hs : Seed W W) :
    Calls Tryd.prog 6 #[cv La Ia, cv Lb Ib, cv Lc Ic] W fun e w' => e = .returned (.bool true) ∧ Below W.heap.size W w' := by
  have c1 := fun w => cmp_any w La Ia Lb Ib hLa hLb hIa hIb
  have c2 := fun w => cmp_any w Lb Ib Lc Ic hLb hLc hIb hIc
  have c3 := fun w => cmp_any w La Ia Lc Ic hLa hLc hIa hIc
  have c4 := fun w => cmp_any w Lb Ib La Ia hLb hLa hIb hIa
  have c5 := fun w => children_any w La Ia
  have c6 := fun w => span_any w La Ia
  have c7 := fun w => span_any w Lb Ib
  rw [cmpN_swap La Ia Lb Ib] at c4
  have hx := cmpN_three La Ia Lb Ib
  have hz : cmpN La Ia Lb Ib = 0 ↔ La = Lb ∧ Ia = Ib := cmpN_zero
  have t1 := cmpN_trans La Ia Lb Ib Lc Ic
  have t2 := cmpN_trans' La Ia Lb Ib Lc Ic
  have hy := cmpN_three Lb Ib Lc Ic
  have hbeg : mayB La Ia = true → mayB Lb Ib = true → spB La Ia ≠ spB Lb Ib → (spB La Ia < spB Lb Ib ↔ cmpN La Ia Lb Ib < 0) := by
    intro h1 h2 h3
    unfold spB at h3 ⊢
    rw [if_pos h1, if_pos h2] at h3 ⊢
    rcases Nat.lt_or_gt_of_ne h3 with h | h
    · rw [cmpN_lt h]; simp [h]
    · rw [cmpN_gt h]; simp; omega
  have heq := fun w => cv_eql w La Ia Lb Ib
  generalize cmpN La Ia Lb Ib = x at *
  generalize cmpN Lb Ib Lc Ic = y at *
  generalize cmpN La Ia Lc Ic = z at *
  unfold cv at *
  have s1 := ((hs.alloc (.cells #[.int .u8 (La : Int), .int .u64 (Ia : Int)] 24)).alloc (.cells #[.int .u8 (Lb : Int), .int .u64 (Ib : Int)] 24)).alloc (.cells #[.int .u8 (Lc : Int), .int .u64 (Ic : Int)] 24)
  have C1 := Bx.mk c1; have C2 := Bx.mk c2; have C3 := Bx.mk c3; have C4 := Bx.mk c4; have C5 := Bx.mk c5; have C6 := Bx.mk c6; have C7 := Bx.mk c7
  have HX := Bx.mk hx; have HY := Bx.mk hy; have HZ := Bx.mk hz; have T1 := Bx.mk t1; have T2 := Bx.mk t2; have HBEG := Bx.mk hbeg; have S1 := Bx.mk s1; have HEQ := Bx.mk heq
  clear c1 c2 c3 c4 c5 c6 c7 hx hy hz t1 t2 hbeg s1 hs heq
  go_enter Tryd.func6, Tryd.ntmps6
  go_wp2_with fail
  refine (C1.out _).mono ?_
  rintro e w1 ⟨rfl, hb⟩
  have m1 : At w1 W.heap.size 24 (.int .u8 (La : Int)) (.int .u64 (Ia : Int)) := (((At.new W _ _ _).alloc _).alloc _).below hb
  have m2 : At w1 (W.heap.size + 1) 24 (.int .u8 (Lb : Int)) (.int .u64 (Ib : Int)) := (three_new hb).2.1
  have m3 : At w1 (W.heap.size + 2) 24 (.int .u8 (Lc : Int)) (.int .u64 (Ic : Int)) := (three_new hb).2.2.1
  have s1 := S1.out.next hb
  obtain ⟨a1, a2, a3, a4⟩ := m1.cells
  obtain ⟨b1, b2, b3, b4⟩ := m2.cells
  obtain ⟨d1, d2, d3, d4⟩ := m3.cells
  have M1 := Bx.mk m1; have M2 := Bx.mk m2; have M3 := Bx.mk m3; have SS := Bx.mk s1
  clear hb m1 m2 m3 s1 S1
  go_wp2_with fail
  refine (C2.out _).mono ?_
  rintro e w2 ⟨rfl, hb⟩
  have m1 := M1.out.below hb; have m2 := M2.out.below hb; have m3 := M3.out.below hb; have s1 := SS.out.next hb
  obtain ⟨a1, a2, a3, a4⟩ := m1.cells
  obtain ⟨b1, b2, b3, b4⟩ := m2.cells
  obtain ⟨d1, d2, d3, d4⟩ := m3.cells
  have M1 := Bx.mk m1; have M2 := Bx.mk m2; have M3 := Bx.mk m3; have SS := Bx.mk s1
  clear hb m1 m2 m3 s1
  go_wp2_with fail
  refine (C3.out _).mono ?_
  rintro e w3 ⟨rfl, hb⟩
  have m1 := M1.out.below hb; have m2 := M2.out.below hb; have m3 := M3.out.below hb; have s1 := SS.out.next hb
  obtain ⟨a1, a2, a3, a4⟩ := m1.cells
  obtain ⟨b1, b2, b3, b4⟩ := m2.cells
  obtain ⟨d1, d2, d3, d4⟩ := m3.cells
  have M1 := Bx.mk m1; have M2 := Bx.mk m2; have M3 := Bx.mk m3; have SS := Bx.mk s1
  clear hb m1 m2 m3 s1
  go_upto_region 4 with (fail)
  go_cut [71] (fun v wc => v = .bool false ∧ Below w3.heap.size w3 wc)
  case first =>
    have e0 := i64_neg HX.out
    have heq := HEQ.out
    have hx1 : ¬ x < -1 := by have := HX.out; omega
    have hx2 : ¬ 1 < x := by have := HX.out; omega
    have hd : decide (La = Lb ∧ Ia = Ib) = (x == 0) := by
      rw [Bool.eq_iff_iff]; simp only [decide_eq_true_eq, beq_iff_eq]; exact HZ.out.symm
    rw [hd] at heq
    clear hd
    go_wp2_with fail
    refine (C4.out _).mono ?_
    rintro e w4 ⟨rfl, hb⟩
    have m1 := M1.out.below hb; have m2 := M2.out.below hb; have m3 := M3.out.below hb
    obtain ⟨a1, a2, a3, a4⟩ := m1.cells
    obtain ⟨b1, b2, b3, b4⟩ := m2.cells
    obtain ⟨d1, d2, d3, d4⟩ := m3.cells
    have HB4 := Bx.mk hb
    clear hb m1 m2 m3
    rcases HX.out with rfl | rfl | rfl
    all_goals go_wp2_with fail
    all_goals (go_meet; case rel => exact ⟨by first | rfl | (have t1 := T1.out; have t2 := T2.out; first | (exfalso; omega) | (simp <;> omega)), HB4.out⟩)
  case rest =>
  obtain ⟨rfl, hb⟩ := hcut
  have m1 := M1.out.below hb; have m2 := M2.out.below hb; have s1 := SS.out.next hb
  obtain ⟨a1, a2, a3, a4⟩ := m1.cells
  obtain ⟨b1, b2, b3, b4⟩ := m2.cells
  have M1 := Bx.mk m1; have M2 := Bx.mk m2; have SS := Bx.mk s1
  clear hb m1 m2 s1 C1 C2 C3 C4 T1 T2 HY HZ HEQ
  go_wp2_with fail
  refine (C5.out _).mono ?_
  rintro e w5 ⟨rfl, hb⟩
  have m1 := M1.out.below hb; have m2 := M2.out.below hb; have s1 := SS.out.next hb
  obtain ⟨a1, a2, a3, a4⟩ := m1.cells
  obtain ⟨b1, b2, b3, b4⟩ := m2.cells
  have M1 := Bx.mk m1; have M2 := Bx.mk m2; have SS := Bx.mk s1
  clear hb m1 m2 s1 C5
  go_upto_region 7 with (fail)
  have n1 : At ((w5.alloc (.cells #[.int .u8 (dnL La Ia : Int), .int .u64 (dnI La Ia : Int)] 24)).alloc (.cells #[.int .u8 (dnL La Ia : Int), .int .u64 (dnJ La Ia : Int)] 24)) w5.heap.size 24 (.int .u8 (dnL La Ia : Int)) (.int .u64 (dnI La Ia : Int)) := (At.new _ _ _ _).alloc _
  have n2 : At ((w5.alloc (.cells #[.int .u8 (dnL La Ia : Int), .int .u64 (dnI La Ia : Int)] 24)).alloc (.cells #[.int .u8 (dnL La Ia : Int), .int .u64 (dnJ La Ia : Int)] 24)) (w5.heap.size + 1) 24 (.int .u8 (dnL La Ia : Int)) (.int .u64 (dnJ La Ia : Int)) := heap_alloc2_new _ _ _
  have m1 := (M1.out.alloc (.cells #[.int .u8 (dnL La Ia : Int), .int .u64 (dnI La Ia : Int)] 24)).alloc (.cells #[.int .u8 (dnL La Ia : Int), .int .u64 (dnJ La Ia : Int)] 24)
  have m2 := (M2.out.alloc (.cells #[.int .u8 (dnL La Ia : Int), .int .u64 (dnI La Ia : Int)] 24)).alloc (.cells #[.int .u8 (dnL La Ia : Int), .int .u64 (dnJ La Ia : Int)] 24)
  have s1 := (SS.out.alloc (.cells #[.int .u8 (dnL La Ia : Int), .int .u64 (dnI La Ia : Int)] 24)).alloc (.cells #[.int .u8 (dnL La Ia : Int), .int .u64 (dnJ La Ia : Int)] 24)
  change Code.wp _ _ _ _ ((w5.alloc (.cells #[.int .u8 (dnL La Ia : Int), .int .u64 (dnI La Ia : Int)] 24)).alloc (.cells #[.int .u8 (dnL La Ia : Int), .int .u64 (dnJ La Ia : Int)] 24))
  generalize ((w5.alloc (.cells #[.int .u8 (dnL La Ia : Int), .int .u64 (dnI La Ia : Int)] 24)).alloc (.cells #[.int .u8 (dnL La Ia : Int), .int .u64 (dnJ La Ia : Int)] 24)) = V at n1 n2 m1 m2 s1 ⊢
  generalize w5.heap.size = p5 at n1 n2 ⊢
  have M1 := Bx.mk m1; have M2 := Bx.mk m2; have SS := Bx.mk s1; have N1 := Bx.mk n1; have N2 := Bx.mk n2
  clear m1 m2 s1 n1 n2
  go_cut [12, 90] (fun _ v wc => v = .bool false ∧ Below V.heap.size V wc)
  case first =>
    by_cases hk : dnK La Ia = true
    · obtain ⟨hm, h0⟩ := dnK_iff.1 hk
      have hl := may_lt hm
      have hL := ((mayB_iff _ _).1 hm).1
      have c8 := fun w => cmp_any w La Ia (dnL La Ia) (dnI La Ia) hLa (by unfold dnL; rw [if_pos hk]; omega) hIa (by unfold dnI; rw [if_pos hk]; omega)
      have c9 := fun w => cmp_any w (dnL La Ia) (dnI La Ia) (dnL La Ia) (dnJ La Ia) (by unfold dnL; rw [if_pos hk]; omega) (by unfold dnL; rw [if_pos hk]; omega) (by unfold dnI; rw [if_pos hk]; omega) (by unfold dnJ; rw [if_pos hk]; omega)
      have e8 : cmpN La Ia (dnL La Ia) (dnI La Ia) = -1 := by unfold dnL dnI; rw [if_pos hk, if_pos hk]; exact cmpN_half _ _ h0
      have e9 : cmpN (dnL La Ia) (dnI La Ia) (dnL La Ia) (dnJ La Ia) = -1 := by unfold dnL dnI dnJ; rw [if_pos hk, if_pos hk, if_pos hk]; exact cmpN_halves _ _
      rw [e8] at c8; rw [e9] at c9
      unfold cv at c8 c9
      have C8 := Bx.mk c8; have C9 := Bx.mk c9
      clear c8 c9 e8 e9 hm h0 hl hL
      rw [hk]
      obtain ⟨a1, a2, a3, a4⟩ := M1.out.cells
      obtain ⟨b1, b2, b3, b4⟩ := N1.out.cells
      clear hk
      go_wp2_with fail
      refine (C8.out _).mono ?_
      rintro e w6 ⟨rfl, hb⟩
      have n1 := N1.out.below hb; have n2 := N2.out.below hb
      obtain ⟨b1, b2, b3, b4⟩ := n1.cells
      obtain ⟨d1, d2, d3, d4⟩ := n2.cells
      have HB := Bx.mk hb; clear hb n1 n2
      go_wp2_with fail
      refine (C9.out _).mono ?_
      rintro e w7 ⟨rfl, hb⟩
      have hb' := HB.out.trans (hb.mono HB.out.size)
      have HB := Bx.mk hb'; clear hb hb'
      go_wp2_with fail
      go_meet
      case rel => exact ⟨rfl, HB.out⟩
    · rw [Bool.eq_false_iff.2 hk]
      go_wp2_with fail
      go_meet
      case rel => exact ⟨rfl, Below.refl _ _⟩
  case rest =>
  obtain ⟨rfl, hb⟩ := hcut
  have m1 := M1.out.below hb; have m2 := M2.out.below hb; have s1 := SS.out.next hb
  obtain ⟨a1, a2, a3, a4⟩ := m1.cells
  obtain ⟨b1, b2, b3, b4⟩ := m2.cells
  have M1 := Bx.mk m1; have M2 := Bx.mk m2; have SS := Bx.mk s1
  clear hb m1 m2 s1 N1 N2
  go_wp2_with fail
  refine (C6.out _).mono ?_
  rintro e w8 ⟨rfl, hb⟩
  unfold sv
  have m2 := (M2.out.below hb).alloc (.cells #[.int .u64 (spB La Ia : Int), .int .u64 (spE La Ia : Int)] 36)
  have s1 := (SS.out.next hb).alloc (.cells #[.int .u64 (spB La Ia : Int), .int .u64 (spE La Ia : Int)] 36)
  have n1 := At.new w8 36 (.int .u64 (spB La Ia : Int)) (.int .u64 (spE La Ia : Int))
  obtain ⟨b1, b2, b3, b4⟩ := m2.cells
  have SS := Bx.mk s1; have N1 := Bx.mk n1
  clear hb m2 s1 n1 M1 M2
  go_wp2_with fail
  refine (C7.out _).mono ?_
  rintro e w9 ⟨rfl, hb⟩
  unfold sv
  have n1 := (N1.out.below hb).alloc (.cells #[.int .u64 (spB Lb Ib : Int), .int .u64 (spE Lb Ib : Int)] 36)
  have n2 := At.new w9 36 (.int .u64 (spB Lb Ib : Int)) (.int .u64 (spE Lb Ib : Int))
  have s1 := (SS.out.next hb).alloc (.cells #[.int .u64 (spB Lb Ib : Int), .int .u64 (spE Lb Ib : Int)] 36)
  generalize hp : w8.heap.size = p8 at n1 ⊢
  obtain ⟨a1, a2, a3, a4⟩ := n1.cells
  obtain ⟨b1, b2, b3, b4⟩ := n2.cells
  have SS := Bx.mk s1
  have ca := s1.alive
  have CA := Bx.mk ca
  clear hb n1 n2 s1 ca hp N1 C6 C7
  go_upto_region 11 with (fail)
  have fin : ∀ w', Below (w9.alloc (.cells #[.int .u64 (spB Lb Ib : Int), .int .u64 (spE Lb Ib : Int)] 36)).heap.size (w9.alloc (.cells #[.int .u64 (spB Lb Ib : Int), .int .u64 (spE Lb Ib : Int)] 36)) w' → Below W.heap.size W w' := fun w' h => (SS.out.next h).below
  have FIN := Bx.mk fin; clear fin
  by_cases ha : mayB La Ia = true
  · rw [ha]
    by_cases hb : mayB Lb Ib = true
    · rw [hb]
      have hbeg := HBEG.out ha hb
      clear ha hb HBEG
      generalize spB La Ia = p at *
      generalize spB Lb Ib = q at *
      by_cases hpq : p = q
      · subst hpq
        clear hbeg
        go_wp2_with fail
        refine CA.out.mono ?_
        rintro e w' ⟨rfl, hb⟩
        have HB := Bx.mk hb; clear hb
        go_wp2_with fail
        go_ret
        exact ⟨rfl, FIN.out _ HB.out⟩
      · have hpq' : ((p : Int) == (q : Int)) = false := by simp; omega
        have hbeg := hbeg hpq
        have hd : (decide (p < q) == decide (x < 0)) = true := by
          rw [beq_iff_eq, Bool.eq_iff_iff]; simp only [decide_eq_true_eq]; exact hbeg
        clear hpq hbeg
        go_wp2_with fail
        refine CA.out.mono ?_
        rintro e w' ⟨rfl, hb⟩
        have HB := Bx.mk hb; clear hb
        go_wp2_with fail
        go_ret
        exact ⟨rfl, FIN.out _ HB.out⟩
    · rw [Bool.eq_false_iff.2 hb]
      clear HBEG
      go_wp2_with fail
      refine CA.out.mono ?_
      rintro e w' ⟨rfl, hb⟩
      have HB := Bx.mk hb; clear hb
      go_wp2_with fail
      go_ret
      exact ⟨rfl, FIN.out _ HB.out⟩
  · rw [Bool.eq_false_iff.2 ha]
    clear HBEG
    go_wp2_with fail
    refine CA.out.mono ?_
    rintro e w' ⟨rfl, hb⟩
    have HB := Bx.mk hb; clear hb
    go_wp2_with fail
    go_ret
    exact ⟨rfl, FIN.out _ HB.out⟩
end Go.Proofs.YtifnmidecjmmnaaDoor
