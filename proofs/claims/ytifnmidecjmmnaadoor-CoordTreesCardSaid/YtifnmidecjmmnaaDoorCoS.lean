/- The document's own answers of chapter 06, walked: Sibling, Children. -/
import Derived.Test.YtifnmidecjmmnaaDoorCoR
namespace Go.Proofs.YtifnmidecjmmnaaDoor
open Go.RowKit
set_option maxHeartbeats 1600000 in
set_option maxRecDepth 100000 in
theorem rsibling_any (w : World) (L I : Nat) (hI : I < 2 ^ 64) : Calls Tryd.prog 25 #[cv L I] w fun e w' => e = .returned (.tuple #[cv (sbL L I) (sbI L I), .bool (upK L I)]) ∧ Below w.heap.size w w' := by
  have hm := fun w => rparent_any w L I hI
  unfold cv at hm ⊢
  by_cases hk : upK L I = true
  · have h := (upK_iff.1 hk).1
    obtain ⟨d1, d2, d3, d4⟩ := up_of hk
    have hlt := may_lt h
    rw [hk] at hm
    have HM := Bx.mk hm; clear hm
    have HK := Bx.mk hk; have D3 := Bx.mk d3; have D4 := Bx.mk d4
    clear hk d1 d2 d3 d4 h
    go_enter Tryd.func25, Tryd.ntmps25
    go_wp2_with fail
    refine (HM.out _).mono ?_
    rintro e w1 ⟨rfl, hb⟩
    obtain ⟨h1, h2, hb1, hs1⟩ := two_new hb
    have m1 : At w1 w.heap.size 24 (.int .u8 (L : Int)) (.int .u64 (I : Int)) := h1
    have m2 : At w1 (w.heap.size + 1) 24 (.int .u8 0) (.int .u64 0) := h2
    have m1 := m1.alloc (.cells #[.int .u8 (upL L I : Int), .int .u64 (upI L I : Int)] 24)
    have m2 := m2.alloc (.cells #[.int .u8 (upL L I : Int), .int .u64 (upI L I : Int)] 24)
    have hb2 := hb1.alloc (by omega) (.cells #[.int .u8 (upL L I : Int), .int .u64 (upI L I : Int)] 24)
    obtain ⟨a1, a2, a3, a4⟩ := m1.cells
    obtain ⟨b1, b2, b3, b4⟩ := m2.cells
    have HB := Bx.mk hb2; have H2 := Bx.mk m2
    clear hb h1 h2 hb1 hs1 m1 m2 hb2
    go_upto_region 4 with (fail)
    change Code.wp _ _ _ _ (w1.alloc (.cells #[.int .u8 (upL L I : Int), .int .u64 (upI L I : Int)] 24))
    generalize w1.alloc (.cells #[.int .u8 (upL L I : Int), .int .u64 (upI L I : Int)] 24) = V at *
    by_cases hp : I % 2 = 0
    · have hp' : ((I : Int) % 2 == 0) = true := by simp; omega
      have hp2 : (((I : Int).tmod 2) == 0) = true := by rw [Int.tmod_eq_emod_of_nonneg (by omega)]; exact hp'
      have e1 : IntKind.u64.wrap ((I : Int) + 1) = (I : Int) + 1 := (wrap_nat (n := I + 1) (by simp) (by omega)).trans (by simp)
      have HP := Bx.mk hp; clear hp
      go_wp2_with fail
      refine bodyPost_ret (res_two rfl _ _ (w.heap.size + 1) _ _ _ _ rfl (two_set H2.out _ _) Tryd.underlying24 sizeC) rfl ⟨?_, (HB.out.setCell (Nat.le_succ _) _).setCell (Nat.le_succ _) _⟩
      rw [D3.out, D4.out, HK.out, if_pos HP.out]
      rfl
    · have hp' : ((I : Int) % 2 == 0) = false := by simp; omega
      have hp2 : (((I : Int).tmod 2) == 0) = false := by rw [Int.tmod_eq_emod_of_nonneg (by omega)]; exact hp'
      have e1 : IntKind.u64.wrap ((I : Int) - 1) = (I : Int) - 1 := (wrap_nat (n := I - 1) (by omega) (by omega)).trans (by omega)
      have HP := Bx.mk hp; clear hp
      go_wp2_with fail
      refine bodyPost_ret (res_two rfl _ _ (w.heap.size + 1) _ _ _ _ rfl (two_set H2.out _ _) Tryd.underlying24 sizeC) rfl ⟨?_, (HB.out.setCell (Nat.le_succ _) _).setCell (Nat.le_succ _) _⟩
      rw [D3.out, D4.out, HK.out, if_neg HP.out, show ((I - 1 : Nat) : Int) = (I : Int) - 1 by have := HP.out; omega]
      rfl
  · have hk' := Bool.eq_false_iff.2 hk
    rw [hk'] at hm
    have HM := Bx.mk hm; clear hm
    have HK := Bx.mk hk'; clear hk' hk
    go_enter Tryd.func25, Tryd.ntmps25
    go_wp2_with fail
    refine (HM.out _).mono ?_
    rintro e w1 ⟨rfl, hb⟩
    obtain ⟨h1, h2, hb1, hs1⟩ := two_new hb
    have m2 : At w1 (w.heap.size + 1) 24 (.int .u8 0) (.int .u64 0) := h2
    have m2 := m2.alloc (.cells #[.int .u8 (upL L I : Int), .int .u64 (upI L I : Int)] 24)
    have hb2 := hb1.alloc (by omega) (.cells #[.int .u8 (upL L I : Int), .int .u64 (upI L I : Int)] 24)
    obtain ⟨b1, b2, b3, b4⟩ := m2.cells
    have HB := Bx.mk hb2; have H2 := Bx.mk m2
    clear hb h1 h2 hb1 hs1 m2 hb2
    go_upto_region 3 with (fail)
    change Code.wp _ _ _ _ (w1.alloc (.cells #[.int .u8 (upL L I : Int), .int .u64 (upI L I : Int)] 24))
    generalize w1.alloc (.cells #[.int .u8 (upL L I : Int), .int .u64 (upI L I : Int)] 24) = V at *
    go_wp2_with fail
    refine bodyPost_ret (res_two rfl _ _ (w.heap.size + 1) _ _ _ _ rfl (two_set H2.out _ _) Tryd.underlying24 sizeC) rfl ⟨?_, (HB.out.setCell (Nat.le_succ _) _).setCell (Nat.le_succ _) _⟩
    have hk := HK.out
    rw [show sbL L I = 0 by unfold sbL; rw [if_neg (by rw [hk]; decide)], show sbI L I = 0 by unfold sbI; rw [if_neg (by rw [hk]; decide)], hk]
    rfl
set_option maxHeartbeats 1600000 in
set_option maxRecDepth 100000 in
theorem rchildren_any (w : World) (L I : Nat) : Calls Tryd.prog 26 #[cv L I] w fun e w' => e = .returned (.tuple #[cv (dnL L I) (dnI L I), cv (dnL L I) (dnJ L I), .bool (dnK L I)]) ∧ Below w.heap.size w w' := by
  have hm := fun w => rmay_any w L I
  unfold cv at hm ⊢
  have HM := Bx.mk hm; clear hm
  go_enter Tryd.func26, Tryd.ntmps26
  go_wp2_with fail
  refine (HM.out _).mono ?_
  rintro e w1 ⟨rfl, hb⟩
  obtain ⟨h1, h2, h3, hb1, hs1⟩ := three_new hb
  obtain ⟨a1, a2, a3, a4⟩ := two_cells h1
  obtain ⟨b1, b2, b3, b4⟩ := two_cells h2
  obtain ⟨c1, c2, c3, c4⟩ := two_cells h3
  have HB := Bx.mk hb1; have HS := Bx.mk hs1; have H2 := Bx.mk h2; have H3 := Bx.mk h3
  clear hb h1 h2 h3 hb1 hs1
  by_cases h : mayB L I = true
  · rw [h]
    by_cases h0 : (L : Int) = 0
    · have hk : dnK L I = false := by simp [dnK]; omega
      go_wp2_with fail
      refine bodyPost_ret (v := .tuple #[.agg #[.int .u8 0, .int .u64 0], .agg #[.int .u8 0, .int .u64 0], .bool false]) (by simp [results, Tryd.results26, go_sem, b1, b2, c1, c2]) rfl ⟨by rw [show dnL L I = 0 by unfold dnL; rw [if_neg (by rw [hk]; decide)], show dnI L I = 0 by unfold dnI; rw [if_neg (by rw [hk]; decide)], show dnJ L I = 0 by unfold dnJ; rw [if_neg (by rw [hk]; decide)], hk]; rfl, (((HB.out.setCell (by simp <;> omega) _).setCell (by simp <;> omega) _).setCell (by simp <;> omega) _).setCell (by simp <;> omega) _⟩
    · have hL := ((mayB_iff L I).1 h).1
      have hI := may_lt h
      have hk : dnK L I = true := dnK_iff.2 ⟨h, by omega⟩
      obtain ⟨d1, d2, d3⟩ := dn_of hk
      have e1 : IntKind.u64.wrap (2 * (I : Int)) = 2 * (I : Int) := (wrap_nat (n := 2 * I) (by simp) (by omega)).trans (by simp)
      have e2 : IntKind.u64.wrap (2 * (I : Int) + 1) = 2 * (I : Int) + 1 := (wrap_nat (n := 2 * I + 1) (by simp) (by omega)).trans (by simp)
      have HK := Bx.mk hk; have D1 := Bx.mk d1; have D2 := Bx.mk d2; have D3 := Bx.mk d3
      clear hk d1 d2 d3
      go_wp2_with fail
      go_region
      all_goals go_wp2_with fail
      refine bodyPost_ret (v := .tuple #[.agg #[.int .u8 ((L : Int) - 1), .int .u64 (2 * (I : Int))], .agg #[.int .u8 ((L : Int) - 1), .int .u64 (2 * (I : Int) + 1)], .bool true]) (by simp [results, Tryd.results26, go_sem, b1, b2, c1, c2]) rfl ⟨?_, ?_⟩
      · rw [D1.out, D2.out, D3.out, HK.out, show ((L : Int) - 1) = ((L - 1 : Nat) : Int) by omega]
        rfl
      · repeat (first | with_reducible exact HB.out | with_reducible refine Below.drew ?_ | with_reducible refine Below.setCell ?_ (by simp <;> omega) _)
  · have hk : dnK L I = false := by simp [dnK, h]
    rw [Bool.eq_false_iff.2 h]
    go_wp2_with fail
    refine bodyPost_ret (v := .tuple #[.agg #[.int .u8 0, .int .u64 0], .agg #[.int .u8 0, .int .u64 0], .bool false]) (by simp [results, Tryd.results26, go_sem, b1, b2, c1, c2]) rfl ⟨by rw [show dnL L I = 0 by unfold dnL; rw [if_neg (by rw [hk]; decide)], show dnI L I = 0 by unfold dnI; rw [if_neg (by rw [hk]; decide)], show dnJ L I = 0 by unfold dnJ; rw [if_neg (by rw [hk]; decide)], hk]; rfl, (((HB.out.setCell (by simp <;> omega) _).setCell (by simp <;> omega) _).setCell (by simp <;> omega) _).setCell (by simp <;> omega) _⟩
end Go.Proofs.YtifnmidecjmmnaaDoor
