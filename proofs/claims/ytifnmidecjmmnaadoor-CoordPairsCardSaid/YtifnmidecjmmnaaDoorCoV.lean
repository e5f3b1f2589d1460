/- The document's own answers of chapter 06, walked: Has, order, begins, Cmp, Common. -/
import Derived.Test.YtifnmidecjmmnaaDoorCoR
namespace Go.Proofs.YtifnmidecjmmnaaDoor
open Go.RowKit
set_option maxHeartbeats 1600000 in
set_option maxRecDepth 100000 in
theorem has_any (w : World) (La Ia Lb Ib : Nat) : Calls Tryd.prog 30 #[cv La Ia, cv Lb Ib] w fun e w' => e = .returned (.bool (decide (spB La Ia ≤ spB Lb Ib ∧ spE Lb Ib ≤ spE La Ia))) ∧ Below w.heap.size w w' := by
  have c1 := fun w => rspan_any w La Ia
  have c2 := fun w => rspan_any w Lb Ib
  have s0 := (below_new w (.cells #[.int .u8 (La : Int), .int .u64 (Ia : Int)] 24)).alloc (by simp) (.cells #[.int .u8 (Lb : Int), .int .u64 (Ib : Int)] 24)
  have mb : At ((w.alloc (.cells #[.int .u8 (La : Int), .int .u64 (Ia : Int)] 24)).alloc (.cells #[.int .u8 (Lb : Int), .int .u64 (Ib : Int)] 24)) (w.heap.size + 1) 24 (.int .u8 (Lb : Int)) (.int .u64 (Ib : Int)) := heap_alloc2_new _ _ _
  unfold cv sv at *
  have C1 := Bx.mk c1; have C2 := Bx.mk c2; have SB := Bx.mk s0; have MB := Bx.mk mb
  clear c1 c2 s0 mb
  go_enter Tryd.func30, Tryd.ntmps30
  go_wp2_with fail
  refine (C1.out _).mono ?_
  rintro e w1 ⟨rfl, hb⟩
  have mb := (MB.out.below hb).alloc (.cells #[.int .u64 (spB La Ia : Int), .int .u64 (spE La Ia : Int)] 36)
  have ms := At.new w1 36 (.int .u64 (spB La Ia : Int)) (.int .u64 (spE La Ia : Int))
  have sb := SB.out.trans (hb.mono SB.out.size)
  have sb := sb.alloc sb.size (.cells #[.int .u64 (spB La Ia : Int), .int .u64 (spE La Ia : Int)] 36)
  obtain ⟨b1, b2, b3, b4⟩ := mb.cells
  have SB := Bx.mk sb; have MS := Bx.mk ms
  clear hb mb ms sb MB
  go_wp2_with fail
  refine (C2.out _).mono ?_
  rintro e w2 ⟨rfl, hb⟩
  have ms := (MS.out.below hb).alloc (.cells #[.int .u64 (spB Lb Ib : Int), .int .u64 (spE Lb Ib : Int)] 36)
  have mt := At.new w2 36 (.int .u64 (spB Lb Ib : Int)) (.int .u64 (spE Lb Ib : Int))
  have sb := SB.out.trans (hb.mono SB.out.size)
  have sb := sb.alloc sb.size (.cells #[.int .u64 (spB Lb Ib : Int), .int .u64 (spE Lb Ib : Int)] 36)
  obtain ⟨b1, b2, b3, b4⟩ := ms.cells
  obtain ⟨d1, d2, d3, d4⟩ := mt.cells
  have SB := Bx.mk sb
  clear hb ms mt sb MS C1 C2
  by_cases h1 : spB La Ia ≤ spB Lb Ib
  · by_cases h2 : spE Lb Ib ≤ spE La Ia
    · have hd := Bx.mk (decide_eq_true (And.intro h1 h2))
      go_wp2_with fail
      go_ret
      exact ⟨by rw [hd.out]; rfl, SB.out⟩
    · have hd := Bx.mk (decide_eq_false (p := spB La Ia ≤ spB Lb Ib ∧ spE Lb Ib ≤ spE La Ia) (fun h => h2 h.2))
      go_wp2_with fail
      go_ret
      exact ⟨by rw [hd.out]; rfl, SB.out⟩
  · have hd := Bx.mk (decide_eq_false (p := spB La Ia ≤ spB Lb Ib ∧ spE Lb Ib ≤ spE La Ia) (fun h => h1 h.1))
    go_wp2_with fail
    go_ret
    exact ⟨by rw [hd.out]; rfl, SB.out⟩
theorem pow_cut {L k : Nat} (h : L ≤ k) : 2 ^ k = 2 ^ (k - L) * 2 ^ L := by rw [← Nat.pow_add]; congr 1; omega
theorem anc_div {L I k : Nat} (h : L ≤ k) : I * 2 ^ L / 2 ^ k = I / 2 ^ (k - L) := by
  rw [pow_cut h]; exact Nat.mul_div_mul_right _ _ (Nat.two_pow_pos _)
theorem anc_may {L I k : Nat} (hm : mayB L I = true) (hk : k ≤ 63) : mayB k (I * 2 ^ L / 2 ^ k) = true := by
  have h1 := may_begin hm
  have h2 := Nat.two_pow_pos L
  rw [mayB_iff]
  refine ⟨hk, ?_⟩
  rw [Nat.div_lt_iff_lt_mul (Nat.two_pow_pos _), two_pow_split k hk]
  omega
theorem in_anc {L I A k : Nat} (h1 : A * 2 ^ k ≤ I * 2 ^ L) (h2 : (I + 1) * 2 ^ L ≤ (A + 1) * 2 ^ k) : L ≤ k ∧ I / 2 ^ (k - L) = A := by
  have h3 : 2 ^ L ≤ 2 ^ k := by rw [Nat.succ_mul, Nat.succ_mul] at h2; omega
  have hL : L ≤ k := (Nat.pow_le_pow_iff_right (a := 2) (by decide)).1 h3
  rw [pow_cut hL, ← Nat.mul_assoc] at h1 h2
  have h4 := Nat.le_of_mul_le_mul_right h1 (Nat.two_pow_pos L)
  have h5 := Nat.le_of_mul_le_mul_right h2 (Nat.two_pow_pos L)
  exact ⟨hL, Nat.div_eq_of_lt_le h4 h5⟩
/-- has the tree of level k above a's beginning both -/
theorem anc_has {La Ia Lb Ib k : Nat} (ha : mayB La Ia = true) (hb : mayB Lb Ib = true) (hk : k ≤ 63) :
    (spB k (spB La Ia / 2 ^ k) ≤ spB La Ia ∧ spE La Ia ≤ spE k (spB La Ia / 2 ^ k)) ∧ (spB k (spB La Ia / 2 ^ k) ≤ spB Lb Ib ∧ spE Lb Ib ≤ spE k (spB La Ia / 2 ^ k)) ↔ Com k La Ia Lb Ib := by
  obtain ⟨a1, a2⟩ := sp_of ha
  obtain ⟨b1, b2⟩ := sp_of hb
  rw [a1, a2, b1, b2]
  obtain ⟨c1, c2⟩ := sp_of (anc_may ha hk)
  rw [c1, c2]
  constructor
  · rintro ⟨⟨h1, h2⟩, h3, h4⟩
    obtain ⟨x1, x2⟩ := in_anc h1 h2
    obtain ⟨y1, y2⟩ := in_anc h3 h4
    exact ⟨x1, y1, x2.trans y2.symm⟩
  · rintro ⟨h1, h2, h3⟩
    rw [anc_div h1]
    exact ⟨⟨anc_begin h1, anc_end h1⟩, by rw [h3]; exact anc_begin h2, by rw [h3]; exact anc_end h2⟩
set_option maxHeartbeats 800000 in
theorem order2_any (w : World) (a b : Nat) : Calls Tryd.prog 42 #[.int .u64 (a : Int), .int .u64 (b : Int)] w fun e w' => e = .returned (.int .i64 (ordN a b)) ∧ w' = w := by
  unfold ordN
  by_cases h1 : a < b
  · go_enter Tryd.func42, Tryd.ntmps42
    go_wp2
    go_ret
    exact ⟨rfl, rfl⟩
  · by_cases h2 : b < a
    · go_enter Tryd.func42, Tryd.ntmps42
      go_wp2
      go_ret
      exact ⟨rfl, rfl⟩
    · obtain rfl : a = b := by omega
      go_enter Tryd.func42, Tryd.ntmps42
      go_wp2
      go_ret
      exact ⟨rfl, rfl⟩
set_option maxHeartbeats 3200000 in
set_option maxRecDepth 100000 in
theorem rcommon_any (w : World) (La Ia Lb Ib : Nat) :
    Calls Tryd.prog 11 #[cv La Ia, cv Lb Ib] w fun e w' => e = .returned (.tuple #[cv (comL La Ia Lb Ib) (comI La Ia Lb Ib), .bool (comK La Ia Lb Ib)]) ∧ Below w.heap.size w w' := by
  have hm := fun w => rmay_any w La Ia
  have hm2 := fun w => rmay_any w Lb Ib
  have hsp := fun w => rspan_any w La Ia
  unfold cv at hm hm2 hsp ⊢
  unfold sv at hsp
  have HM := Bx.mk hm; have HM2 := Bx.mk hm2; have HSP := Bx.mk hsp; clear hm hm2 hsp
  go_enter Tryd.func11, Tryd.ntmps11
  go_wp2_with fail
  refine (HM.out _).mono ?_
  rintro e w1 ⟨rfl, hb⟩
  obtain ⟨h1, h2, h3, hb1, hs1⟩ := three_new hb
  have m1 : At w1 w.heap.size 24 (.int .u8 (La : Int)) (.int .u64 (Ia : Int)) := h1
  have m2 : At w1 (w.heap.size + 1) 24 (.int .u8 (Lb : Int)) (.int .u64 (Ib : Int)) := h2
  have m3 : At w1 (w.heap.size + 2) 24 (.int .u8 0) (.int .u64 0) := h3
  obtain ⟨a1, a2, a3, a4⟩ := m2.cells
  obtain ⟨c1, c2, c3, c4⟩ := m3.cells
  have M1 := Bx.mk m1; have M2 := Bx.mk m2; have M3 := Bx.mk m3; have HB := Bx.mk hb1
  clear hb h1 h2 h3 hb1 hs1 m1 m2 m3
  by_cases ha : mayB La Ia = true
  · rw [ha]
    go_wp2_with fail
    refine (HM2.out _).mono ?_
    rintro e w2 ⟨rfl, hb2⟩
    have m1 := M1.out.below hb2; have m2 := M2.out.below hb2; have m3 := M3.out.below hb2
    have gb := HB.out.trans (hb2.mono HB.out.size)
    obtain ⟨b1, b2, b3, b4⟩ := m1.cells
    obtain ⟨c1, c2, c3, c4⟩ := m3.cells
    have M1 := Bx.mk m1; have M2 := Bx.mk m2; have M3 := Bx.mk m3; have HB := Bx.mk gb
    clear hb2 m1 m2 m3 gb
    by_cases hb : mayB Lb Ib = true
    · rw [hb]
      have HA := Bx.mk (And.intro ha hb)
      clear ha hb
      go_wp2_with fail
      refine (HSP.out _).mono ?_
      rintro e w3 ⟨rfl, hb3⟩
      have m1 := (M1.out.below hb3).alloc (.cells #[.int .u64 (spB La Ia : Int), .int .u64 (spE La Ia : Int)] 36)
      have m2 := (M2.out.below hb3).alloc (.cells #[.int .u64 (spB La Ia : Int), .int .u64 (spE La Ia : Int)] 36)
      have m3 := (M3.out.below hb3).alloc (.cells #[.int .u64 (spB La Ia : Int), .int .u64 (spE La Ia : Int)] 36)
      have m4 := At.new w3 36 (.int .u64 (spB La Ia : Int)) (.int .u64 (spE La Ia : Int))
      have gb := HB.out.trans (hb3.mono HB.out.size)
      have gb := gb.alloc gb.size (.cells #[.int .u64 (spB La Ia : Int), .int .u64 (spE La Ia : Int)] 36)
      have M1 := Bx.mk m1; have M2 := Bx.mk m2; have M3 := Bx.mk m3; have M4 := Bx.mk m4; have HB := Bx.mk gb
      clear hb3 m1 m2 m3 m4 gb
      go_wp2_with fail
      go_loopg [8] 63 (fun k i wr => ∃ t : Nat, k = 63 - t ∧ t ≤ 63 ∧ i = .int .i64 (t : Int) ∧ (∀ j, j < t → ¬ Com j La Ia Lb Ib) ∧ At wr w.heap.size 24 (.int .u8 (La : Int)) (.int .u64 (Ia : Int)) ∧ At wr (w.heap.size + 1) 24 (.int .u8 (Lb : Int)) (.int .u64 (Ib : Int)) ∧ At wr (w.heap.size + 2) 24 (.int .u8 0) (.int .u64 0) ∧ At wr w3.heap.size 36 (.int .u64 (spB La Ia : Int)) (.int .u64 (spE La Ia : Int)) ∧ Below w.heap.size w wr)
      case atStart => exact ⟨0, rfl, by omega, rfl, fun j hj => absurd hj (Nat.not_lt_zero _), M1.out, M2.out, M3.out, M4.out, HB.out⟩
      case round =>
        obtain ⟨t, hk, ht, rfl, hno, m1, m2, m3, m4, hb⟩ := hrel
        have HK := Bx.mk hk; have NO := Bx.mk hno; have HB := Bx.mk hb
        obtain ⟨b1, b2, b3, b4⟩ := m1.cells
        obtain ⟨c1, c2, c3, c4⟩ := m3.cells
        obtain ⟨d1, d2, d3, d4⟩ := m4.cells
        have M1 := Bx.mk m1; have M2 := Bx.mk m2; have M3 := Bx.mk m3; have M4 := Bx.mk m4
        clear hk hno hb m1 m2 m3 m4
        by_cases hlt : t < 63
        · have hh := fun w => has_any w t (spB La Ia / 2 ^ t) La Ia
          have hh2 := fun w => has_any w t (spB La Ia / 2 ^ t) Lb Ib
          have hiff := anc_has (k := t) HA.out.1 HA.out.2 (by omega)
          unfold cv at hh hh2
          rw [← div_pow_nat] at hh hh2
          have hq : (decide (spB t (spB La Ia / 2 ^ t) ≤ spB La Ia ∧ spE La Ia ≤ spE t (spB La Ia / 2 ^ t)) && decide (spB t (spB La Ia / 2 ^ t) ≤ spB Lb Ib ∧ spE Lb Ib ≤ spE t (spB La Ia / 2 ^ t))) = true ↔ Com t La Ia Lb Ib := by
            rw [Bool.and_eq_true, decide_eq_true_eq, decide_eq_true_eq]; exact hiff
          clear hiff
          generalize decide (spB t (spB La Ia / 2 ^ t) ≤ spB La Ia ∧ spE La Ia ≤ spE t (spB La Ia / 2 ^ t)) = q1 at hh hq
          generalize decide (spB t (spB La Ia / 2 ^ t) ≤ spB Lb Ib ∧ spE Lb Ib ≤ spE t (spB La Ia / 2 ^ t)) = q2 at hh2 hq
          have next : ¬ Com t La Ia Lb Ib → ∀ j, j < t + 1 → ¬ Com j La Ia Lb Ib := fun h j hj => by
            rcases Nat.lt_or_ge j t with h1 | h1
            · exact NO.out j h1
            · obtain rfl : j = t := by omega
              exact h
          have HH := Bx.mk hh; have HH2 := Bx.mk hh2; have HI := Bx.mk hq; have NX := Bx.mk next
          clear hh hh2 hq next
          have ex : IntKind.u8.wrap (t : Int) = (t : Int) := wrap8_nat (n := t) rfl (by omega)
          have m1 := M1.out.alloc (.cells #[.int .u8 (t : Int), .int .u64 ((spB La Ia : Int) / 2 ^ t)] 24)
          obtain ⟨f1, f2, f3, f4⟩ := m1.cells
          clear m1
          go_wp2_with fail
          refine (HH.out _).mono ?_
          rintro e w4 ⟨rfl, hb4⟩
          have m1 := (M1.out.alloc (.cells #[.int .u8 (t : Int), .int .u64 ((spB La Ia : Int) / 2 ^ t)] 24)).below hb4
          have m2 := (M2.out.alloc (.cells #[.int .u8 (t : Int), .int .u64 ((spB La Ia : Int) / 2 ^ t)] 24)).below hb4
          have m3 := (M3.out.alloc (.cells #[.int .u8 (t : Int), .int .u64 ((spB La Ia : Int) / 2 ^ t)] 24)).below hb4
          have m4 := (M4.out.alloc (.cells #[.int .u8 (t : Int), .int .u64 ((spB La Ia : Int) / 2 ^ t)] 24)).below hb4
          have m5 := (At.new wr 24 (.int .u8 (t : Int)) (.int .u64 ((spB La Ia : Int) / 2 ^ t))).below hb4
          have gb := HB.out.alloc HB.out.size (.cells #[.int .u8 (t : Int), .int .u64 ((spB La Ia : Int) / 2 ^ t)] 24)
          have gb := gb.trans (hb4.mono gb.size)
          obtain ⟨g1, g2, g3, g4⟩ := m2.cells
          obtain ⟨i1, i2, i3, i4⟩ := m5.cells
          obtain ⟨c1, c2, c3, c4⟩ := m3.cells
          have M1 := Bx.mk m1; have M2 := Bx.mk m2; have M3 := Bx.mk m3; have M4 := Bx.mk m4; have M5 := Bx.mk m5; have HB := Bx.mk gb
          clear hb4 m1 m2 m3 m4 m5 gb
          cases q1
          · go_wp2_with fail
            go_roundg (63 - (t + 1))
            case measure => have := HK.out; omega
            case rel => exact ⟨t + 1, rfl, by omega, by simp, NX.out (by rw [← HI.out]; simp), M1.out, M2.out, M3.out, M4.out, HB.out⟩
          · go_wp2_with fail
            refine (HH2.out _).mono ?_
            rintro e w5 ⟨rfl, hb5⟩
            have m1 := M1.out.below hb5; have m2 := M2.out.below hb5; have m3 := M3.out.below hb5; have m4 := M4.out.below hb5; have m5 := M5.out.below hb5
            have gb := HB.out.trans (hb5.mono HB.out.size)
            obtain ⟨i1, i2, i3, i4⟩ := m5.cells
            obtain ⟨c1, c2, c3, c4⟩ := m3.cells
            have M1 := Bx.mk m1; have M2 := Bx.mk m2; have M3 := Bx.mk m3; have M4 := Bx.mk m4; have HB := Bx.mk gb
            clear hb5 m1 m2 m3 m4 m5 gb
            cases q2
            · go_wp2_with fail
              go_roundg (63 - (t + 1))
              case measure => have := HK.out; omega
              case rel => exact ⟨t + 1, rfl, by omega, by simp, NX.out (by rw [← HI.out]; simp), M1.out, M2.out, M3.out, M4.out, HB.out⟩
            · have hcom := HI.out.1 rfl
              have hf := comF_unique HA.out.1 HA.out.2 hcom NO.out
              have hk : comK La Ia Lb Ib = true := by unfold comK; rw [HA.out.1, HA.out.2]; rfl
              have hE : comL La Ia Lb Ib = t ∧ comI La Ia Lb Ib = spB La Ia / 2 ^ t ∧ comK La Ia Lb Ib = true := by
                refine ⟨by unfold comL; rw [if_pos hk, hf], ?_, hk⟩
                unfold comI
                rw [if_pos hk, hf, (sp_of HA.out.1).1, anc_div hcom.1]
              have HE := Bx.mk hE
              clear hcom hf hk hE
              go_wp2_with fail
              refine bodyPost_ret (res_two rfl _ _ (w.heap.size + 2) _ _ _ _ rfl (two_set M3.out _ _) Tryd.underlying24 sizeC) rfl ⟨?_, ?_⟩
              · obtain ⟨e1, e2, e3⟩ := HE.out
                rw [e1, e2, e3, div_pow_nat]
                rfl
              · repeat (first | with_reducible exact HB.out | with_reducible refine Below.setCell ?_ (by simp <;> omega) _)
        · obtain rfl : t = 63 := by omega
          have hk : comK La Ia Lb Ib = true := by unfold comK; rw [HA.out.1, HA.out.2]; rfl
          have hcom := com_top HA.out.1 HA.out.2
          have hf := comF_unique HA.out.1 HA.out.2 hcom NO.out
          have hE : comL La Ia Lb Ib = 63 ∧ comI La Ia Lb Ib = 0 ∧ comK La Ia Lb Ib = true := by
            refine ⟨by unfold comL; rw [if_pos hk, hf], ?_, hk⟩
            unfold comI
            rw [if_pos hk, hf, Nat.div_eq_of_lt ((mayB_iff _ _).1 HA.out.1).2]
          have HE := Bx.mk hE
          clear hcom hf hk hE
          go_wp2_with fail
          refine bodyPost_ret (res_two rfl _ _ (w.heap.size + 2) _ _ _ _ rfl (two_set M3.out _ _) Tryd.underlying24 sizeC) rfl ⟨?_, ?_⟩
          · obtain ⟨e1, e2, e3⟩ := HE.out
            rw [e1, e2, e3]
            rfl
          · repeat (first | with_reducible exact HB.out | with_reducible refine Below.setCell ?_ (by simp <;> omega) _)
    · have hk : comK La Ia Lb Ib = false := by unfold comK; simp [hb]
      rw [Bool.eq_false_iff.2 hb]
      have HKK := Bx.mk hk; clear hk
      go_wp2_with fail
      refine bodyPost_ret (res_two rfl _ _ (w.heap.size + 2) _ _ _ _ rfl (two_set M3.out _ _) Tryd.underlying24 sizeC) rfl ⟨?_, ?_⟩
      · have hk := HKK.out
        rw [show comL La Ia Lb Ib = 0 by unfold comL; rw [if_neg (by rw [hk]; decide)], show comI La Ia Lb Ib = 0 by unfold comI; rw [if_neg (by rw [hk]; decide)], hk]
        rfl
      · repeat (first | with_reducible exact HB.out | with_reducible refine Below.setCell ?_ (by simp <;> omega) _)
  · have hk : comK La Ia Lb Ib = false := by unfold comK; simp [ha]
    rw [Bool.eq_false_iff.2 ha]
    have HKK := Bx.mk hk; clear hk
    go_wp2_with fail
    refine bodyPost_ret (res_two rfl _ _ (w.heap.size + 2) _ _ _ _ rfl (two_set M3.out _ _) Tryd.underlying24 sizeC) rfl ⟨?_, ?_⟩
    · have hk := HKK.out
      rw [show comL La Ia Lb Ib = 0 by unfold comL; rw [if_neg (by rw [hk]; decide)], show comI La Ia Lb Ib = 0 by unfold comI; rw [if_neg (by rw [hk]; decide)], hk]
      rfl
    · repeat (first | with_reducible exact HB.out | with_reducible refine Below.setCell ?_ (by simp <;> omega) _)
end Go.Proofs.YtifnmidecjmmnaaDoor
