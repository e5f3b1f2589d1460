/- The document's own answers of chapter 06, walked: begins, Cmp. -/
import Derived.Test.YtifnmidecjmmnaaDoorCoV
namespace Go.Proofs.YtifnmidecjmmnaaDoor
open Go.RowKit
/-- where two trees begin, one against the other -/
def begN (La Ia Lb Ib : Nat) : Int := ordN (Ia * 2 ^ La) (Ib * 2 ^ Lb)
theorem begN_swap (La Ia Lb Ib : Nat) : 0 - begN Lb Ib La Ia = begN La Ia Lb Ib := ordN_swap _ _
theorem begN_zero {La Lb Ib : Nat} : begN La 0 Lb Ib = ordN 0 Ib := by
  unfold begN ordN
  rw [Nat.zero_mul]
  have hp := Nat.two_pow_pos Lb
  by_cases h : Ib = 0
  · subst h; simp
  · have : 0 < Ib * 2 ^ Lb := Nat.mul_pos (Nat.pos_of_ne_zero h) hp
    rw [if_pos this, if_pos (Nat.pos_of_ne_zero h)]
theorem begN_same {L Ia Ib : Nat} : begN L Ia L Ib = ordN Ia Ib := by
  unfold begN ordN
  have hp := Nat.two_pow_pos L
  by_cases h1 : Ia < Ib
  · rw [if_pos (Nat.mul_lt_mul_of_pos_right h1 hp), if_pos h1]
  · by_cases h2 : Ib < Ia
    · rw [if_neg (by have := Nat.mul_lt_mul_of_pos_right h2 hp; omega), if_pos (Nat.mul_lt_mul_of_pos_right h2 hp), if_neg h1, if_pos h2]
    · obtain rfl : Ia = Ib := by omega
      simp
theorem begN_shift {La Ia Lb Ib : Nat} (h : Lb ≤ La) : begN La Ia Lb Ib = ordN (Ia * 2 ^ (La - Lb)) Ib := by
  have h1 := scale_lt h (Ia := Ia) (Ib := Ib)
  have h2 := scale_gt h (Ia := Ia) (Ib := Ib)
  unfold begN ordN
  generalize Ia * 2 ^ La = p at *
  generalize Ib * 2 ^ Lb = q at *
  generalize Ia * 2 ^ (La - Lb) = r at *
  by_cases l : r < Ib
  · rw [if_pos (show p < q by omega), if_pos l]
  · by_cases l2 : Ib < r
    · rw [if_neg (show ¬ p < q by omega), if_pos (show q < p by omega), if_neg l, if_pos l2]
    · rw [if_neg (show ¬ p < q by omega), if_neg (show ¬ q < p by omega), if_neg l, if_neg l2]
theorem begN_big {La Ia Lb Ib : Nat} (h : Lb ≤ La) (hI : Ib < 2 ^ 64) (hb : 2 ^ 64 ≤ Ia * 2 ^ (La - Lb)) : begN La Ia Lb Ib = 1 := by
  rw [begN_shift h]
  unfold ordN
  rw [if_neg (by omega), if_pos (by omega)]
theorem big_of_shift {Ia d : Nat} (h1 : d < 64) (h : 0 < Ia / 2 ^ (64 - d)) : 2 ^ 64 ≤ Ia * 2 ^ d := by
  have h2 : 2 ^ (64 - d) ≤ Ia := Nat.le_of_not_lt fun hlt => by rw [Nat.div_eq_of_lt hlt] at h; exact Nat.lt_irrefl _ h
  have h3 : 2 ^ (64 - d) * 2 ^ d = 2 ^ 64 := by rw [← Nat.pow_add]; congr 1; omega
  rw [← h3]
  exact Nat.mul_le_mul_right _ h2
theorem small_of_shift {Ia d : Nat} (h1 : d < 64) (h : Ia / 2 ^ (64 - d) = 0) : Ia * 2 ^ d < 2 ^ 64 := by
  have h2 : Ia < 2 ^ (64 - d) := Nat.lt_of_not_le fun hle => by
    have := (Nat.le_div_iff_mul_le (k0 := Nat.two_pow_pos (64 - d)) (x := 1) (y := Ia)).2 (by omega)
    omega
  have h3 : 2 ^ (64 - d) * 2 ^ d = 2 ^ 64 := by rw [← Nat.pow_add]; congr 1; omega
  rw [← h3]
  exact Nat.mul_lt_mul_of_pos_right h2 (Nat.two_pow_pos _)
theorem big_of_ge {Ia d : Nat} (h1 : 64 ≤ d) (h : Ia ≠ 0) : 2 ^ 64 ≤ Ia * 2 ^ d := by
  have h2 : 2 ^ 64 ≤ 2 ^ d := Nat.pow_le_pow_right (by decide) h1
  have h3 : 1 * 2 ^ d ≤ Ia * 2 ^ d := Nat.mul_le_mul_right _ (Nat.pos_of_ne_zero h)
  omega
set_option maxHeartbeats 3200000 in
set_option maxRecDepth 100000 in
theorem begins_ge (w : World) (La Ia Lb Ib : Nat) (hLa : La < 256) (hIa : Ia < 2 ^ 64) (hIb : Ib < 2 ^ 64) (hge : Lb ≤ La) :
    Calls Tryd.prog 35 #[cv La Ia, cv Lb Ib] w fun e w' => e = .returned (.int .i64 (begN La Ia Lb Ib)) ∧ Below w.heap.size w w' := by
  have k0 : Below w.heap.size w ((w.alloc (.cells #[.int .u8 (La : Int), .int .u64 (Ia : Int)] 24)).alloc (.cells #[.int .u8 (Lb : Int), .int .u64 (Ib : Int)] 24)) := (below_new _ _).alloc (by simp) _
  have K0 := Bx.mk k0; clear k0
  have ho := order2_any
  have HO := Bx.mk ho; clear ho
  have e1 : IntKind.u8.wrap ((La : Int) - (Lb : Int)) = ((La - Lb : Nat) : Int) := wrap8_nat (n := La - Lb) (by omega) (by omega)
  unfold cv
  by_cases h0 : Ia = 0
  · subst h0
    have hb := begN_zero (La := La) (Lb := Lb) (Ib := Ib)
    have HBE := Bx.mk hb; clear hb
    go_enter Tryd.func35, Tryd.ntmps35
    go_wp2_with fail
    refine (HO.out _ 0 Ib).mono ?_
    rintro e w1 ⟨rfl, rfl⟩
    go_wp2_with fail
    go_ret
    exact ⟨by rw [HBE.out]; rfl, K0.out⟩
  · have h0' : ((Ia : Int) == 0) = false := by simp; omega
    by_cases hd : La - Lb = 0
    · obtain rfl : La = Lb := by omega
      have hb := begN_same (L := La) (Ia := Ia) (Ib := Ib)
      have HBE := Bx.mk hb; clear hb hd e1
      clear h0
      go_enter Tryd.func35, Tryd.ntmps35
      go_wp2_with fail
      refine (HO.out _ Ia Ib).mono ?_
      rintro e w1 ⟨rfl, rfl⟩
      go_wp2_with fail
      go_ret
      exact ⟨by rw [HBE.out]; rfl, K0.out⟩
    · have hbig := fun h => begN_big (La := La) (Ia := Ia) (Lb := Lb) (Ib := Ib) hge hIb h
      have hsh := begN_shift (Ia := Ia) (Ib := Ib) hge
      have hd' : (((La - Lb : Nat) : Int) == 0) = false := by simp; omega
      by_cases h64 : 64 ≤ La - Lb
      · have hb := hbig (big_of_ge h64 h0)
        have HBE := Bx.mk hb
        generalize La - Lb = d at *
        clear hb hbig hsh h0 hd
        go_enter Tryd.func35, Tryd.ntmps35
        go_wp2_with fail
        go_ret
        exact ⟨by rw [HBE.out]; rfl, K0.out⟩
      · have e2 : IntKind.u8.wrap (64 - ((La - Lb : Nat) : Int)) = ((64 - (La - Lb) : Nat) : Int) := wrap8_nat (n := 64 - (La - Lb)) (by omega) (by omega)
        by_cases hz : Ia / 2 ^ (64 - (La - Lb)) = 0
        · have hs := small_of_shift (d := La - Lb) (by omega) hz
          have e3 : IntKind.u64.wrap ((Ia : Int) * (2 : Int) ^ (La - Lb)) = ((Ia * 2 ^ (La - Lb) : Nat) : Int) := wrap_nat (by simp) hs
          have e4 : (Ia : Int) / 2 ^ (64 - (La - Lb)) = 0 := by rw [div_pow_nat, hz]; rfl
          have HBE := Bx.mk hsh
          clear hsh hbig h0 hd hs hz
          generalize La - Lb = d at *
          go_enter Tryd.func35, Tryd.ntmps35
          go_wp2_with fail
          refine (HO.out _ (Ia * 2 ^ d) Ib).mono ?_
          rintro e w1 ⟨rfl, rfl⟩
          go_wp2_with fail
          go_ret
          exact ⟨by rw [HBE.out]; rfl, K0.out⟩
        · have hb := hbig (big_of_shift (by omega) (Nat.pos_of_ne_zero hz))
          have HBE := Bx.mk hb
          have e4 : (0 : Int) < (Ia : Int) / 2 ^ (64 - (La - Lb)) := by rw [div_pow_nat]; exact Int.ofNat_lt.2 (Nat.pos_of_ne_zero hz)
          clear hb hbig hsh h0 hd hz
          generalize La - Lb = d at *
          go_enter Tryd.func35, Tryd.ntmps35
          go_wp2_with fail
          go_ret
          exact ⟨by rw [HBE.out]; rfl, K0.out⟩
theorem ordN_three (a b : Nat) : ordN a b = -1 ∨ ordN a b = 0 ∨ ordN a b = 1 := by
  unfold ordN
  repeat' split
  all_goals simp
set_option maxHeartbeats 1600000 in
set_option maxRecDepth 100000 in
theorem begins_any (w : World) (La Ia Lb Ib : Nat) (hLa : La < 256) (hLb : Lb < 256) (hIa : Ia < 2 ^ 64) (hIb : Ib < 2 ^ 64) :
    Calls Tryd.prog 35 #[cv La Ia, cv Lb Ib] w fun e w' => e = .returned (.int .i64 (begN La Ia Lb Ib)) ∧ Below w.heap.size w w' := by
  by_cases hge : Lb ≤ La
  · exact begins_ge w La Ia Lb Ib hLa hIa hIb hge
  · have k0 : Below w.heap.size w ((w.alloc (.cells #[.int .u8 (La : Int), .int .u64 (Ia : Int)] 24)).alloc (.cells #[.int .u8 (Lb : Int), .int .u64 (Ib : Int)] 24)) := (below_new _ _).alloc (by simp) _
    have K0 := Bx.mk k0; clear k0
    have hc := fun w => begins_ge w Lb Ib La Ia hLb hIb hIa (by omega)
    have hsw := begN_swap La Ia Lb Ib
    have h3 : begN Lb Ib La Ia = -1 ∨ begN Lb Ib La Ia = 0 ∨ begN Lb Ib La Ia = 1 := ordN_three _ _
    generalize begN Lb Ib La Ia = x at *
    have e1 : IntKind.i64.wrap (-x) = -x := by rcases h3 with rfl | rfl | rfl <;> decide
    unfold cv at hc ⊢
    have HC := Bx.mk hc; have HSW := Bx.mk hsw; have H3 := Bx.mk h3
    clear hc hsw h3
    go_enter Tryd.func35, Tryd.ntmps35
    go_wp2_with fail
    refine (HC.out _).mono ?_
    rintro e w1 ⟨rfl, hb⟩
    have hb' := K0.out.trans (hb.mono K0.out.size)
    have HB := Bx.mk hb'; clear hb hb'
    go_wp2_with fail
    go_ret
    exact ⟨by rw [← HSW.out, Int.zero_sub]; rfl, HB.out⟩
theorem cmpN_beg (La Ia Lb Ib : Nat) : cmpN La Ia Lb Ib = if begN La Ia Lb Ib = 0 then ordN Lb La else begN La Ia Lb Ib := by
  unfold cmpN begN ordN
  generalize Ia * 2 ^ La = p
  generalize Ib * 2 ^ Lb = q
  by_cases h1 : p < q
  · simp [h1]
  · by_cases h2 : q < p
    · simp [h1, h2]
    · simp [h1, h2]
set_option maxHeartbeats 1600000 in
set_option maxRecDepth 100000 in
theorem rcmp_any (w : World) (La Ia Lb Ib : Nat) (hLa : La < 256) (hLb : Lb < 256) (hIa : Ia < 2 ^ 64) (hIb : Ib < 2 ^ 64) :
    Calls Tryd.prog 13 #[cv La Ia, cv Lb Ib] w fun e w' => e = .returned (.int .i64 (cmpN La Ia Lb Ib)) ∧ Below w.heap.size w w' := by
  have hc := fun w => begins_any w La Ia Lb Ib hLa hLb hIa hIb
  have hcmp := cmpN_beg La Ia Lb Ib
  generalize begN La Ia Lb Ib = x at *
  have k0 : Below w.heap.size w ((w.alloc (.cells #[.int .u8 (La : Int), .int .u64 (Ia : Int)] 24)).alloc (.cells #[.int .u8 (Lb : Int), .int .u64 (Ib : Int)] 24)) := (below_new _ _).alloc (by simp) _
  have m1 := (At.new w 24 (.int .u8 (La : Int)) (.int .u64 (Ia : Int))).alloc (.cells #[.int .u8 (Lb : Int), .int .u64 (Ib : Int)] 24)
  have m2 : At ((w.alloc (.cells #[.int .u8 (La : Int), .int .u64 (Ia : Int)] 24)).alloc (.cells #[.int .u8 (Lb : Int), .int .u64 (Ib : Int)] 24)) (w.heap.size + 1) 24 (.int .u8 (Lb : Int)) (.int .u64 (Ib : Int)) := heap_alloc2_new _ _ _
  unfold cv at hc ⊢
  have HC := Bx.mk hc; have K0 := Bx.mk k0; have M1 := Bx.mk m1; have M2 := Bx.mk m2; have HCMP := Bx.mk hcmp
  clear hc k0 m1 m2 hcmp
  go_enter Tryd.func13, Tryd.ntmps13
  go_wp2_with fail
  refine (HC.out _).mono ?_
  rintro e w1 ⟨rfl, hb⟩
  have m1 := M1.out.below hb; have m2 := M2.out.below hb
  have hb' := K0.out.trans (hb.mono K0.out.size)
  obtain ⟨a1, a2, a3, a4⟩ := m1.cells
  obtain ⟨b1, b2, b3, b4⟩ := m2.cells
  have HB := Bx.mk hb'; clear hb hb' m1 m2 M1 M2 K0 HC
  by_cases hx : x = 0
  · subst hx
    have hcmp := HCMP.out
    rw [if_pos rfl] at hcmp
    unfold ordN at hcmp
    by_cases h1 : Lb < La
    · rw [if_pos h1] at hcmp
      have HCM := Bx.mk hcmp; clear hcmp HCMP
      have hne : ((La : Int) == (Lb : Int)) = false := by simp; omega
      go_wp2_with fail
      go_ret
      exact ⟨by rw [HCM.out]; rfl, HB.out⟩
    · by_cases h2 : La < Lb
      · rw [if_neg h1, if_pos h2] at hcmp
        have HCM := Bx.mk hcmp; clear hcmp HCMP
        have hne : ((La : Int) == (Lb : Int)) = false := by simp; omega
        go_wp2_with fail
        go_ret
        exact ⟨by rw [HCM.out]; rfl, HB.out⟩
      · rw [if_neg h1, if_neg h2] at hcmp
        obtain rfl : La = Lb := by omega
        have HCM := Bx.mk hcmp; clear hcmp HCMP h1 h2
        go_wp2_with fail
        go_ret
        exact ⟨by rw [HCM.out]; rfl, HB.out⟩
  · have hcmp := HCMP.out
    rw [if_neg hx] at hcmp
    have HCM := Bx.mk hcmp; clear hcmp HCMP
    have hne : (x != 0) = true := by simpa using hx
    go_wp2_with fail
    go_ret
    exact ⟨by rw [HCM.out]; rfl, HB.out⟩
end Go.Proofs.YtifnmidecjmmnaaDoor
