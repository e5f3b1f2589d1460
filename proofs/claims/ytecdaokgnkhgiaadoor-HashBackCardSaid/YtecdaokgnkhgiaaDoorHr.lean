/- hash.letter, cartularyref05.worth: what a letter is worth. -/
import Derived.Test.YtecdaokgnkhgiaaDoorHex
namespace Go.Proofs.YtecdaokgnkhgiaaDoor
set_option maxRecDepth 100000
open Go.RowKit
/-- what a letter is worth, and whether it is one -/
def lett (c : Int) : Int × Bool := if 48 ≤ c ∧ c ≤ 57 then (c - 48, true) else if 97 ≤ c ∧ c ≤ 102 then (c - 87, true) else (0, false)
set_option maxHeartbeats 800000 in
theorem letter_any (w : World) (c : Int) : Calls Tryd.prog 43 #[.int .i32 c] w fun e w' => e = .returned (.tuple #[.int .u8 (lett c).1, .bool (lett c).2]) ∧ w = w' := by
  have hl0 := lett.eq_1 c
  have HL0 := Bx.mk hl0; clear hl0
  go_enter Tryd.func43, Tryd.ntmps43
  by_cases h1 : (48 : Int) ≤ c
  · by_cases h2 : c ≤ 57
    · have hl : lett c = (c - 48, true) := by rw [HL0.out, if_pos ⟨h1, h2⟩]
      have HL := Bx.mk hl; clear hl
      have w1 : IntKind.i32.wrap (c - 48) = c - 48 := by simp [IntKind.wrap, IntKind.bits, IntKind.signed]; omega
      have w2 : IntKind.u8.wrap (c - 48) = c - 48 := by simp [IntKind.wrap, IntKind.bits, IntKind.signed]; omega
      go_wp2_with fail
      all_goals (go_ret2; exact ⟨by rw [HL.out]; rfl, rfl⟩)
    · by_cases h3 : (97 : Int) ≤ c
      · by_cases h4 : c ≤ 102
        · have hl : lett c = (c - 87, true) := by rw [HL0.out, if_neg (by omega), if_pos ⟨h3, h4⟩]
          have HL := Bx.mk hl; clear hl
          have w1 : IntKind.i32.wrap (c - 97) = c - 97 := by simp [IntKind.wrap, IntKind.bits, IntKind.signed]; omega
          have w2 : IntKind.u8.wrap (c - 97) = c - 97 := by simp [IntKind.wrap, IntKind.bits, IntKind.signed]; omega
          have w3 : IntKind.u8.wrap (c - 97 + 10) = c - 87 := by simp [IntKind.wrap, IntKind.bits, IntKind.signed]; omega
          go_wp2_with fail
          all_goals (go_ret2; exact ⟨by rw [HL.out]; rfl, rfl⟩)
        · have hl : lett c = (0, false) := by rw [HL0.out, if_neg (by omega), if_neg (by omega)]
          have HL := Bx.mk hl; clear hl
          go_wp2_with fail
          all_goals (go_ret2; exact ⟨by rw [HL.out]; rfl, rfl⟩)
      · have hl : lett c = (0, false) := by rw [HL0.out, if_neg (by omega), if_neg (by omega)]
        have HL := Bx.mk hl; clear hl
        go_wp2_with fail
        all_goals (go_ret2; exact ⟨by rw [HL.out]; rfl, rfl⟩)
  · have hl : lett c = (0, false) := by rw [HL0.out, if_neg (by omega), if_neg (by omega)]
    have HL := Bx.mk hl; clear hl
    go_wp2_with fail
    all_goals (go_ret2; exact ⟨by rw [HL.out]; rfl, rfl⟩)
/-- the first of the sixteen letters from t on that it is -/
def worG (x : UInt8) : Nat → Nat → Int
  | 0, _ => -1
  | n + 1, t => if hexA.data.getD t 0 = x then (t : Int) else worG x n (t + 1)
def wor (x : UInt8) : Int := if (lett x.toNat).2 then (lett x.toNat).1 else -1
theorem wor_fin : ∀ n : Fin 256, worG (UInt8.ofNat n.val) 16 0 = wor (UInt8.ofNat n.val) := by decide +kernel
theorem wor_eq (x : UInt8) : worG x 16 0 = wor x := by
  have := wor_fin ⟨x.toNat, x.toNat_lt⟩
  simpa using this
set_option maxHeartbeats 800000 in
theorem worth_any (w : World) (x : UInt8) : Calls Tryd.prog 44 #[.int .u8 (x.toNat : Int)] w fun e w' => e = .returned (.int .i64 (wor x)) ∧ w = w' := by
  go_enter Tryd.func44, Tryd.ntmps44
  go_wp2_with fail
  go_loopw [3] (fun i wr => ∃ t : Nat, t ≤ 16 ∧ i = .int .i64 (t : Int) ∧ wor x = worG x (16 - t) t ∧ wr = w) (fun i _ => 16 - (intOf i).toNat)
  case atStart => exact ⟨0, Nat.zero_le _, rfl, (wor_eq x).symm, rfl⟩
  case round =>
    obtain ⟨t, ht, rfl, hc, rfl⟩ := hrel
    by_cases hlt : t < 16
    · have hg : hexA.data.getD t 0 = hexA[t]'(by show t < 16; omega) := by
        rw [Array.getD_eq_getD_getElem?, Array.getElem?_eq_getElem (by show t < 16; omega)]; rfl
      rw [show 16 - t = (15 - t) + 1 by omega, worG, hg] at hc
      have HC := Bx.mk hc; clear hc hg
      by_cases he : ((hexA[t]'(by show t < 16; omega)).toNat : Int) = (x.toNat : Int)
      · have he' : hexA[t]'(by show t < 16; omega) = x := UInt8.toNat_inj.1 (by omega)
        have he2 : (((hexA[t]'(by show t < 16; omega)).toNat : Int) == (x.toNat : Int)) = true := beq_iff_eq.2 he
        unfold hexA at he2
        have HE := Bx.mk he'; clear he' he
        go_wp2_with fail
        go_ret
        exact ⟨by rw [HC.out, if_pos HE.out]; rfl, rfl⟩
      · have he' : ¬ hexA[t]'(by show t < 16; omega) = x := fun h => he (by rw [h])
        have he2 : (((hexA[t]'(by show t < 16; omega)).toNat : Int) == (x.toNat : Int)) = false := beq_eq_false_iff_ne.2 he
        unfold hexA at he2
        have HE := Bx.mk he'; clear he' he
        go_wp2_with fail
        go_roundw
        case rel => exact ⟨t + 1, hlt, by go_num, by rw [HC.out, if_neg HE.out, show 16 - (t + 1) = 15 - t by omega], by first | rfl | trivial⟩
        case measure => simp [intOf]; omega
    · obtain rfl : t = 16 := by omega
      have hz : wor x = -1 := hc
      have HZ := Bx.mk hz; clear hz hc
      go_wp2_with fail
      go_ret
      exact ⟨by rw [HZ.out]; rfl, rfl⟩
end Go.Proofs.YtecdaokgnkhgiaaDoor
