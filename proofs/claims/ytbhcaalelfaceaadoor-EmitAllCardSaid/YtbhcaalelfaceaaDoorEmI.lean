/- bits.Count and bits.Ones of uint64. -/
import Derived.Test.YtbhcaalelfaceaaDoorEmP
import Derived.Test.YtbhcaalelfaceaaDoorEmS
namespace Go.Proofs.YtbhcaalelfaceaaDoor
set_option maxRecDepth 100000
open Go.RowKit
theorem tnF_more : ∀ (f n : Nat), n < 2 ^ f → tnF (f + 1) n = tnF f n
  | 0, n, h => by
    obtain rfl : n = 0 := by omega
    rfl
  | f + 1, n, h => by
    have ih := tnF_more f (n / 2) (by rw [Nat.pow_succ] at h; omega)
    show (if n % 2 = 1 then 1 + tnF (f + 1) (n / 2) else 0) = if n % 2 = 1 then 1 + tnF f (n / 2) else 0
    rw [ih]
theorem tones_odd {n : Nat} (h : n < 18446744073709551616) (ho : n % 2 = 1) : tones n = 1 + tones (n / 2) := by
  show tnF (63 + 1) n = 1 + tnF (63 + 1) (n / 2)
  rw [tnF_more 63 (n / 2) (by omega), tnF, if_pos ho]
theorem tones_even {n : Nat} (ho : n % 2 ≠ 1) : tones n = 0 := by
  show tnF (63 + 1) n = 0
  rw [tnF, if_neg ho]
set_option maxHeartbeats 800000 in
theorem count_any (x : Nat) (w : World) (hx : x < 18446744073709551616) : Calls Tryd.prog 19 #[.int .u64 (x : Int)] w fun e w' => e = .returned (.int .i64 (pcnt x : Int)) ∧ w' = w := by
  have hle := pcnt_le x
  obtain ⟨P, hP⟩ : ∃ P, P = pcnt x := ⟨_, rfl⟩
  rw [← hP] at hle ⊢
  have HP := Bx.mk hP; clear hP
  go_enter Tryd.func19, Tryd.ntmps19
  go_wp2_with fail
  go_loopw [0, 3] (fun xv nv wr => ∃ y c : Nat, xv = .int .u64 (y : Int) ∧ nv = .int .i64 (c : Int) ∧ y < 18446744073709551616 ∧ c + pcnt y = P ∧ wr = w) (fun xv _ _ => (intOf xv).toNat)
  case atStart => exact ⟨x, 0, rfl, rfl, hx, by rw [HP.out, Nat.zero_add], rfl⟩
  case round =>
    obtain ⟨y, c, rfl, rfl, hy, hc, rfl⟩ := hrel
    by_cases h0 : y = 0
    · subst h0
      rw [pcnt_zero] at hc
      obtain rfl : c = P := by omega
      go_wp2_with fail
      go_ret
      exact ⟨rfl, rfl⟩
    · have hp := pcnt_and (by omega : 0 < y) hy
      have hlt : y &&& (y - 1) ≤ y - 1 := Nat.and_le_right
      have e1 : IntKind.u64.wrap ((y : Int) - 1) = ((y - 1 : Nat) : Int) := by rw [show (y : Int) - 1 = ((y - 1 : Nat) : Int) by omega]; exact wrapNat _ (by omega)
      have e2 := andNat y (y - 1) hy (by omega)
      obtain ⟨z, hz⟩ : ∃ z, z = y &&& (y - 1) := ⟨_, rfl⟩
      rw [← hz] at hp hlt e2
      obtain ⟨q, hq⟩ : ∃ q, q = pcnt z := ⟨_, rfl⟩
      rw [← hq] at hp
      obtain ⟨r, hr⟩ : ∃ r, r = pcnt y := ⟨_, rfl⟩
      rw [← hr] at hc hp
      have HQ := Bx.mk hq; have HZ := Bx.mk hz
      clear hq hz hr
      have e3 : ((y : Int) == 0) = false := by rw [beq_eq_false_iff_ne]; omega
      have e4 : (y == 0) = false := by rw [beq_eq_false_iff_ne]; omega
      go_wp2_with fail
      go_roundw
      case rel => exact ⟨z, c + 1, by first | rfl | go_num, by go_num, by omega, by rw [← HQ.out]; omega, by first | rfl | trivial⟩
      case measure => simp [intOf]; omega
set_option maxHeartbeats 800000 in
theorem bones_any (x : Nat) (w : World) (hx : x < 18446744073709551616) : Calls Tryd.prog 22 #[.int .u64 (x : Int)] w fun e w' => e = .returned (.int .i64 (tones x : Int)) ∧ w' = w := by
  have hle := tones_64 x
  obtain ⟨P, hP⟩ : ∃ P, P = tones x := ⟨_, rfl⟩
  rw [← hP] at hle ⊢
  have HP := Bx.mk hP; clear hP
  go_enter Tryd.func22, Tryd.ntmps22
  go_wp2_with fail
  go_loopw [0, 3] (fun xv nv wr => ∃ y c : Nat, xv = .int .u64 (y : Int) ∧ nv = .int .i64 (c : Int) ∧ y < 18446744073709551616 ∧ c + tones y = P ∧ wr = w) (fun xv _ _ => (intOf xv).toNat)
  case atStart => exact ⟨x, 0, rfl, rfl, hx, by rw [HP.out, Nat.zero_add], rfl⟩
  case round =>
    obtain ⟨y, c, rfl, rfl, hy, hc, rfl⟩ := hrel
    have e2 := andNat y 1 hy (by omega)
    rw [Nat.and_one_is_mod] at e2
    by_cases h0 : y % 2 = 1
    · have hp := tones_odd hy h0
      rw [h0] at e2
      have e2 : bits .and .u64 (y : Int) 1 = 1 := e2
      obtain ⟨q, hq⟩ : ∃ q, q = tones (y / 2) := ⟨_, rfl⟩
      rw [← hq] at hp
      obtain ⟨r, hr⟩ : ∃ r, r = tones y := ⟨_, rfl⟩
      rw [← hr] at hc hp
      have HQ := Bx.mk hq
      have H0 := Bx.mk h0
      clear hq hr h0
      go_wp2_with fail
      go_roundw
      case rel => exact ⟨y / 2, c + 1, by first | rfl | go_num, by go_num, by omega, by rw [← HQ.out]; omega, by first | rfl | trivial⟩
      case measure => have := H0.out; simp [intOf]; omega
    · have hp := tones_even h0
      rw [hp] at hc
      obtain rfl : c = P := by omega
      rw [show y % 2 = 0 by omega] at e2
      have e2 : bits .and .u64 (y : Int) 1 = 0 := e2
      clear h0 hp
      go_wp2_with fail
      go_ret
      exact ⟨rfl, rfl⟩
end Go.Proofs.YtbhcaalelfaceaaDoor
