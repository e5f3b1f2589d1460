/- verify.up; cartularyref18.Half, Long, Steps. -/
import Derived.Test.YtmlpldkgennmkaaDoorVp
import Derived.Test.YtmlpldkgennmkaaDoorVh
namespace Go.Proofs.YtmlpldkgennmkaaDoor
set_option maxRecDepth 100000
open Go.RowKit
theorem and_one (n : Nat) (h : n < 18446744073709551616) : bits .and .u64 (n : Int) 1 = ((n % 2 : Nat) : Int) := by
  show IntKind.u64.wrap (((BitVec.ofInt 64 (n : Int)) &&& (BitVec.ofInt 64 1)).toNat : Int) = _
  have e1 : (BitVec.ofInt 64 (n : Int)).toNat = n := by rw [BitVec.toNat_ofInt]; omega
  have e2 : (BitVec.ofInt 64 1).toNat = 1 := by decide
  rw [BitVec.toNat_and, e1, e2, Nat.and_one_is_mod]
  simp [IntKind.wrap, IntKind.bits, IntKind.signed]
  omega
theorem up_any (w : World) (n l : Nat) (hn : n < 18446744073709551616) (hl : l < 18446744073709551616) :
    Calls Tryd.prog 30 #[.int .u64 (n : Int), .int .u64 (l : Int)] w fun e w' => e = .returned (.tuple #[.int .u64 ((upN n l).1 : Int), .int .u64 ((upN n l).2 : Int)]) ∧ w' = w := by
  go_enter Tryd.func30, Tryd.ntmps30
  go_wp2_with fail
  go_loop [0, 1] (fun a b => ∃ p q : Nat, p < 18446744073709551616 ∧ q < 18446744073709551616 ∧ a = .int .u64 (p : Int) ∧ b = .int .u64 (q : Int) ∧ upN p q = upN n l) (fun a _ => (intOf a).toNat)
  case atStart => exact ⟨n, l, hn, hl, rfl, rfl, rfl⟩
  case round =>
    obtain ⟨p, q, hp, hq, rfl, rfl, hu⟩ := hrel
    have HU := Bx.mk hu; clear hu
    have ha := and_one p hp
    by_cases h0 : p % 2 = 0
    · rw [h0] at ha
      by_cases h1 : p = 0
      · subst h1
        have hz := upN_zero q
        rw [HU.out] at hz
        have HZ := Bx.mk hz; clear hz
        go_wp2_with fail
        go_ret2
        exact ⟨by rw [HZ.out]; rfl, rfl⟩
      · have hz := upN_even (l := q) h0 h1
        rw [HU.out] at hz
        have HZ := Bx.mk hz
        have h1' : ((p : Int) == 0) = false := by simpa using h1
        have h1'' : ¬ (p : Int) = 0 := by omega
        have H1 := Bx.mk h1
        clear hz h0 h1
        go_wp2_with fail
        go_round
        case rel => exact ⟨p / 2, q / 2, by omega, by omega, by go_num, by go_num, HZ.out.symm⟩
        case measure => simp [intOf]; have := H1.out; omega
    · have h2 : p % 2 = 1 := by omega
      have hz := upN_odd (l := q) h2
      rw [HU.out] at hz
      rw [h2] at ha
      have HZ := Bx.mk hz; clear hz h0 h2
      go_wp2_with fail
      go_ret2
      exact ⟨by rw [HZ.out]; rfl, rfl⟩
set_option maxHeartbeats 800000 in
theorem half_any (w : World) (n : Nat) (h2 : 2 ≤ n) (hn : n ≤ 9223372036854775808) :
    Calls Tryd.prog 43 #[.int .u64 (n : Int)] w fun e w' => e = .returned (.int .u64 (half n : Int)) ∧ w' = w := by
  go_enter Tryd.func43, Tryd.ntmps43
  go_wp2_with fail
  go_loop [3] (fun k => ∃ K : Nat, 1 ≤ K ∧ K < n ∧ k = .int .u64 (K : Int) ∧ ∃ m, K = 2 ^ m) (fun k => n - (intOf k).toNat)
  case atStart => exact ⟨1, Nat.le_refl _, by omega, rfl, 0, rfl⟩
  case round =>
    obtain ⟨K, h1, hK, rfl, hm⟩ := hrel
    have HM := Bx.mk hm; clear hm
    have d1 : IntKind.u64.wrap ((n : Int) - (K : Int)) = (n : Int) - (K : Int) := by simp [IntKind.wrap, IntKind.bits, IntKind.signed]; omega
    by_cases hc : K + K < n
    · have d2 : IntKind.u64.wrap ((K : Int) * 2) = (K : Int) * 2 := by simp [IntKind.wrap, IntKind.bits, IntKind.signed]; omega
      have hc' : (K : Int) < (n : Int) - (K : Int) := by omega
      have D := And.intro hK hc
      go_wp2_with fail
      clear d1 d2
      go_round
      case rel =>
        obtain ⟨m, hm⟩ := HM.out
        exact ⟨K * 2, by omega, by omega, by go_num, m + 1, by rw [hm, Nat.pow_succ]⟩
      case measure => simp [intOf]; omega
    · have hc' : ¬ (K : Int) < (n : Int) - (K : Int) := by omega
      have hh : half n = K := by
        obtain ⟨m, hm⟩ := HM.out
        subst hm
        exact half_of ⟨hK, by rw [Nat.pow_succ]; omega⟩
      have HH := Bx.mk hh; clear hh
      go_wp2_with fail
      clear d1
      go_ret
      exact ⟨by rw [HH.out]; rfl, rfl⟩
set_option maxHeartbeats 1600000 in
theorem long_any (w : World) (i s : Nat) (hi : i < s) (hs : s ≤ 9223372036854775808) :
    Calls Tryd.prog 32 #[.int .u64 (i : Int), .int .u64 (s : Int)] w fun e w' => e = .returned (.int .i64 ((hdirs i s).length : Int)) ∧ w' = w := by
  go_enter Tryd.func32, Tryd.ntmps32
  go_wp2_with fail
  go_loop [0, 1, 5, 6] (fun a b c _ => ∃ p q t : Nat, p < q ∧ q ≤ 9223372036854775808 ∧ t + q ≤ s ∧ a = .int .u64 (p : Int) ∧ b = .int .u64 (q : Int) ∧ c = .int .i64 (t : Int) ∧ t + (hdirs p q).length = (hdirs i s).length) (fun _ b _ _ => (intOf b).toNat)
  case atStart => exact ⟨i, s, 0, hi, hs, by omega, rfl, rfl, rfl, by omega⟩
  case round =>
    obtain ⟨p, q, t, hp, hq, htq, rfl, rfl, rfl, hl⟩ := hrel
    by_cases h2 : 2 ≤ q
    · have hh := half_any w q h2 hq
      obtain ⟨g1, g2, g3⟩ := half_pos h2
      have h1 := hdirs_lt (i := p) (s := q) h2
      have h3 := hdirs_ge (i := p) (s := q) h2
      have h2' : (1 : Int) < (q : Int) := by omega
      generalize half q = k at hh g1 g2 g3 h1 h3
      have HH := Bx.mk hh; have HL := Bx.mk hl; have H1 := Bx.mk h1; have H3 := Bx.mk h3
      clear hh hl h1 h3
      by_cases hlt : p < k
      · have hlt' : (p : Int) < (k : Int) := by omega
        have HT := Bx.mk hlt; clear hlt
        go_wp2_with (go_at_call 43; refine HH.out.mono ?_; rintro e w' ⟨rfl, rfl⟩)
        go_round
        case rel =>
          have e := H1.out HT.out
          have := HL.out
          rw [e, List.length_append, List.length_singleton] at this
          exact ⟨p, k, t + 1, HT.out, by omega, by omega, rfl, rfl, by go_num, by omega⟩
        case measure => simp [intOf]; omega
      · have hlt' : ¬ (p : Int) < (k : Int) := by omega
        have HT := Bx.mk hlt
        have d1 : IntKind.u64.wrap ((p : Int) - (k : Int)) = (p : Int) - (k : Int) := by simp [IntKind.wrap, IntKind.bits, IntKind.signed]; omega
        have d2 : IntKind.u64.wrap ((q : Int) - (k : Int)) = (q : Int) - (k : Int) := by simp [IntKind.wrap, IntKind.bits, IntKind.signed]; omega
        clear hlt
        go_wp2_with (go_at_call 43; refine HH.out.mono ?_; rintro e w' ⟨rfl, rfl⟩)
        clear d1 d2
        go_round
        case rel =>
          have e := H3.out HT.out
          have := HL.out
          have ht := HT.out
          rw [e, List.length_append, List.length_singleton] at this
          refine ⟨p - k, q - k, t + 1, by omega, by omega, by omega, ?_, ?_, by go_num, by omega⟩
          · congr 1; omega
          · congr 1; omega
        case measure => simp [intOf]; omega
    · have h2' : ¬ (1 : Int) < (q : Int) := by omega
      rw [hdirs_small (by omega)] at hl
      have HL := Bx.mk hl; clear hl
      go_wp2_with fail
      go_ret
      exact ⟨by rw [← HL.out]; rfl, rfl⟩
/-- how many halves there are -/
theorem half_bound {s m : Nat} (h2 : 2 ≤ s) (h : s ≤ 2 ^ (m + 1)) : half s ≤ 2 ^ m := by
  obtain ⟨k, hk⟩ := HalfOf.ex s h2
  rw [half_of hk]
  have h1 : 2 ^ k < 2 ^ (m + 1) := Nat.lt_of_lt_of_le hk.lt h
  exact Nat.pow_le_pow_right (by decide) (Nat.lt_succ_iff.1 ((Nat.pow_lt_pow_iff_right (by decide)).1 h1))
theorem hsdirs_len (m : Nat) : ∀ o s, s ≤ 2 ^ m → (hsdirs o s).length ≤ m := by
  induction m with
  | zero =>
    intro o s h
    have : s ≤ 1 := h
    rw [hsdirs, dif_pos (by omega)]
    exact Nat.le_refl _
  | succ m ih =>
    intro o s h
    by_cases h1 : s ≤ o ∨ s < 2
    · rw [hsdirs, dif_pos h1]; exact Nat.zero_le _
    · have hb := half_bound (s := s) (by omega) h
      have hp := half_pos (s := s) (by omega)
      by_cases h3 : o ≤ half s
      · rw [hsdirs_le (by omega) (by omega) h3, List.length_append]
        have := ih o (half s) hb
        simp; omega
      · rw [hsdirs_gt (by omega) (by omega) h3, List.length_append]
        have := ih (o - half s) (s - half s) (by omega)
        simp; omega
/-- how many hashes a proof has -/
noncomputable def stepsN (o s : Nat) : Nat := (hsdirs o s).length + if (hsdirs o s).all (!·) then 0 else 1
set_option maxHeartbeats 1600000 in
theorem steps_any (w : World) (o s : Nat) (h0 : 0 < o) (ho : o ≤ s) (hs : s ≤ 9223372036854775808) :
    Calls Tryd.prog 36 #[.int .u64 (o : Int), .int .u64 (s : Int)] w fun e w' => e = .returned (.int .i64 (stepsN o s : Int)) ∧ w' = w := by
  go_enter Tryd.func36, Tryd.ntmps36
  go_wp2_with fail
  go_loop [0, 1, 5, 6, 7] (fun a b c d _ => ∃ (p q t : Nat) (wh : Bool), 0 < p ∧ p ≤ q ∧ q ≤ 9223372036854775808 ∧ t + q ≤ s ∧ a = .int .u64 (p : Int) ∧ b = .int .u64 (q : Int) ∧ c = .int .i64 (t : Int) ∧ d = .bool wh ∧ t + (hsdirs p q).length = (hsdirs o s).length ∧ (wh && (hsdirs p q).all (!·)) = (hsdirs o s).all (!·)) (fun _ b _ _ _ => (intOf b).toNat)
  case atStart => exact ⟨o, s, 0, true, h0, ho, hs, by omega, rfl, rfl, rfl, rfl, by omega, by simp⟩
  case round =>
    obtain ⟨p, q, t, wh, hp0, hp, hq, htq, rfl, rfl, rfl, rfl, hl, hw⟩ := hrel
    by_cases hlt : p < q
    · have hh := half_any w q (by omega) hq
      obtain ⟨g1, g2, g3⟩ := half_pos (show 2 ≤ q by omega)
      have h1 := hsdirs_le (o := p) (s := q) (by omega) hlt
      have h3 := hsdirs_gt (o := p) (s := q) (by omega) hlt
      have h2' : (p : Int) < (q : Int) := by omega
      generalize half q = k at hh g1 g2 g3 h1 h3
      have HH := Bx.mk hh; have HL := Bx.mk hl; have HW := Bx.mk hw; have H1 := Bx.mk h1; have H3 := Bx.mk h3
      clear hh hl h1 h3 hw hlt
      by_cases hk : p ≤ k
      · have hk' : (p : Int) ≤ (k : Int) := by omega
        have HT := Bx.mk hk; clear hk
        go_wp2_with (go_at_call 43; refine HH.out.mono ?_; rintro e w' ⟨rfl, rfl⟩)
        go_round
        case rel =>
          have e := H1.out HT.out
          have := HL.out
          have hw := HW.out
          rw [e, List.length_append, List.length_singleton] at this
          rw [e, List.all_append] at hw
          exact ⟨p, k, t + 1, wh, hp0, HT.out, by omega, by omega, rfl, rfl, by go_num, rfl, by omega, by simpa using hw⟩
        case measure => simp [intOf]; omega
      · have hk' : ¬ (p : Int) ≤ (k : Int) := by omega
        have HT := Bx.mk hk
        have d1 : IntKind.u64.wrap ((p : Int) - (k : Int)) = (p : Int) - (k : Int) := by simp [IntKind.wrap, IntKind.bits, IntKind.signed]; omega
        have d2 : IntKind.u64.wrap ((q : Int) - (k : Int)) = (q : Int) - (k : Int) := by simp [IntKind.wrap, IntKind.bits, IntKind.signed]; omega
        clear hk
        go_wp2_with (go_at_call 43; refine HH.out.mono ?_; rintro e w' ⟨rfl, rfl⟩)
        clear d1 d2
        go_round
        case rel =>
          have e := H3.out HT.out
          have := HL.out
          have ht := HT.out
          have hw := HW.out
          rw [e, List.length_append, List.length_singleton] at this
          rw [e, List.all_append] at hw
          refine ⟨p - k, q - k, t + 1, false, by omega, by omega, by omega, by omega, ?_, ?_, by go_num, rfl, by omega, by simpa using hw⟩
          · congr 1; omega
          · congr 1; omega
        case measure => simp [intOf]; omega
    · have h2' : ¬ (p : Int) < (q : Int) := by omega
      rw [hsdirs_same (by omega)] at hl hw
      have HL := Bx.mk hl; have HW := Bx.mk hw; clear hl hw hlt
      have hlen := hsdirs_len 63 o s (by omega)
      have ht : t ≤ 63 := by have := HL.out; simp at this; omega
      have hn : stepsN o s = t + if wh then 0 else 1 := by
        unfold stepsN
        have h1 := HL.out; have h2 := HW.out
        simp only [List.length_nil, List.all_nil, Bool.and_true, Nat.add_zero] at h1 h2
        rw [← h1, ← h2]
      have HN := Bx.mk hn; clear hn hlen HL HW
      cases wh
      · go_wp2_with fail
        go_ret
        exact ⟨by rw [HN.out]; rfl, rfl⟩
      · go_wp2_with fail
        go_ret
        exact ⟨by rw [HN.out]; rfl, rfl⟩
end Go.Proofs.YtmlpldkgennmkaaDoor
