/- hashes there and back, and their order by letters (plain). -/
import Derived.Test.YtecdaokgnkhgiaaDoorHrP
import Derived.Test.YtecdaokgnkhgiaaDoorHj
namespace Go.Proofs.YtecdaokgnkhgiaaDoor
set_option maxRecDepth 100000
/-- the n-th letter -/
def hx (n : Nat) : UInt8 := hexA.data.getD n 0
theorem hx_lett : ∀ n, n < 16 → lett ((hx n).toNat : Int) = ((n : Int), true) := by decide +kernel
theorem hx_mono : ∀ i, i < 16 → ∀ j, j < 16 → ((hx i).toNat < (hx j).toNat ↔ i < j) := by decide +kernel
theorem hx_of (x : UInt8) (h : (lett (x.toNat : Int)).2 = true) : ∃ n, n < 16 ∧ x = hx n ∧ (lett (x.toNat : Int)).1 = (n : Int) := by
  have key : ∀ n : Fin 256, (lett ((UInt8.ofNat n.val).toNat : Int)).2 = true → ∃ k, k < 16 ∧ UInt8.ofNat n.val = hx k ∧ (lett ((UInt8.ofNat n.val).toNat : Int)).1 = (k : Int) := by decide +kernel
  have := key ⟨x.toNat, x.toNat_lt⟩
  simp only [UInt8.ofNat_toNat] at this
  exact this h
theorem hex2_eq (x : UInt8) : hex2 x = [hx (x.toNat / 16), hx (x.toNat % 16)] := rfl
theorem hexL_cons (x : UInt8) (a : List UInt8) : hexL (x :: a) = hx (x.toNat / 16) :: hx (x.toNat % 16) :: hexL a := by
  unfold hexL; rw [List.flatMap_cons, hex2_eq]; rfl
theorem hexL_at (a : List UInt8) : ∀ i, i < a.length → (hexL a).getD (2 * i) 0 = hx ((a.getD i 0).toNat / 16) ∧ (hexL a).getD (2 * i + 1) 0 = hx ((a.getD i 0).toNat % 16) := by
  induction a with
  | nil => intro i hi; simp at hi
  | cons x a ih =>
    intro i hi
    rw [hexL_cons]
    cases i with
    | zero => exact ⟨rfl, rfl⟩
    | succ i =>
      have := ih i (by simpa using hi)
      rw [show 2 * (i + 1) = 2 * i + 1 + 1 by omega]
      exact this
theorem hexL_good (a : List UInt8) (ha : a.length = 32) (t : Nat) (ht : t ≤ 64) : GoodTo (hexL a) t := by
  intro j hj
  have hl : (hexL a).length = 64 := by rw [hexL_length, ha]
  have hb : (a.getD (j / 2) 0).toNat < 256 := UInt8.toNat_lt _
  have := hexL_at a (j / 2) (by omega)
  refine ⟨by omega, by omega, ?_⟩
  by_cases he : j % 2 = 0
  · rw [show j = 2 * (j / 2) by omega, this.1, hx_lett _ (by omega)]
  · rw [show j = 2 * (j / 2) + 1 by omega, this.2, hx_lett _ (by omega)]
theorem wor_hx (n : Nat) (h : n < 16) : wor (hx n) = (n : Int) := by unfold wor; rw [hx_lett n h]; rfl
theorem rdN_hex (a : List UInt8) (ha : a.length = 32) (t : Nat) (ht : t ≤ 32) : rdN (hexL a) (2 * t) = a.take t ++ List.replicate (32 - t) 0 := by
  induction t with
  | zero => simp [rdN]
  | succ t ih =>
    have hb : (a.getD t 0).toNat < 256 := UInt8.toNat_lt _
    have hat := hexL_at a t (by omega)
    have htl : (a.take t).length = t := by simp; omega
    have ev : (a.getD t 0) = a[t]'(by omega) := by rw [List.getD_eq_getElem?_getD, List.getElem?_eq_getElem (by omega)]; rfl
    rw [show 2 * (t + 1) = 2 * t + 1 + 1 by omega, rdN, rdN, ih (by omega), hat.1, hat.2]
    unfold stp
    rw [show (2 * t) / 2 = t by omega, show (2 * t + 1) / 2 = t by omega, wor_hx _ (by omega), wor_hx _ (by omega)]
    rw [show List.replicate (32 - t) (0 : UInt8) = 0 :: List.replicate (32 - (t + 1)) 0 by rw [show 32 - t = (32 - (t + 1)) + 1 by omega]; rfl]
    have g0 : (a.take t ++ (0 : UInt8) :: List.replicate (32 - (t + 1)) 0).getD t 0 = 0 := by
      rw [List.getD_eq_getElem?_getD, List.getElem?_append_right (by omega), htl]; simp
    rw [g0, set_at _ _ _ _ _ htl.symm]
    generalize hX : (0 : UInt8) * 16 + UInt8.ofNat (((a.getD t 0).toNat / 16 : Nat) : Int).toNat = X
    have g1 : (a.take t ++ X :: List.replicate (32 - (t + 1)) 0).getD t 0 = X := by
      rw [List.getD_eq_getElem?_getD, List.getElem?_append_right (by omega), htl]; simp
    rw [g1, set_at _ _ _ _ _ htl.symm, List.take_succ_eq_append_getElem (by omega), ← ev]
    have hv : X * 16 + UInt8.ofNat (((a.getD t 0).toNat % 16 : Nat) : Int).toNat = a.getD t 0 := by
      apply UInt8.toNat_inj.1
      rw [← hX]
      simp only [UInt8.toNat_add, UInt8.toNat_mul, UInt8.toNat_ofNat', UInt8.toNat_ofNat, Int.toNat_natCast]
      omega
    rw [hv]
    simp
theorem rdN_hex64 (a : List UInt8) (ha : a.length = 32) : rdN (hexL a) 64 = a := by
  rw [show 64 = 2 * 32 from rfl, rdN_hex a ha 32 (Nat.le_refl _), List.take_of_length_le (by omega)]; simp
theorem readAns_hex (a : List UInt8) (ha : a.length = 32) : ReadAns (hexL a) none := ⟨by rw [hexL_length, ha], hexL_good a ha 64 (Nat.le_refl _)⟩
/-- a text that is read is the letters of a hash -/
theorem hex_of_good (l : List UInt8) (h : ∀ j, j < l.length → (lett ((l.getD j 0).toNat : Int)).2 = true) (n : Nat) (hn : l.length = 2 * n) : ∃ a : List UInt8, a.length = n ∧ l = hexL a := by
  induction n generalizing l with
  | zero => exact ⟨[], rfl, List.length_eq_zero_iff.1 (by omega)⟩
  | succ n ih =>
    match l, hn with
    | x :: y :: r, hn =>
      obtain ⟨a, ha, hr⟩ := ih r (fun j hj => h (j + 2) (by simpa using hj)) (by simp at hn; omega)
      obtain ⟨p, hp, hx', _⟩ := hx_of x (h 0 (by simp))
      obtain ⟨q, hq, hy', _⟩ := hx_of y (h 1 (by simp))
      refine ⟨UInt8.ofNat (p * 16 + q) :: a, by simp [ha], ?_⟩
      have e : (UInt8.ofNat (p * 16 + q)).toNat = p * 16 + q := by rw [UInt8.toNat_ofNat']; omega
      rw [hexL_cons, e, show (p * 16 + q) / 16 = p by omega, show (p * 16 + q) % 16 = q by omega, ← hx', ← hy', ← hr]
    | [x], hn => simp at hn; omega
    | [], hn => simp at hn
theorem hex_read (l : List UInt8) (h : ReadAns l none) : hexL (rdN l 64) = l := by
  obtain ⟨a, ha, rfl⟩ := hex_of_good l (fun j hj => (h.2 j (by have := h.1; omega)).2.2) 32 h.1
  rw [rdN_hex64 a ha]
theorem readAns_le {l : List UInt8} {b : Nat} (h : ReadAns l (some b)) : b ≤ 64 ∧ b ≤ l.length := by
  constructor
  · rcases h.2 with ⟨h1, _⟩ | ⟨h1, _⟩ <;> omega
  · rcases Nat.lt_or_ge l.length b with hlt | hge
    · exact absurd (h.1 (b - 1) (by omega)).2.1 (by omega)
    · exact hge
/-! the order -/
theorem cmpH_cases (a b : List UInt8) : cmpH a b = -1 ∨ cmpH a b = 0 ∨ cmpH a b = 1 := by
  induction a generalizing b with
  | nil => exact .inr (.inl rfl)
  | cons x a ih =>
    cases b with
    | nil => exact .inr (.inl rfl)
    | cons y b =>
      unfold cmpH
      split
      · exact .inl rfl
      · split
        · exact .inr (.inr rfl)
        · exact ih b
theorem cmpH_zero {a b : List UInt8} (hl : a.length = b.length) (h : cmpH a b = 0) : a = b := by
  induction a generalizing b with
  | nil => cases b with
    | nil => rfl
    | cons y b => simp at hl
  | cons x a ih =>
    cases b with
    | nil => simp at hl
    | cons y b =>
      unfold cmpH at h
      split at h
      · cases h
      · split at h
        · cases h
        · rw [ih (by simpa using hl) h, UInt8.toNat_inj.1 (show x.toNat = y.toNat by omega)]
theorem cmpH_hex (a b : List UInt8) (hl : a.length = b.length) : cmpH (hexL a) (hexL b) = cmpH a b := by
  induction a generalizing b with
  | nil => cases b with
    | nil => rfl
    | cons y b => simp at hl
  | cons x a ih =>
    cases b with
    | nil => simp at hl
    | cons y b =>
      rw [hexL_cons, hexL_cons]
      have hx1 : x.toNat < 256 := x.toNat_lt
      have hy1 : y.toNat < 256 := y.toNat_lt
      have m1 := hx_mono (x.toNat / 16) (by omega) (y.toNat / 16) (by omega)
      have m2 := hx_mono (y.toNat / 16) (by omega) (x.toNat / 16) (by omega)
      have m3 := hx_mono (x.toNat % 16) (by omega) (y.toNat % 16) (by omega)
      have m4 := hx_mono (y.toNat % 16) (by omega) (x.toNat % 16) (by omega)
      simp only [cmpH, m1, m2, m3, m4, ih b (by simpa using hl)]
      by_cases h1 : x.toNat < y.toNat
      · rw [if_pos h1]
        by_cases h2 : x.toNat / 16 < y.toNat / 16
        · rw [if_pos h2]
        · rw [if_neg h2, if_neg (by omega), if_pos (by omega)]
      · rw [if_neg h1]
        by_cases h3 : y.toNat < x.toNat
        · rw [if_pos h3]
          by_cases h2 : y.toNat / 16 < x.toNat / 16
          · rw [if_neg (by omega), if_pos h2]
          · rw [if_neg (by omega), if_neg h2, if_neg (by omega), if_pos (by omega)]
        · rw [if_neg h3, if_neg (by omega), if_neg (by omega), if_neg (by omega), if_neg (by omega)]
theorem less_cmp (a b : List UInt8) (hl : a.length = b.length) : Op.bytesLess a b = decide (cmpH a b < 0) ∧ Op.bytesLess b a = decide (0 < cmpH a b) := by
  induction a generalizing b with
  | nil => cases b with
    | nil => exact ⟨rfl, rfl⟩
    | cons y b => simp at hl
  | cons x a ih =>
    cases b with
    | nil => simp at hl
    | cons y b =>
      obtain ⟨i1, i2⟩ := ih b (by simpa using hl)
      simp only [Op.bytesLess, i1, i2, UInt8.lt_iff_toNat_lt]
      have hc : cmpH (x :: a) (y :: b) = if x.toNat < y.toNat then -1 else if y.toNat < x.toNat then 1 else cmpH a b := rfl
      by_cases h1 : x.toNat < y.toNat
      · have hne : ¬ x = y := fun e => by rw [e] at h1; omega
        have hne' : ¬ y = x := fun e => hne e.symm
        rw [if_pos h1] at hc
        simp [hc, h1, hne', show ¬ y.toNat < x.toNat by omega]
      · rw [if_neg h1] at hc
        by_cases h3 : y.toNat < x.toNat
        · have hne : ¬ x = y := fun e => by rw [e] at h3; omega
          rw [if_pos h3] at hc
          simp [hc, h3, hne, h1]
        · have he : x = y := UInt8.toNat_inj.1 (by omega)
          rw [if_neg h3] at hc
          subst he
          simp [hc]
end Go.Proofs.YtecdaokgnkhgiaaDoor
