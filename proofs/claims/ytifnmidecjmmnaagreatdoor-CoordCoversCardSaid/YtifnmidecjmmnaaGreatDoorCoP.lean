/- What the laws of chapter 06 ask of the plain numbers. -/
import Derived.Test.YtifnmidecjmmnaaGreatDoorCoM
namespace Go.Proofs.YtifnmidecjmmnaaGreatDoor
/-- where the i-th tree of a cover begins -/
def nthB (b e : Nat) : Nat → Nat
  | 0 => b
  | i + 1 => nthB b e i + 2 ^ lvl (nthB b e i) e
theorem nthB_shift (b e : Nat) : ∀ i, nthB (b + 2 ^ lvl b e) e i = nthB b e (i + 1)
  | 0 => rfl
  | i + 1 => by rw [nthB, nthB_shift b e i]; rfl
theorem cover_get (n : Nat) : ∀ {b e : Nat} (i : Nat), e - b ≤ n → i < (coverN b e).length →
    nthB b e i < e ∧ (coverN b e)[i]? = some (lvl (nthB b e i) e, nthB b e i / 2 ^ lvl (nthB b e i) e) := by
  induction n with
  | zero => intro b e i h1 h2; rw [coverN_nil (by omega)] at h2; cases h2
  | succ n ih =>
    intro b e i h1 h2
    by_cases hlt : b < e
    · rw [coverN_cons hlt] at h2 ⊢
      cases i with
      | zero => exact ⟨hlt, rfl⟩
      | succ i =>
        have hp := Nat.two_pow_pos (lvl b e)
        have := ih (b := b + 2 ^ lvl b e) (e := e) i (by omega) (by simpa using h2)
        rw [nthB_shift] at this
        simpa using this
    · rw [coverN_nil hlt] at h2; cases h2
theorem cover_len (n : Nat) : ∀ {b e : Nat}, e - b ≤ n → b ≤ e → e ≤ 2 ^ 63 → nthB b e (coverN b e).length = e := by
  induction n with
  | zero => intro b e h1 h2 _; rw [coverN_nil (by omega)]; show b = e; omega
  | succ n ih =>
    intro b e h1 h2 h3
    by_cases hlt : b < e
    · rw [coverN_cons hlt, List.length_cons, ← nthB_shift]
      have hp := Nat.two_pow_pos (lvl b e)
      exact ih (by omega) (lvl_spec hlt h3).2.2.1 h3
    · rw [coverN_nil hlt]; show b = e; omega
/-- no room for a tree of the next level -/
def Lim (b e : Nat) : Prop := e < b + 2 ^ (lvl b e + 1)
theorem lim_next {b e : Nat} (hlt : b < e) (he : e ≤ 2 ^ 63) (h : Lim b e) (hn : b + 2 ^ lvl b e < e) :
    lvl (b + 2 ^ lvl b e) e < lvl b e ∧ Lim (b + 2 ^ lvl b e) e := by
  obtain ⟨_, a2, a3, a4⟩ := lvl_spec hlt he
  obtain ⟨_, c2, c3, c4⟩ := lvl_spec hn he
  unfold Lim at h
  rw [Nat.pow_succ] at h
  have hk : lvl (b + 2 ^ lvl b e) e < lvl b e := (Nat.pow_lt_pow_iff_right (a := 2) (by decide)).1 (by omega)
  refine ⟨hk, ?_⟩
  unfold Lim
  refine Nat.lt_of_not_le fun hle => ?_
  have d1 : 2 ^ (lvl (b + 2 ^ lvl b e) e + 1) ∣ 2 ^ lvl b e := Nat.pow_dvd_pow 2 hk
  have := c4 _ (Nat.dvd_add (Nat.dvd_trans d1 a2) d1) hle
  omega
theorem lim_falls {b e : Nat} (hlt : b < e) (he : e ≤ 2 ^ 63) (hn : b + 2 ^ lvl b e < e) (hl : lvl (b + 2 ^ lvl b e) e ≤ lvl b e) : Lim (b + 2 ^ lvl b e) e := by
  by_cases h : Lim b e
  · exact (lim_next hlt he h hn).2
  · obtain ⟨_, a2, a3, a4⟩ := lvl_spec hlt he
    obtain ⟨_, c2, c3, c4⟩ := lvl_spec hn he
    unfold Lim at h
    unfold Lim
    refine Nat.lt_of_not_le fun hle => ?_
    have hd : ¬ 2 ^ (lvl b e + 1) ∣ b := fun hd => by have := a4 _ hd (Nat.le_of_not_lt h); omega
    have d : 2 ^ (lvl (b + 2 ^ lvl b e) e + 1) ∣ b + 2 ^ lvl b e := by
      rcases Nat.lt_or_eq_of_le hl with h1 | h1
      · have d1 : 2 ^ (lvl (b + 2 ^ lvl b e) e + 1) ∣ 2 ^ lvl b e := Nat.pow_dvd_pow 2 h1
        exact Nat.dvd_add (Nat.dvd_trans d1 a2) d1
      · rw [h1]
        obtain ⟨q, hq⟩ := a2
        have hodd : q % 2 = 1 := by
          refine Classical.byContradiction fun h2 => hd ⟨q / 2, ?_⟩
          have : q = 2 * (q / 2) := by omega
          rw [Nat.pow_succ, Nat.mul_assoc, ← this]
          exact hq
        refine ⟨(q + 1) / 2, ?_⟩
        have : q + 1 = 2 * ((q + 1) / 2) := by omega
        rw [Nat.pow_succ, Nat.mul_assoc, ← this, Nat.mul_succ, ← hq]
    have := c4 _ d hle
    omega

theorem cmpN_zero {La Ia Lb Ib : Nat} : cmpN La Ia Lb Ib = 0 ↔ La = Lb ∧ Ia = Ib := by
  constructor
  · intro h
    unfold cmpN at h
    have hL : La = Lb ∧ Ia * 2 ^ La = Ib * 2 ^ Lb := by
      generalize Ia * 2 ^ La = x at *
      generalize Ib * 2 ^ Lb = y at *
      repeat' split at h
      all_goals omega
    obtain ⟨rfl, h2⟩ := hL
    exact ⟨rfl, Nat.eq_of_mul_eq_mul_right (Nat.two_pow_pos _) h2⟩
  · rintro ⟨rfl, rfl⟩; exact cmpN_self _ _
theorem cmpN_three (La Ia Lb Ib : Nat) : cmpN La Ia Lb Ib = -1 ∨ cmpN La Ia Lb Ib = 0 ∨ cmpN La Ia Lb Ib = 1 := by
  unfold cmpN
  repeat' split
  all_goals simp
theorem cmpN_trans (La Ia Lb Ib Lc Ic : Nat) (h1 : cmpN La Ia Lb Ib ≤ 0) (h2 : cmpN Lb Ib Lc Ic ≤ 0) : cmpN La Ia Lc Ic ≤ 0 := by
  unfold cmpN at *
  generalize Ia * 2 ^ La = x at *
  generalize Ib * 2 ^ Lb = y at *
  generalize Ic * 2 ^ Lc = z at *
  repeat' split at h1
  all_goals (repeat' split at h2)
  all_goals (repeat' split)
  all_goals omega
theorem cmpN_trans' (La Ia Lb Ib Lc Ic : Nat) (h1 : 0 ≤ cmpN La Ia Lb Ib) (h2 : 0 ≤ cmpN Lb Ib Lc Ic) : 0 ≤ cmpN La Ia Lc Ic := by
  have a := cmpN_swap La Ia Lb Ib
  have b := cmpN_swap Lb Ib Lc Ic
  have c := cmpN_swap La Ia Lc Ic
  have := cmpN_trans Lc Ic Lb Ib La Ia (by omega) (by omega)
  omega
theorem cmpN_lt {La Ia Lb Ib : Nat} (h : Ia * 2 ^ La < Ib * 2 ^ Lb) : cmpN La Ia Lb Ib = -1 := by unfold cmpN; rw [if_pos h]
theorem cmpN_gt {La Ia Lb Ib : Nat} (h : Ib * 2 ^ Lb < Ia * 2 ^ La) : cmpN La Ia Lb Ib = 1 := by unfold cmpN; rw [if_neg (by omega), if_pos h]
theorem cmpN_eq {La Ia Lb Ib : Nat} (h : Ia * 2 ^ La = Ib * 2 ^ Lb) : cmpN La Ia Lb Ib = if Lb < La then -1 else if La < Lb then 1 else 0 := by
  unfold cmpN; rw [if_neg (by omega), if_neg (by omega)]
theorem pow_pred {L : Nat} (h : L ≠ 0) : 2 ^ L = 2 * 2 ^ (L - 1) := by
  rw [← Nat.pow_succ']; congr 1; omega
theorem cmpN_half (L I : Nat) (h : L ≠ 0) : cmpN L I (L - 1) (2 * I) = -1 := by
  rw [cmpN_eq (by rw [pow_pred h, ← Nat.mul_assoc, Nat.mul_comm I 2])]
  rw [if_pos (by omega)]
theorem cmpN_halves (L I : Nat) : cmpN L (2 * I) L (2 * I + 1) = -1 :=
  cmpN_lt (Nat.mul_lt_mul_of_pos_right (by omega) (Nat.two_pow_pos _))

theorem dnK_iff {L I : Nat} : dnK L I = true ↔ mayB L I = true ∧ L ≠ 0 := by simp [dnK]
theorem upK_iff {L I : Nat} : upK L I = true ↔ mayB L I = true ∧ L ≠ 63 := by simp [upK]
theorem up_may {L I : Nat} (h : mayB L I = true) (h63 : L ≠ 63) : mayB (L + 1) (I / 2) = true := by
  obtain ⟨h1, h2⟩ := (mayB_iff L I).1 h
  rw [mayB_iff]
  refine ⟨by omega, ?_⟩
  rw [show 63 - L = (63 - (L + 1)) + 1 by omega, Nat.pow_succ] at h2
  omega
theorem dn_may {L I : Nat} (h : mayB L I = true) (h0 : L ≠ 0) : mayB (L - 1) (2 * I) = true ∧ mayB (L - 1) (2 * I + 1) = true := by
  obtain ⟨h1, h2⟩ := (mayB_iff L I).1 h
  rw [mayB_iff, mayB_iff]
  rw [show 63 - (L - 1) = (63 - L) + 1 by omega, Nat.pow_succ]
  omega
theorem sib_may {L I : Nat} (h : mayB L I = true) (h63 : L ≠ 63) : mayB L (if I % 2 = 0 then I + 1 else I - 1) = true := by
  obtain ⟨h1, h2⟩ := (mayB_iff L I).1 h
  rw [mayB_iff]
  refine ⟨h1, ?_⟩
  rw [show 63 - L = (63 - (L + 1)) + 1 by omega, Nat.pow_succ] at h2 ⊢
  split <;> omega
theorem of_span {B E : Nat} (h : ofK B E = true) : mayB (ofL B E) (ofI B E) = true ∧ spB (ofL B E) (ofI B E) = B ∧ spE (ofL B E) (ofI B E) = E := by
  have h' := h
  unfold ofK at h'
  obtain ⟨h1, h2, h3, h4⟩ := of_decide_eq_true h'
  have hl : ofL B E = Nat.log2 (E - B) := by unfold ofL; rw [if_pos h]
  have hi : ofI B E = B / (E - B) := by unfold ofI; rw [if_pos h]
  have hB : B / (E - B) * (E - B) = B := Nat.div_mul_cancel (Nat.dvd_of_mod_eq_zero h4)
  have hL : Nat.log2 (E - B) ≤ 63 := (Nat.pow_le_pow_iff_right (a := 2) (by decide)).1 (by omega)
  have hm : mayB (ofL B E) (ofI B E) = true := by
    rw [hl, hi]
    refine may_of_end hL ?_
    rw [h3, Nat.succ_mul, hB]
    omega
  refine ⟨hm, ?_, ?_⟩
  · unfold spB; rw [if_pos hm, hl, hi, h3, hB]
  · unfold spE; rw [if_pos hm, hl, hi, h3, Nat.succ_mul, hB]; omega
theorem log2_pow (k : Nat) : Nat.log2 (2 ^ k) = k := by
  have h0 : 2 ^ k ≠ 0 := Nat.pos_iff_ne_zero.1 (Nat.two_pow_pos k)
  have a := (Nat.le_log2 h0 (k := k)).2 (Nat.le_refl _)
  have b := (Nat.log2_lt h0 (k := k + 1)).2 (Nat.pow_lt_pow_right (by decide) (by omega))
  omega
theorem of_tree {L I : Nat} (h : mayB L I = true) : ofK (I * 2 ^ L) ((I + 1) * 2 ^ L) = true ∧ ofL (I * 2 ^ L) ((I + 1) * 2 ^ L) = L ∧ ofI (I * 2 ^ L) ((I + 1) * 2 ^ L) = I := by
  have he := may_end h
  have hp := Nat.two_pow_pos L
  have hd : (I + 1) * 2 ^ L - I * 2 ^ L = 2 ^ L := by rw [Nat.succ_mul]; omega
  have hk : ofK (I * 2 ^ L) ((I + 1) * 2 ^ L) = true := by
    unfold ofK
    refine decide_eq_true ⟨?_, he, ?_, ?_⟩
    · rw [Nat.succ_mul]; omega
    · rw [hd, log2_pow]
    · rw [hd]; exact Nat.mul_mod_left _ _
  refine ⟨hk, ?_, ?_⟩
  · unfold ofL; rw [if_pos hk, hd, log2_pow]
  · unfold ofI; rw [if_pos hk, hd, Nat.mul_div_cancel _ hp]
end Go.Proofs.YtifnmidecjmmnaaGreatDoor
