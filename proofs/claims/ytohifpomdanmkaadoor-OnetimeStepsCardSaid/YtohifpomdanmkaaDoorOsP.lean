/- Plain law for OnetimeSteps: of two messages unlike, each has a digit that is greater than the other's. -/
import Derived.Test.YtohifpomdanmkaaDoorOra
namespace Go.Proofs.YtohifpomdanmkaaDoor
theorem dlack_anti (a b : List UInt8) : ∀ n, (∀ i, i < n → dg a i ≤ dg b i) → dlack b n ≤ dlack a n
  | 0, _ => Nat.le_refl _
  | n + 1, h => by
    have := dlack_anti a b n fun i hi => h i (by omega)
    have := h n (by omega)
    unfold dlack
    omega
theorem dlack_same (a b : List UInt8) : ∀ n, (∀ i, i < n → dg a i ≤ dg b i) → dlack a n ≤ dlack b n → ∀ i, i < n → dg a i = dg b i
  | 0, _, _ => fun i hi => absurd hi (by omega)
  | n + 1, h, hl => by
    have h1 := dlack_anti a b n fun i hi => h i (by omega)
    have h2 := h n (by omega)
    have h3 := dg_lt b n
    unfold dlack at hl
    intro i hi
    by_cases he : i = n
    · subst he; omega
    · exact dlack_same a b n (fun i hi => h i (by omega)) (by omega) i (by omega)
theorem dall_check (a b : List UInt8) (h : ∀ i, i < 67 → dall a i ≤ dall b i) : dlack a 64 ≤ dlack b 64 := by
  have ha := dlack_le a 64
  have hb := dlack_le b 64
  have h0 := h 64 (by decide)
  have h1 := h 65 (by decide)
  have h2 := h 66 (by decide)
  simp only [dall, show ¬ (64 < 64) from by decide, show ¬ (65 < 64) from by decide, show ¬ (66 < 64) from by decide, if_false] at h0 h1 h2
  generalize dlack a 64 = x at *
  generalize dlack b 64 = y at *
  simp at h0 h1 h2
  omega
theorem dg_same (a b : List UInt8) (ha : a.length = 32) (hb : b.length = 32) (h : ∀ i, i < 64 → dg a i = dg b i) : a = b := by
  apply List.ext_getElem (by rw [ha, hb])
  intro i h1 h2
  have e0 := h (2 * i) (by omega)
  have e1 := h (2 * i + 1) (by omega)
  unfold dg at e0 e1
  rw [show 2 * i / 2 = i by omega, show 1 - 2 * i % 2 = 1 by omega] at e0
  rw [show (2 * i + 1) / 2 = i by omega, show 1 - (2 * i + 1) % 2 = 0 by omega] at e1
  rw [List.getD_eq_getElem?_getD, List.getD_eq_getElem?_getD, List.getElem?_eq_getElem h1, List.getElem?_eq_getElem h2] at e0 e1
  simp only [Option.getD_some] at e0 e1
  have b1 := a[i].toNat_lt
  have b2 := b[i].toNat_lt
  apply UInt8.toNat_inj.1
  generalize a[i].toNat = x at *
  generalize b[i].toNat = y at *
  simp at e0 e1
  omega
/-- if no digit of the one is greater, the messages are one -/
theorem dall_same (a b : List UInt8) (ha : a.length = 32) (hb : b.length = 32) (h : ∀ i, i < 67 → dall a i ≤ dall b i) : a = b := by
  have hd : ∀ i, i < 64 → dg a i ≤ dg b i := fun i hi => by
    have := h i (by omega)
    unfold dall at this
    rwa [if_pos hi, if_pos hi] at this
  exact dg_same a b ha hb (dlack_same a b 64 hd (dall_check a b h))
theorem ex_lt_succ (P : Nat → Prop) (t : Nat) : (∃ j, j < t + 1 ∧ P j) ↔ ((∃ j, j < t ∧ P j) ∨ P t) := by
  constructor
  · rintro ⟨j, h1, h2⟩
    by_cases h : j = t
    · exact .inr (h ▸ h2)
    · exact .inl ⟨j, by omega, h2⟩
  · rintro (⟨j, h1, h2⟩ | h)
    · exact ⟨j, by omega, h2⟩
    · exact ⟨t, by omega, h⟩
/-- is some digit of a below one of b at one place below t? -/
def exlt (a b : List UInt8) : Nat → Bool
  | 0 => false
  | t + 1 => exlt a b t || decide (dall a t < dall b t)
theorem exlt_succ (a b : List UInt8) (t : Nat) : exlt a b (t + 1) = (exlt a b t || decide (dall a t < dall b t)) := rfl
theorem exlt_of (a b : List UInt8) (j : Nat) (h : dall a j < dall b j) : ∀ t, j < t → exlt a b t = true
  | 0, hj => absurd hj (Nat.not_lt_zero _)
  | t + 1, hj => by
    rw [exlt_succ, Bool.or_eq_true]
    rcases Nat.lt_or_eq_of_le (Nat.le_of_lt_succ hj) with h1 | rfl
    · exact .inl (exlt_of a b j h t h1)
    · exact .inr (decide_eq_true h)
theorem dall_less (a b : List UInt8) (ha : a.length = 32) (hb : b.length = 32) (h : ¬ a = b) : ∃ j, j < 67 ∧ dall a j < dall b j := by
  apply Classical.byContradiction
  intro hn
  exact h (dall_same b a hb ha (fun i hi => Nat.le_of_not_lt fun hl => hn ⟨i, hi, hl⟩)).symm
theorem exlt_67 (a b : List UInt8) (ha : a.length = 32) (hb : b.length = 32) (h : ¬ a = b) : exlt a b 67 = true := by
  obtain ⟨j, h1, h2⟩ := dall_less a b ha hb h
  exact exlt_of a b j h2 67 h1
end Go.Proofs.YtohifpomdanmkaaDoor
