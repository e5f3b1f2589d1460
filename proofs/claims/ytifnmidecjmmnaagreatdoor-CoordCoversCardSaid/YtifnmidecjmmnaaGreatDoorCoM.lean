/- Covers in plain numbers (chapter 06): a cover is the one row of trees side by side of which no two neighbours are halves of one. -/
import Derived.Test.YtifnmidecjmmnaaGreatDoorCoN
namespace Go.Proofs.YtifnmidecjmmnaaGreatDoor
theorem ctz_spec {b : Nat} (h : b < 2 ^ 64) (h0 : b ≠ 0) : ∃ m, b = 2 ^ Lib.ctz 64 b * (2 * m + 1) ∧ Lib.ctz 64 b < 64 := by
  unfold Lib.ctz
  rw [if_neg h0]
  exact Lib.ctzFrom_spec 64 b (by omega) h
theorem dvd_ctz {b j : Nat} (h : b < 2 ^ 64) (h0 : b ≠ 0) : 2 ^ j ∣ b ↔ j ≤ Lib.ctz 64 b := by
  obtain ⟨m, hm, _⟩ := ctz_spec h h0
  generalize Lib.ctz 64 b = c at hm
  constructor
  · rintro ⟨q, hq⟩
    refine Nat.le_of_not_lt fun hlt => ?_
    have e1 : 2 ^ j = 2 ^ c * (2 * 2 ^ (j - c - 1)) := by
      rw [← Nat.pow_succ', ← Nat.pow_add]
      congr 1
      omega
    have e2 : 2 ^ c * (2 * m + 1) = 2 ^ c * (2 * (2 ^ (j - c - 1) * q)) := by
      rw [← hm, hq, e1]
      simp only [Nat.mul_assoc]
    have e3 := Nat.eq_of_mul_eq_mul_left (Nat.two_pow_pos c) e2
    omega
  · intro hle
    exact Nat.dvd_trans (Nat.pow_dvd_pow 2 hle) ⟨2 * m + 1, hm⟩
theorem lvl_spec {b e : Nat} (h : b < e) (he : e ≤ 2 ^ 63) :
    lvl b e ≤ 63 ∧ 2 ^ lvl b e ∣ b ∧ b + 2 ^ lvl b e ≤ e ∧ ∀ j, 2 ^ j ∣ b → b + 2 ^ j ≤ e → j ≤ lvl b e := by
  have hn : e - b ≠ 0 := by omega
  have hs := Nat.log2_self_le hn
  have h63 : Nat.log2 (e - b) ≤ 63 := (Nat.pow_le_pow_iff_right (a := 2) (by decide)).1 (by omega)
  unfold lvl
  split
  · next h0 =>
    subst h0
    exact ⟨h63, Nat.dvd_zero _, by omega, fun j _ hj => (Nat.le_log2 hn).2 (by omega)⟩
  · next h0 =>
    have hb : b < 2 ^ 64 := by omega
    have hp : 2 ^ min (Nat.log2 (e - b)) (Lib.ctz 64 b) ≤ 2 ^ Nat.log2 (e - b) := Nat.pow_le_pow_right (by decide) (Nat.min_le_left _ _)
    refine ⟨Nat.le_trans (Nat.min_le_left _ _) h63, (dvd_ctz hb h0).2 (Nat.min_le_right _ _), by omega, fun j h1 h2 => ?_⟩
    exact Nat.le_min.2 ⟨(Nat.le_log2 hn).2 (by omega), (dvd_ctz hb h0).1 h1⟩
theorem lvl_unique {b e k : Nat} (he : e ≤ 2 ^ 63) (h1 : 2 ^ k ∣ b) (h2 : b + 2 ^ k ≤ e) (h3 : 2 ^ (k + 1) ∣ b → ¬ b + 2 ^ (k + 1) ≤ e) : lvl b e = k := by
  have hp := Nat.two_pow_pos k
  obtain ⟨_, a2, a3, a4⟩ := lvl_spec (b := b) (e := e) (by omega) he
  refine Nat.le_antisymm (Nat.le_of_not_lt fun hlt => ?_) (a4 k h1 h2)
  have hle : 2 ^ (k + 1) ≤ 2 ^ lvl b e := Nat.pow_le_pow_right (by decide) hlt
  exact h3 (Nat.dvd_trans (Nat.pow_dvd_pow 2 hlt) a2) (by omega)
/-- trees side by side from b to e -/
def Tile : Nat → Nat → List (Nat × Nat) → Prop
  | b, e, [] => b = e
  | b, e, x :: l => x.1 ≤ 63 ∧ b = x.2 * 2 ^ x.1 ∧ Tile (b + 2 ^ x.1) e l
/-- both halves of one -/
def Sibs (x y : Nat × Nat) : Prop := x.1 = y.1 ∧ x.2 % 2 = 0 ∧ y.2 = x.2 + 1
def Norm : List (Nat × Nat) → Prop
  | [] => True
  | [_] => True
  | x :: y :: l => ¬ Sibs x y ∧ Norm (y :: l)
theorem Tile.le : ∀ {l : List (Nat × Nat)} {b e : Nat}, Tile b e l → b ≤ e
  | [], _, _, h => Nat.le_of_eq h
  | _ :: _, _, _, h => Nat.le_trans (Nat.le_add_right _ _) h.2.2.le
theorem Norm.tail {x : Nat × Nat} {l : List (Nat × Nat)} (h : Norm (x :: l)) : Norm l := by
  cases l with
  | nil => trivial
  | cons y l => exact h.2
theorem coverN_nil {b e : Nat} (h : ¬ b < e) : coverN b e = [] := by rw [coverN, if_neg h]
theorem coverN_cons {b e : Nat} (h : b < e) : coverN b e = (lvl b e, b / 2 ^ lvl b e) :: coverN (b + 2 ^ lvl b e) e := by rw [coverN, if_pos h]
theorem cover_tile (n : Nat) : ∀ {b e : Nat}, e - b ≤ n → b ≤ e → e ≤ 2 ^ 63 → Tile b e (coverN b e) := by
  induction n with
  | zero =>
    intro b e h1 h2 _
    rw [coverN_nil (by omega)]
    show b = e
    omega
  | succ n ih =>
    intro b e h1 h2 h3
    by_cases hlt : b < e
    · rw [coverN_cons hlt]
      obtain ⟨a1, a2, a3, _⟩ := lvl_spec hlt h3
      have hp := Nat.two_pow_pos (lvl b e)
      exact ⟨a1, (Nat.div_mul_cancel a2).symm, ih (b := b + 2 ^ lvl b e) (e := e) (by omega) a3 h3⟩
    · rw [coverN_nil hlt]
      show b = e
      omega
theorem not_dvd_succ {k b : Nat} (h : 2 ^ (k + 1) ∣ b) (h' : 2 ^ (k + 1) ∣ b + 2 ^ k) : False := by
  have := (Nat.dvd_add_right h).1 h'
  have h2 := Nat.le_of_dvd (Nat.two_pow_pos k) this
  rw [Nat.pow_succ] at h2
  have := Nat.two_pow_pos k
  omega
theorem even_of_dvd {k i : Nat} (h : 2 ^ (k + 1) ∣ i * 2 ^ k) : i % 2 = 0 := by
  obtain ⟨q, hq⟩ := h
  have : 2 ^ k * i = 2 ^ k * (2 * q) := by rw [Nat.mul_comm, hq, Nat.pow_succ, Nat.mul_assoc]
  have := Nat.eq_of_mul_eq_mul_left (Nat.two_pow_pos k) this
  omega
theorem tile_not_norm : ∀ (l : List (Nat × Nat)) (b e k i : Nat), Tile b e ((k, i) :: l) → 2 ^ (k + 1) ∣ b → b + 2 ^ (k + 1) ≤ e → ¬ Norm ((k, i) :: l) := by
  intro l
  induction l with
  | nil =>
    intro b e k i h h1 h2 _
    have h3 : b + 2 ^ k = e := h.2.2
    have := Nat.two_pow_pos k
    rw [Nat.pow_succ] at h2
    omega
  | cons y l ih =>
    intro b e k i h h1 h2 hn
    obtain ⟨k', i'⟩ := y
    obtain ⟨_, hb, ht⟩ := h
    have hi : i % 2 = 0 := even_of_dvd (k := k) (by simpa using hb ▸ h1)
    have hb' : b = i * 2 ^ k := hb
    have hs : b + 2 ^ k = i' * 2 ^ k' := ht.2.1
    rcases Nat.lt_trichotomy k' k with hlt | heq | hgt
    · have d1 : 2 ^ (k' + 1) ∣ 2 ^ k := Nat.pow_dvd_pow 2 hlt
      have d2 : 2 ^ (k' + 1) ∣ b := Nat.dvd_trans d1 ⟨i, by rw [hb', Nat.mul_comm]⟩
      have hle : 2 ^ (k' + 1) ≤ 2 ^ k := Nat.pow_le_pow_right (by decide) hlt
      refine ih (b + 2 ^ k) e k' i' ht (Nat.dvd_add d2 d1) ?_ hn.2
      rw [Nat.pow_succ] at h2
      omega
    · subst heq
      refine hn.1 ⟨rfl, hi, ?_⟩
      rw [hb', ← Nat.succ_mul] at hs
      exact (Nat.eq_of_mul_eq_mul_right (Nat.two_pow_pos _) hs).symm
    · exact not_dvd_succ h1 (Nat.dvd_trans (Nat.pow_dvd_pow 2 hgt) ⟨i', by rw [hs, Nat.mul_comm]⟩)
theorem norm_unique : ∀ (l : List (Nat × Nat)) {b e : Nat}, Tile b e l → Norm l → e ≤ 2 ^ 63 → l = coverN b e := by
  intro l
  induction l with
  | nil =>
    intro b e h _ _
    have h' : b = e := h
    rw [coverN_nil (by omega)]
  | cons x l ih =>
    intro b e h hn he
    obtain ⟨k, i⟩ := x
    have hle := h.2.2.le
    have hb : b = i * 2 ^ k := h.2.1
    have hp := Nat.two_pow_pos k
    have hle' : b + 2 ^ k ≤ e := hle
    have hk : lvl b e = k := lvl_unique he ⟨i, by rw [hb, Nat.mul_comm]⟩ hle' fun h1 h2 => tile_not_norm l b e k i h h1 h2 hn
    rw [coverN_cons (by omega), hk, ← ih h.2.2 hn.tail he]
    congr 2
    rw [hb, Nat.mul_div_cancel _ hp]
theorem cover_norm (n : Nat) : ∀ {b e : Nat}, e - b ≤ n → e ≤ 2 ^ 63 → Norm (coverN b e) := by
  induction n with
  | zero => intro b e h1 _; rw [coverN_nil (by omega)]; trivial
  | succ n ih =>
    intro b e h1 h3
    by_cases hlt : b < e
    · obtain ⟨a1, a2, a3, a4⟩ := lvl_spec hlt h3
      have hp := Nat.two_pow_pos (lvl b e)
      have hrest := ih (b := b + 2 ^ lvl b e) (e := e) (by omega) h3
      rw [coverN_cons hlt]
      by_cases hlt' : b + 2 ^ lvl b e < e
      · rw [coverN_cons hlt'] at hrest ⊢
        refine ⟨?_, hrest⟩
        rintro ⟨s1, s2, s3⟩
        simp only at s1 s2 s3
        obtain ⟨_, c2, c3, _⟩ := lvl_spec hlt' h3
        rw [← s1] at c3
        have hb : b = b / 2 ^ lvl b e * 2 ^ lvl b e := (Nat.div_mul_cancel a2).symm
        have d : 2 ^ (lvl b e + 1) ∣ b := by
          refine ⟨b / 2 ^ lvl b e / 2, ?_⟩
          have : b / 2 ^ lvl b e = 2 * (b / 2 ^ lvl b e / 2) := by omega
          conv => lhs; rw [hb, this]
          rw [Nat.pow_succ, Nat.mul_comm 2, Nat.mul_assoc, Nat.mul_comm, Nat.mul_comm 2]
        have := a4 (lvl b e + 1) d (by rw [Nat.pow_succ]; omega)
        omega
      · rw [coverN_nil hlt']
        trivial
    · rw [coverN_nil hlt]; trivial
end Go.Proofs.YtifnmidecjmmnaaGreatDoor
