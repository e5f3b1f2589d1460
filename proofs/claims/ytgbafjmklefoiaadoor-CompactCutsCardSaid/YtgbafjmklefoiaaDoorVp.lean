/- plain laws of proofs: the way up from a leaf by a number's bits is the way down by halves. -/
import Derived.WalkKit
namespace Go.Proofs.YtgbafjmklefoiaaDoor
def upN (n l : Nat) : Nat × Nat := if _h : n % 2 = 0 ∧ n ≠ 0 then upN (n / 2) (l / 2) else (n, l)
termination_by n
decreasing_by omega
theorem upN_odd {n l : Nat} (h : n % 2 = 1) : upN n l = (n, l) := by rw [upN, dif_neg (by omega)]
theorem upN_zero (l : Nat) : upN 0 l = (0, l) := by rw [upN, dif_neg (by omega)]
theorem upN_even {n l : Nat} (h : n % 2 = 0) (h0 : n ≠ 0) : upN n l = upN (n / 2) (l / 2) := by rw [upN, dif_pos ⟨h, h0⟩]
theorem upN_le (n : Nat) : ∀ l, (upN n l).1 ≤ n ∧ (upN n l).2 ≤ l := by
  induction n using Nat.strongRecOn with
  | _ n ih =>
    intro l
    by_cases h : n % 2 = 0 ∧ n ≠ 0
    · rw [upN_even h.1 h.2]
      have := ih (n / 2) (by omega) (l / 2)
      omega
    · rw [upN, dif_neg h]
      exact ⟨Nat.le_refl _, Nat.le_refl _⟩
/-- which hashes of a path stand on the left, from below: by the number's bits -/
def dirs (i L : Nat) : List Bool :=
  if _h : L = 0 then [] else if i % 2 = 1 ∨ i = L then true :: dirs ((upN i L).1 / 2) ((upN i L).2 / 2) else false :: dirs (i / 2) (L / 2)
termination_by L
decreasing_by
  · have := (upN_le i L).2; omega
  · omega
theorem dirs_zero (i : Nat) : dirs i 0 = [] := by rw [dirs, dif_pos rfl]
theorem dirs_true {i L : Nat} (h0 : L ≠ 0) (h : i % 2 = 1 ∨ i = L) : dirs i L = true :: dirs ((upN i L).1 / 2) ((upN i L).2 / 2) := by rw [dirs, dif_neg h0, if_pos h]
theorem dirs_false {i L : Nat} (h0 : L ≠ 0) (h : ¬ (i % 2 = 1 ∨ i = L)) : dirs i L = false :: dirs (i / 2) (L / 2) := by rw [dirs, dif_neg h0, if_neg h]
theorem dirs_odd {i L : Nat} (h0 : L ≠ 0) (h : i % 2 = 1) : dirs i L = true :: dirs (i / 2) (L / 2) := by rw [dirs_true h0 (.inl h), upN_odd h]
theorem dirs_left (m : Nat) : ∀ i L, i < 2 ^ m → 2 ^ m ≤ L → L < 2 ^ (m + 1) → dirs i L = dirs i (2 ^ m - 1) ++ [false] := by
  induction m with
  | zero =>
    intro i L hi h1 h2
    obtain rfl : i = 0 := by simpa using hi
    obtain rfl : L = 1 := by simp at h1 h2; omega
    rw [dirs_false (by omega) (by omega)]
    show false :: dirs 0 0 = dirs 0 0 ++ [false]
    rw [dirs_zero]; rfl
  | succ m ih =>
    intro i L hi h1 h2
    have e1 : 2 ^ (m + 1) = 2 * 2 ^ m := by rw [Nat.pow_succ]; omega
    have e2 : 2 ^ (m + 1 + 1) = 2 * (2 * 2 ^ m) := by rw [Nat.pow_succ, e1]; omega
    have hp : 0 < 2 ^ m := Nat.pow_pos (by omega)
    have hh : (2 ^ (m + 1) - 1) / 2 = 2 ^ m - 1 := by omega
    have hr := ih (i / 2) (L / 2) (by omega) (by omega) (by omega)
    by_cases ho : i % 2 = 1
    · rw [dirs_odd (by omega) ho, dirs_odd (by omega) ho, hh, hr]; rfl
    · rw [dirs_false (i := i) (L := L) (by omega) (by omega), dirs_false (i := i) (L := 2 ^ (m + 1) - 1) (by omega) (by omega), hh, hr]; rfl
theorem upN_pow (m : Nat) : upN (2 ^ m) (2 ^ m) = (1, 1) := by
  induction m with
  | zero => rw [upN_odd (by simp)]
  | succ m ih =>
    have e1 : 2 ^ (m + 1) = 2 * 2 ^ m := by rw [Nat.pow_succ]; omega
    have hp : 0 < 2 ^ m := Nat.pow_pos (by omega)
    rw [upN_even (by omega) (by omega), show 2 ^ (m + 1) / 2 = 2 ^ m by omega, ih]
theorem upN_add (i : Nat) : ∀ m, 0 < i → i < 2 ^ m → ∃ j, j < m ∧ i / 2 ^ j % 2 = 1 ∧ i / 2 ^ j < 2 ^ (m - j) ∧ (∀ l, upN i l = (i / 2 ^ j, l / 2 ^ j)) ∧ ∀ l, upN (i + 2 ^ m) (l + 2 ^ m) = (i / 2 ^ j + 2 ^ (m - j), l / 2 ^ j + 2 ^ (m - j)) := by
  induction i using Nat.strongRecOn with
  | _ i ih =>
    intro m h0 hm
    cases m with
    | zero => simp at hm; omega
    | succ m =>
      have e1 : 2 ^ (m + 1) = 2 * 2 ^ m := by rw [Nat.pow_succ]; omega
      by_cases ho : i % 2 = 1
      · refine ⟨0, by omega, by simpa using ho, by simpa using hm, fun l => by rw [upN_odd ho]; simp, fun l => by rw [upN_odd (by omega)]; simp⟩
      · obtain ⟨j, hj, a, b, c, d⟩ := ih (i / 2) (by omega) m (by omega) (by omega)
        have q : ∀ x : Nat, x / 2 / 2 ^ j = x / 2 ^ (j + 1) := fun x => by rw [Nat.div_div_eq_div_mul, Nat.pow_succ, Nat.mul_comm]
        rw [q] at a b
        have em : m + 1 - (j + 1) = m - j := by omega
        refine ⟨j + 1, by omega, a, by rw [em]; exact b, fun l => ?_, fun l => ?_⟩
        · rw [upN_even (by omega) (by omega), c, q, q]
        · rw [upN_even (by omega) (by omega), show (i + 2 ^ (m + 1)) / 2 = i / 2 + 2 ^ m by omega, show (l + 2 ^ (m + 1)) / 2 = l / 2 + 2 ^ m by omega, d, q, q, em]
theorem dirs_right (L : Nat) : ∀ i m, i ≤ L → L < 2 ^ m → dirs (i + 2 ^ m) (L + 2 ^ m) = dirs i L ++ [true] := by
  induction L using Nat.strongRecOn with
  | _ L ih =>
    intro i m hi hm
    have hp : 0 < 2 ^ m := Nat.pow_pos (by omega)
    by_cases h0 : L = 0
    · subst h0
      obtain rfl : i = 0 := by omega
      rw [dirs_true (by omega) (by omega), Nat.zero_add, upN_pow]
      show true :: dirs 0 0 = dirs 0 0 ++ [true]
      rw [dirs_zero]; rfl
    · cases m with
      | zero => simp at hm; omega
      | succ m =>
        have e1 : 2 ^ (m + 1) = 2 * 2 ^ m := by rw [Nat.pow_succ]; omega
        have s1 : ∀ x, (x + 2 ^ (m + 1)) / 2 = x / 2 + 2 ^ m := fun x => by omega
        by_cases ho : i % 2 = 1
        · rw [dirs_odd (by omega) (by omega), dirs_odd h0 ho, s1, s1, ih (L / 2) (by omega) (i / 2) m (by omega) (by omega)]; rfl
        · by_cases he : i = L
          · subst he
            obtain ⟨j, hj, a, b, c, d⟩ := upN_add i (m + 1) (by omega) hm
            rw [dirs_true (by omega) (by omega), dirs_true h0 (.inr rfl), c, d]
            simp only []
            obtain ⟨t, ht⟩ : ∃ t, m + 1 - j = t + 1 := ⟨m - j, by omega⟩
            rw [ht] at b ⊢
            have e3 : 2 ^ (t + 1) = 2 * 2 ^ t := by rw [Nat.pow_succ]; omega
            have hle : i / 2 ^ j ≤ i := Nat.div_le_self _ _
            rw [show (i / 2 ^ j + 2 ^ (t + 1)) / 2 = i / 2 ^ j / 2 + 2 ^ t by omega, ih (i / 2 ^ j / 2) (by omega) _ t (Nat.le_refl _) (by omega)]
            rfl
          · rw [dirs_false (by omega) (by omega), dirs_false h0 (by omega), s1, s1, ih (L / 2) (by omega) (i / 2) m (by omega) (by omega)]; rfl
/-- the way of halves: h is the greatest power of two below s -/
structure HalfOf (s m : Nat) : Prop where
  lt : 2 ^ m < s
  le : s ≤ 2 ^ (m + 1)
theorem HalfOf.ex (s : Nat) : 2 ≤ s → ∃ m, HalfOf s m := by
  induction s using Nat.strongRecOn with
  | _ s ih =>
    intro h
    by_cases h2 : s = 2
    · subst h2; exact ⟨0, by decide, by decide⟩
    · obtain ⟨m, h3, h4⟩ := ih ((s + 1) / 2) (by omega) (by omega)
      have e1 : 2 ^ (m + 1) = 2 * 2 ^ m := by rw [Nat.pow_succ]; omega
      have e2 : 2 ^ (m + 1 + 1) = 2 * 2 ^ (m + 1) := by rw [Nat.pow_succ]; omega
      exact ⟨m + 1, by omega, by omega⟩
theorem HalfOf.uniq {s m k : Nat} (h : HalfOf s m) (h' : HalfOf s k) : m = k := by
  rcases Nat.lt_trichotomy m k with hlt | rfl | hlt
  · have := Nat.pow_le_pow_right (n := 2) (by omega) (show m + 1 ≤ k from hlt)
    have := h.le; have := h'.lt; omega
  · rfl
  · have := Nat.pow_le_pow_right (n := 2) (by omega) (show k + 1 ≤ m from hlt)
    have := h'.le; have := h.lt; omega
/-- the greatest power of two below s -/
noncomputable def half (s : Nat) : Nat := if h : 2 ≤ s then 2 ^ (HalfOf.ex s h).choose else 0
theorem half_of {s m : Nat} (h : HalfOf s m) : half s = 2 ^ m := by
  have h2 : 2 ≤ s := by have := h.lt; have := Nat.pow_pos (n := m) (show 0 < 2 by omega); omega
  rw [half, dif_pos h2, HalfOf.uniq (HalfOf.ex s h2).choose_spec h]
theorem half_pos {s : Nat} (h : 2 ≤ s) : 0 < half s ∧ half s < s ∧ s ≤ 2 * half s := by
  obtain ⟨m, hm⟩ := HalfOf.ex s h
  rw [half_of hm]
  have e1 : 2 ^ (m + 1) = 2 * 2 ^ m := by rw [Nat.pow_succ]; omega
  have := hm.lt; have := hm.le
  exact ⟨Nat.pow_pos (by omega), by omega, by omega⟩
/-- which hashes stand on the left, from below: by halves -/
noncomputable def hdirs (i s : Nat) : List Bool :=
  if _h : s < 2 then [] else if i < half s then hdirs i (half s) ++ [false] else hdirs (i - half s) (s - half s) ++ [true]
termination_by s
decreasing_by
  · have := half_pos (s := s) (by omega); omega
  · have := half_pos (s := s) (by omega); omega
theorem hdirs_small {i s : Nat} (h : s < 2) : hdirs i s = [] := by rw [hdirs, dif_pos h]
theorem hdirs_lt {i s : Nat} (h : 2 ≤ s) (h' : i < half s) : hdirs i s = hdirs i (half s) ++ [false] := by rw [hdirs, dif_neg (by omega), if_pos h']
theorem hdirs_ge {i s : Nat} (h : 2 ≤ s) (h' : ¬ i < half s) : hdirs i s = hdirs (i - half s) (s - half s) ++ [true] := by rw [hdirs, dif_neg (by omega), if_neg h']
theorem dirs_hdirs (s : Nat) : ∀ i, i < s → dirs i (s - 1) = hdirs i s := by
  induction s using Nat.strongRecOn with
  | _ s ih =>
    intro i hi
    by_cases h2 : s < 2
    · rw [hdirs_small h2, show s - 1 = 0 by omega, dirs_zero]
    · obtain ⟨m, hm⟩ := HalfOf.ex s (by omega)
      have hh := half_of hm
      have hp := half_pos (s := s) (by omega)
      have h1 := hm.lt; have h3 := hm.le
      have e1 : 2 ^ (m + 1) = 2 * 2 ^ m := by rw [Nat.pow_succ]; omega
      by_cases hl : i < half s
      · rw [hdirs_lt (by omega) hl, ← ih (half s) (by omega) i hl, hh, dirs_left m i (s - 1) (by omega) (by omega) (by omega)]
      · rw [hdirs_ge (by omega) hl, ← ih (s - half s) (by omega) (i - half s) (by omega), hh]
        have := dirs_right (s - 2 ^ m - 1) (i - 2 ^ m) m (by omega) (by omega)
        rw [show i - 2 ^ m + 2 ^ m = i by omega, show s - 2 ^ m - 1 + 2 ^ m = s - 1 by omega] at this
        exact this
/-! ### two sizes -/
/-- the odd bits below are struck off -/
def strip (n l : Nat) : Nat × Nat := if _h : n % 2 = 1 then strip (n / 2) (l / 2) else (n, l)
termination_by n
decreasing_by omega
theorem strip_even {n l : Nat} (h : n % 2 = 0) : strip n l = (n, l) := by rw [strip, dif_neg (by omega)]
theorem strip_odd {n l : Nat} (h : n % 2 = 1) : strip n l = strip (n / 2) (l / 2) := by rw [strip, dif_pos h]
/-- the way of two sizes, by the numbers' bits -/
def sdirs (n L : Nat) : List Bool := dirs (strip n L).1 (strip n L).2
theorem sdirs_even {n L : Nat} (h : n % 2 = 0) : sdirs n L = dirs n L := by unfold sdirs; rw [strip_even h]
theorem sdirs_odd {n L : Nat} (h : n % 2 = 1) : sdirs n L = sdirs (n / 2) (L / 2) := by unfold sdirs; rw [strip_odd h]
theorem sdirs_full (m : Nat) : ∀ L, 2 ^ m ≤ L → L < 2 ^ (m + 1) → sdirs (2 ^ m - 1) L = [false] := by
  induction m with
  | zero =>
    intro L h1 h2
    obtain rfl : L = 1 := by simp at h1 h2; omega
    rw [sdirs_even (by decide), dirs_false (by omega) (by decide), dirs_zero]
  | succ m ih =>
    intro L h1 h2
    have e1 : 2 ^ (m + 1) = 2 * 2 ^ m := by rw [Nat.pow_succ]; omega
    have e2 : 2 ^ (m + 1 + 1) = 2 * (2 * 2 ^ m) := by rw [Nat.pow_succ, e1]; omega
    have hp : 0 < 2 ^ m := Nat.pow_pos (by omega)
    rw [sdirs_odd (by omega), show (2 ^ (m + 1) - 1) / 2 = 2 ^ m - 1 by omega, ih _ (by omega) (by omega)]
theorem sdirs_left (m : Nat) : ∀ n L, n < 2 ^ m - 1 → 2 ^ m ≤ L → L < 2 ^ (m + 1) → sdirs n L = sdirs n (2 ^ m - 1) ++ [false] := by
  induction m with
  | zero => intro n L h; simp at h
  | succ m ih =>
    intro n L hn h1 h2
    have e1 : 2 ^ (m + 1) = 2 * 2 ^ m := by rw [Nat.pow_succ]; omega
    have e2 : 2 ^ (m + 1 + 1) = 2 * (2 * 2 ^ m) := by rw [Nat.pow_succ, e1]; omega
    by_cases ho : n % 2 = 1
    · rw [sdirs_odd ho, sdirs_odd ho, show (2 ^ (m + 1) - 1) / 2 = 2 ^ m - 1 by omega, ih _ _ (by omega) (by omega) (by omega)]
    · rw [sdirs_even (by omega), sdirs_even (by omega), dirs_left (m + 1) n L (by omega) h1 h2]
theorem sdirs_right (m : Nat) : ∀ n L, n < L → L < 2 ^ m → sdirs (n + 2 ^ m) (L + 2 ^ m) = sdirs n L ++ [true] := by
  induction m with
  | zero => intro n L h h'; simp at h'; omega
  | succ m ih =>
    intro n L hn hL
    have e1 : 2 ^ (m + 1) = 2 * 2 ^ m := by rw [Nat.pow_succ]; omega
    have hp : 0 < 2 ^ m := Nat.pow_pos (by omega)
    by_cases ho : n % 2 = 1
    · rw [sdirs_odd (by omega), sdirs_odd ho, show (n + 2 ^ (m + 1)) / 2 = n / 2 + 2 ^ m by omega, show (L + 2 ^ (m + 1)) / 2 = L / 2 + 2 ^ m by omega]
      exact ih _ _ (by omega) (by omega)
    · rw [sdirs_even (by omega), sdirs_even (by omega)]
      exact dirs_right L n (m + 1) (by omega) hL
/-- the way of two sizes, by halves -/
noncomputable def hsdirs (o s : Nat) : List Bool :=
  if _h : s ≤ o ∨ s < 2 then [] else if o ≤ half s then hsdirs o (half s) ++ [false] else hsdirs (o - half s) (s - half s) ++ [true]
termination_by s
decreasing_by
  · have := half_pos (s := s) (by omega); omega
  · have := half_pos (s := s) (by omega); omega
theorem hsdirs_same {o s : Nat} (h : s ≤ o) : hsdirs o s = [] := by rw [hsdirs, dif_pos (.inl h)]
theorem hsdirs_le {o s : Nat} (h : 2 ≤ s) (ho : o < s) (h' : o ≤ half s) : hsdirs o s = hsdirs o (half s) ++ [false] := by rw [hsdirs, dif_neg (by omega), if_pos h']
theorem hsdirs_gt {o s : Nat} (h : 2 ≤ s) (ho : o < s) (h' : ¬ o ≤ half s) : hsdirs o s = hsdirs (o - half s) (s - half s) ++ [true] := by rw [hsdirs, dif_neg (by omega), if_neg h']
theorem sdirs_hsdirs (s : Nat) : ∀ o, 0 < o → o < s → sdirs (o - 1) (s - 1) = hsdirs o s := by
  induction s using Nat.strongRecOn with
  | _ s ih =>
    intro o h0 ho
    obtain ⟨m, hm⟩ := HalfOf.ex s (by omega)
    have hh := half_of hm
    have hp := half_pos (s := s) (by omega)
    have h1 := hm.lt; have h3 := hm.le
    have e1 : 2 ^ (m + 1) = 2 * 2 ^ m := by rw [Nat.pow_succ]; omega
    by_cases hl : o ≤ half s
    · rw [hsdirs_le (by omega) ho hl]
      by_cases he : o = half s
      · rw [hsdirs_same (by omega), he, hh, sdirs_full m _ (by omega) (by omega)]; rfl
      · rw [← ih (half s) (by omega) o h0 (by omega), hh, sdirs_left m _ _ (by omega) (by omega) (by omega)]
    · rw [hsdirs_gt (by omega) ho hl, ← ih (s - half s) (by omega) (o - half s) (by omega) (by omega), hh]
      have := sdirs_right m (o - 2 ^ m - 1) (s - 2 ^ m - 1) (by omega) (by omega)
      rw [show o - 2 ^ m - 1 + 2 ^ m = o - 1 by omega, show s - 2 ^ m - 1 + 2 ^ m = s - 1 by omega] at this
      exact this
/-- all hashes stand on the right just where the old size is a power of two -/
theorem hsdirs_whole (s : Nat) : ∀ o, 0 < o → o < s → ((hsdirs o s).all (!·) = true ↔ o &&& (o - 1) = 0) := by
  induction s using Nat.strongRecOn with
  | _ s ih =>
    intro o h0 ho
    obtain ⟨m, hm⟩ := HalfOf.ex s (by omega)
    have hh := half_of hm
    have hp := half_pos (s := s) (by omega)
    have h1 := hm.lt; have h3 := hm.le
    have e1 : 2 ^ (m + 1) = 2 * 2 ^ m := by rw [Nat.pow_succ]; omega
    by_cases hl : o ≤ half s
    · rw [hsdirs_le (by omega) ho hl, List.all_append]
      by_cases he : o = half s
      · rw [hsdirs_same (by omega), he, hh]
        simp only [List.all_nil, List.all_cons, Bool.not_false, true_iff, Bool.and_self]
        apply Nat.eq_of_testBit_eq
        intro i
        rw [Nat.testBit_and, Nat.testBit_two_pow, Nat.zero_testBit, Nat.testBit_two_pow_sub_one]
        by_cases hi : m = i <;> simp [hi]
      · rw [← ih (half s) (by omega) o h0 (by omega)]
        simp
    · rw [hsdirs_gt (by omega) ho hl, List.all_append]
      simp only [List.all_cons, Bool.not_true, Bool.false_and, Bool.and_false, Bool.false_eq_true, false_iff]
      intro hz
      have h4 : ∀ x, 2 ^ m ≤ x → x < 2 ^ (m + 1) → x.testBit m = true := fun x h5 h6 => by
        rw [Nat.testBit_eq_decide_div_mod_eq, show x / 2 ^ m = 1 by
          rw [show (1 : Nat) = 2 ^ m / 2 ^ m by rw [Nat.div_self (by omega)]]
          apply Nat.le_antisymm
          · rw [Nat.div_self (by omega)]
            exact Nat.lt_succ_iff.1 ((Nat.div_lt_iff_lt_mul (by omega)).2 (by omega))
          · exact Nat.div_le_div_right h5]
        decide
      have h5 : (o &&& (o - 1)).testBit m = true := by rw [Nat.testBit_and, h4 o (by omega) (by omega), h4 (o - 1) (by omega) (by omega)]; rfl
      rw [hz, Nat.zero_testBit] at h5
      cases h5
/-! ### climbing -/
variable {α : Type} (nd : α → α → α)
def climb1 (b : Bool) (h p : α) : α := if b then nd p h else nd h p
/-- the root that a path says -/
def climb (h : α) : List Bool → List α → α
  | b :: ds, p :: ps => climb (climb1 nd b h p) ds ps
  | _, _ => h
theorem climb_append (ds es : List Bool) (ps qs : List α) (hl : ds.length = ps.length) : ∀ h, climb nd h (ds ++ es) (ps ++ qs) = climb nd (climb nd h ds ps) es qs := by
  induction ds generalizing ps with
  | nil =>
    intro h
    obtain rfl : ps = [] := by cases ps <;> simp_all
    rfl
  | cons d ds ih =>
    intro h
    cases ps with
    | nil => simp at hl
    | cons p ps => exact ih ps (by simpa using hl) _
theorem climb_snoc (ds : List Bool) (ps : List α) (hl : ds.length = ps.length) (h : α) (b : Bool) (p : α) : climb nd h (ds ++ [b]) (ps ++ [p]) = climb1 nd b (climb nd h ds ps) p := by
  rw [climb_append nd ds [b] ps [p] hl]; rfl
/-- the old root that a proof says: what stands on the right is new -/
def climbO (h : α) : List Bool → List α → α
  | b :: ds, p :: ps => climbO (if b then nd p h else h) ds ps
  | _, _ => h
theorem climbO_append (ds es : List Bool) (ps qs : List α) (hl : ds.length = ps.length) : ∀ h, climbO nd h (ds ++ es) (ps ++ qs) = climbO nd (climbO nd h ds ps) es qs := by
  induction ds generalizing ps with
  | nil =>
    intro h
    obtain rfl : ps = [] := by cases ps <;> simp_all
    rfl
  | cons d ds ih =>
    intro h
    cases ps with
    | nil => simp at hl
    | cons p ps => exact ih ps (by simpa using hl) _
theorem climbO_snoc (ds : List Bool) (ps : List α) (hl : ds.length = ps.length) (h : α) (b : Bool) (p : α) : climbO nd h (ds ++ [b]) (ps ++ [p]) = if b then nd p (climbO nd h ds ps) else climbO nd h ds ps := by
  rw [climbO_append nd ds [b] ps [p] hl]; rfl
end Go.Proofs.YtgbafjmklefoiaaDoor
