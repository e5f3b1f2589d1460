/- Whole trees in plain numbers (chapter 06): no program in sight. Covers in plain numbers (chapter 06): a cover is the one row of trees side by side of which no two neighbours are halves of one. What the laws of chapter 06 ask of the plain numbers. What two trees have in common, in plain numbers (chapter 06). CoordMeets in plain numbers. CoordFamily in plain numbers. CoordJoins in plain numbers: rows of trees side by side, the last two joined again and again. -/
import Derived.Lib.BitFns
import Derived.Lib.TrailingZeros
import Derived.Lib.ItoaNum
section
namespace Go.Proofs.YtgbafjmklefoiaaGreatDoor
/-- may a whole tree be -/
def mayB (L I : Nat) : Bool := decide (L ≤ 63 ∧ I < 2 ^ (63 - L))
/-- where its leaves begin and end -/
def spB (L I : Nat) : Nat := if mayB L I = true then I * 2 ^ L else 0
def spE (L I : Nat) : Nat := if mayB L I = true then (I + 1) * 2 ^ L else 0
/-- parent and sibling -/
def upK (L I : Nat) : Bool := mayB L I && decide (L ≠ 63)
def upL (L I : Nat) : Nat := if upK L I = true then L + 1 else 0
def upI (L I : Nat) : Nat := if upK L I = true then I / 2 else 0
def sbL (L I : Nat) : Nat := if upK L I = true then L else 0
def sbI (L I : Nat) : Nat := if upK L I = true then (if I % 2 = 0 then I + 1 else I - 1) else 0
/-- is level k one at which two trees have something in common -/
def Com (k La Ia Lb Ib : Nat) : Prop := La ≤ k ∧ Lb ≤ k ∧ Ia / 2 ^ (k - La) = Ib / 2 ^ (k - Lb)
def comF (La Ia Lb Ib : Nat) : Nat := ((List.range 64).find? fun k => decide (La ≤ k ∧ Lb ≤ k ∧ Ia / 2 ^ (k - La) = Ib / 2 ^ (k - Lb))).getD 0
def comK (La Ia Lb Ib : Nat) : Bool := mayB La Ia && mayB Lb Ib
def comL (La Ia Lb Ib : Nat) : Nat := if comK La Ia Lb Ib = true then comF La Ia Lb Ib else 0
def comI (La Ia Lb Ib : Nat) : Nat := if comK La Ia Lb Ib = true then Ia / 2 ^ (comF La Ia Lb Ib - La) else 0
/-- the level of the greatest tree that begins at b and has room to e -/
def lvl (b e : Nat) : Nat := if b = 0 then Nat.log2 (e - b) else min (Nat.log2 (e - b)) (Lib.ctz 64 b)
/-- the cover -/
def coverN (b e : Nat) : List (Nat × Nat) := if b < e then (lvl b e, b / 2 ^ lvl b e) :: coverN (b + 2 ^ lvl b e) e else []
termination_by e - b
decreasing_by have := Nat.two_pow_pos (lvl b e); omega

theorem two_pow_split (L : Nat) (h : L ≤ 63) : 2 ^ (63 - L) * 2 ^ L = 2 ^ 63 := by rw [← Nat.pow_add]; congr 1; omega
theorem end_shift (L : Nat) (h : L ≤ 63) : 2 ^ 63 / 2 ^ L = 2 ^ (63 - L) := by
  rw [← two_pow_split L h, Nat.mul_div_cancel _ (Nat.two_pow_pos L)]
theorem mayB_iff (L I : Nat) : mayB L I = true ↔ L ≤ 63 ∧ I < 2 ^ (63 - L) := by simp [mayB]
theorem mayB_shift (L I : Nat) : mayB L I = (decide (L ≤ 63) && decide (I < 2 ^ 63 / 2 ^ L)) := by
  rw [Bool.eq_iff_iff, mayB_iff]
  simp only [Bool.and_eq_true, decide_eq_true_eq]
  constructor <;> rintro ⟨h1, h2⟩ <;> refine ⟨h1, ?_⟩ <;> rw [end_shift L h1] at * <;> exact h2
theorem may_end {L I : Nat} (h : mayB L I = true) : (I + 1) * 2 ^ L ≤ 2 ^ 63 := by
  obtain ⟨h1, h2⟩ := (mayB_iff L I).1 h
  rw [← two_pow_split L h1]
  exact Nat.mul_le_mul_right _ h2
theorem may_begin {L I : Nat} (h : mayB L I = true) : I * 2 ^ L + 2 ^ L ≤ 2 ^ 63 := by
  have := may_end h
  rwa [Nat.add_mul, Nat.one_mul] at this
theorem may_of_end {L I : Nat} (hL : L ≤ 63) (h : (I + 1) * 2 ^ L ≤ 2 ^ 63) : mayB L I = true := by
  rw [mayB_iff]
  refine ⟨hL, ?_⟩
  rw [← two_pow_split L hL] at h
  exact Nat.le_of_mul_le_mul_right h (Nat.two_pow_pos L)
/-- the same, as a walk from either side -/
def Anc (L I L' I' : Nat) : Prop := L ≤ L' ∧ I' = I / 2 ^ (L' - L)
theorem div_half (I n : Nat) : I / 2 / 2 ^ n = I / 2 ^ (n + 1) := by rw [Nat.div_div_eq_div_mul, Nat.pow_succ, Nat.mul_comm]
theorem Anc.refl (L I : Nat) : Anc L I L I := ⟨Nat.le_refl _, by simp⟩
theorem Anc.up {L I L' I' : Nat} (h : Anc L I L' I') : Anc L I (L' + 1) (I' / 2) := by
  obtain ⟨h1, rfl⟩ := h
  refine ⟨by omega, ?_⟩
  rw [Nat.div_div_eq_div_mul, show L' + 1 - L = (L' - L) + 1 by omega, Nat.pow_succ]
theorem Com.symm {k La Ia Lb Ib : Nat} (h : Com k La Ia Lb Ib) : Com k Lb Ib La Ia := ⟨h.2.1, h.1, h.2.2.symm⟩
theorem com_up {k La Ia Lb Ib : Nat} (hl : La ≤ Lb) (hne : ¬ (La = Lb ∧ Ia = Ib)) : Com k La Ia Lb Ib ↔ Com k (La + 1) (Ia / 2) Lb Ib := by
  constructor
  · rintro ⟨h1, h2, h3⟩
    have hk : La ≠ k := by
      rintro rfl
      have : La = Lb := by omega
      subst this
      simp at h3
      exact hne ⟨rfl, h3⟩
    refine ⟨by omega, h2, ?_⟩
    rw [div_half, show k - (La + 1) + 1 = k - La by omega]
    exact h3
  · rintro ⟨h1, h2, h3⟩
    refine ⟨by omega, h2, ?_⟩
    rw [div_half, show k - (La + 1) + 1 = k - La by omega] at h3
    exact h3
theorem com_top {La Ia Lb Ib : Nat} (ha : mayB La Ia = true) (hb : mayB Lb Ib = true) : Com 63 La Ia Lb Ib := by
  obtain ⟨h1, h2⟩ := (mayB_iff La Ia).1 ha
  obtain ⟨h3, h4⟩ := (mayB_iff Lb Ib).1 hb
  exact ⟨h1, h3, by rw [Nat.div_eq_of_lt h2, Nat.div_eq_of_lt h4]⟩
theorem comF_spec {La Ia Lb Ib : Nat} (ha : mayB La Ia = true) (hb : mayB Lb Ib = true) :
    comF La Ia Lb Ib ≤ 63 ∧ Com (comF La Ia Lb Ib) La Ia Lb Ib ∧ ∀ j, j < comF La Ia Lb Ib → ¬ Com j La Ia Lb Ib := by
  have hs : ((List.range 64).find? fun k => decide (La ≤ k ∧ Lb ≤ k ∧ Ia / 2 ^ (k - La) = Ib / 2 ^ (k - Lb))).isSome = true := by
    rw [List.find?_isSome]
    exact ⟨63, by simp, decide_eq_true (com_top ha hb)⟩
  obtain ⟨k, hk⟩ := Option.isSome_iff_exists.1 hs
  have he : comF La Ia Lb Ib = k := by unfold comF; rw [hk]; rfl
  rw [he]
  rw [List.find?_range_eq_some] at hk
  obtain ⟨h1, h2, h3⟩ := hk
  refine ⟨by have := List.mem_range.1 h2; omega, of_decide_eq_true (p := La ≤ k ∧ Lb ≤ k ∧ Ia / 2 ^ (k - La) = Ib / 2 ^ (k - Lb)) h1, fun j hj hc => ?_⟩
  have := h3 j hj
  rw [decide_eq_true (p := La ≤ j ∧ Lb ≤ j ∧ Ia / 2 ^ (j - La) = Ib / 2 ^ (j - Lb)) hc] at this
  cases this
theorem comF_unique {La Ia Lb Ib k : Nat} (ha : mayB La Ia = true) (hb : mayB Lb Ib = true) (hk : Com k La Ia Lb Ib) (hm : ∀ j, j < k → ¬ Com j La Ia Lb Ib) : comF La Ia Lb Ib = k := by
  obtain ⟨_, h1, h2⟩ := comF_spec ha hb
  rcases Nat.lt_trichotomy (comF La Ia Lb Ib) k with h | h | h
  · exact absurd h1 (hm _ h)
  · exact h
  · exact absurd hk (h2 _ h)
theorem comF_end {La Ia Lb Ib L I : Nat} (ha : mayB La Ia = true) (hb : mayB Lb Ib = true) (h : ∀ k, Com k La Ia Lb Ib ↔ Com k L I L I) : comF La Ia Lb Ib = L :=
  comF_unique ha hb ((h L).2 ⟨Nat.le_refl _, Nat.le_refl _, rfl⟩) fun j hj hc => absurd ((h j).1 hc).1 (by omega)

theorem bitLen_bounds {x : Nat} (h : x < 2 ^ 64) (h0 : x ≠ 0) : 1 ≤ Lib.bitLen x ∧ 2 ^ (Lib.bitLen x - 1) ≤ x ∧ x < 2 ^ Lib.bitLen x := Lib.bitLenAux_bounds 64 x h h0
theorem bitLen_log {x : Nat} (h : x < 2 ^ 64) (h0 : x ≠ 0) : Lib.bitLen x = Nat.log2 x + 1 := by
  obtain ⟨h1, h2, h3⟩ := bitLen_bounds h h0
  have a := (Nat.le_log2 h0).2 h2
  have b := (Nat.log2_lt h0).2 h3
  omega
end Go.Proofs.YtgbafjmklefoiaaGreatDoor
end
section
namespace Go.Proofs.YtgbafjmklefoiaaGreatDoor
theorem ctz_spec {b : Nat} (h : b < 2 ^ 64) (h0 : b ≠ 0) : ∃ m, b = 2 ^ Lib.ctz 64 b * (2 * m + 1) ∧ Lib.ctz 64 b < 64 := by
  unfold Lib.ctz
  rw [if_neg h0]
  exact Lib.ctzFrom_spec 64 b (by omega) h
theorem dvd_ctz {b j : Nat} (h : b < 2 ^ 64) (h0 : b ≠ 0) : 2 ^ j ∣ b ↔ j ≤ Lib.ctz 64 b := by
  obtain ⟨m, hm, _⟩ := ctz_spec h h0
  generalize Lib.ctz 64 b = c at hm
  constructor
  · rintro ⟨q, hq⟩
    refine Nat.le_of_not_lt fun hlt => ?_
    have e1 : 2 ^ j = 2 ^ c * (2 * 2 ^ (j - c - 1)) := by
      rw [← Nat.pow_succ', ← Nat.pow_add]
      congr 1
      omega
    have e2 : 2 ^ c * (2 * m + 1) = 2 ^ c * (2 * (2 ^ (j - c - 1) * q)) := by
      rw [← hm, hq, e1]
      simp only [Nat.mul_assoc]
    have e3 := Nat.eq_of_mul_eq_mul_left (Nat.two_pow_pos c) e2
    omega
  · intro hle
    exact Nat.dvd_trans (Nat.pow_dvd_pow 2 hle) ⟨2 * m + 1, hm⟩
theorem lvl_spec {b e : Nat} (h : b < e) (he : e ≤ 2 ^ 63) :
    lvl b e ≤ 63 ∧ 2 ^ lvl b e ∣ b ∧ b + 2 ^ lvl b e ≤ e ∧ ∀ j, 2 ^ j ∣ b → b + 2 ^ j ≤ e → j ≤ lvl b e := by
  have hn : e - b ≠ 0 := by omega
  have hs := Nat.log2_self_le hn
  have h63 : Nat.log2 (e - b) ≤ 63 := (Nat.pow_le_pow_iff_right (a := 2) (by decide)).1 (by omega)
  unfold lvl
  split
  · next h0 =>
    subst h0
    exact ⟨h63, Nat.dvd_zero _, by omega, fun j _ hj => (Nat.le_log2 hn).2 (by omega)⟩
  · next h0 =>
    have hb : b < 2 ^ 64 := by omega
    have hp : 2 ^ min (Nat.log2 (e - b)) (Lib.ctz 64 b) ≤ 2 ^ Nat.log2 (e - b) := Nat.pow_le_pow_right (by decide) (Nat.min_le_left _ _)
    refine ⟨Nat.le_trans (Nat.min_le_left _ _) h63, (dvd_ctz hb h0).2 (Nat.min_le_right _ _), by omega, fun j h1 h2 => ?_⟩
    exact Nat.le_min.2 ⟨(Nat.le_log2 hn).2 (by omega), (dvd_ctz hb h0).1 h1⟩
theorem lvl_unique {b e k : Nat} (he : e ≤ 2 ^ 63) (h1 : 2 ^ k ∣ b) (h2 : b + 2 ^ k ≤ e) (h3 : 2 ^ (k + 1) ∣ b → ¬ b + 2 ^ (k + 1) ≤ e) : lvl b e = k := by
  have hp := Nat.two_pow_pos k
  obtain ⟨_, a2, a3, a4⟩ := lvl_spec (b := b) (e := e) (by omega) he
  refine Nat.le_antisymm (Nat.le_of_not_lt fun hlt => ?_) (a4 k h1 h2)
  have hle : 2 ^ (k + 1) ≤ 2 ^ lvl b e := Nat.pow_le_pow_right (by decide) hlt
  exact h3 (Nat.dvd_trans (Nat.pow_dvd_pow 2 hlt) a2) (by omega)
/-- trees side by side from b to e -/
def Tile : Nat → Nat → List (Nat × Nat) → Prop
  | b, e, [] => b = e
  | b, e, x :: l => x.1 ≤ 63 ∧ b = x.2 * 2 ^ x.1 ∧ Tile (b + 2 ^ x.1) e l
/-- both halves of one -/
def Sibs (x y : Nat × Nat) : Prop := x.1 = y.1 ∧ x.2 % 2 = 0 ∧ y.2 = x.2 + 1
def Norm : List (Nat × Nat) → Prop
  | [] => True
  | [_] => True
  | x :: y :: l => ¬ Sibs x y ∧ Norm (y :: l)
theorem Tile.le : ∀ {l : List (Nat × Nat)} {b e : Nat}, Tile b e l → b ≤ e
  | [], _, _, h => Nat.le_of_eq h
  | _ :: _, _, _, h => Nat.le_trans (Nat.le_add_right _ _) h.2.2.le
theorem Norm.tail {x : Nat × Nat} {l : List (Nat × Nat)} (h : Norm (x :: l)) : Norm l := by
  cases l with
  | nil => trivial
  | cons y l => exact h.2
theorem coverN_nil {b e : Nat} (h : ¬ b < e) : coverN b e = [] := by rw [coverN, if_neg h]
theorem coverN_cons {b e : Nat} (h : b < e) : coverN b e = (lvl b e, b / 2 ^ lvl b e) :: coverN (b + 2 ^ lvl b e) e := by rw [coverN, if_pos h]
theorem cover_tile (n : Nat) : ∀ {b e : Nat}, e - b ≤ n → b ≤ e → e ≤ 2 ^ 63 → Tile b e (coverN b e) := by
  induction n with
  | zero =>
    intro b e h1 h2 _
    rw [coverN_nil (by omega)]
    show b = e
    omega
  | succ n ih =>
    intro b e h1 h2 h3
    by_cases hlt : b < e
    · rw [coverN_cons hlt]
      obtain ⟨a1, a2, a3, _⟩ := lvl_spec hlt h3
      have hp := Nat.two_pow_pos (lvl b e)
      exact ⟨a1, (Nat.div_mul_cancel a2).symm, ih (b := b + 2 ^ lvl b e) (e := e) (by omega) a3 h3⟩
    · rw [coverN_nil hlt]
      show b = e
      omega
theorem not_dvd_succ {k b : Nat} (h : 2 ^ (k + 1) ∣ b) (h' : 2 ^ (k + 1) ∣ b + 2 ^ k) : False := by
  have := (Nat.dvd_add_right h).1 h'
  have h2 := Nat.le_of_dvd (Nat.two_pow_pos k) this
  rw [Nat.pow_succ] at h2
  have := Nat.two_pow_pos k
  omega
theorem even_of_dvd {k i : Nat} (h : 2 ^ (k + 1) ∣ i * 2 ^ k) : i % 2 = 0 := by
  obtain ⟨q, hq⟩ := h
  have : 2 ^ k * i = 2 ^ k * (2 * q) := by rw [Nat.mul_comm, hq, Nat.pow_succ, Nat.mul_assoc]
  have := Nat.eq_of_mul_eq_mul_left (Nat.two_pow_pos k) this
  omega
theorem tile_not_norm : ∀ (l : List (Nat × Nat)) (b e k i : Nat), Tile b e ((k, i) :: l) → 2 ^ (k + 1) ∣ b → b + 2 ^ (k + 1) ≤ e → ¬ Norm ((k, i) :: l) := by
  intro l
  induction l with
  | nil =>
    intro b e k i h h1 h2 _
    have h3 : b + 2 ^ k = e := h.2.2
    have := Nat.two_pow_pos k
    rw [Nat.pow_succ] at h2
    omega
  | cons y l ih =>
    intro b e k i h h1 h2 hn
    obtain ⟨k', i'⟩ := y
    obtain ⟨_, hb, ht⟩ := h
    have hi : i % 2 = 0 := even_of_dvd (k := k) (by simpa using hb ▸ h1)
    have hb' : b = i * 2 ^ k := hb
    have hs : b + 2 ^ k = i' * 2 ^ k' := ht.2.1
    rcases Nat.lt_trichotomy k' k with hlt | heq | hgt
    · have d1 : 2 ^ (k' + 1) ∣ 2 ^ k := Nat.pow_dvd_pow 2 hlt
      have d2 : 2 ^ (k' + 1) ∣ b := Nat.dvd_trans d1 ⟨i, by rw [hb', Nat.mul_comm]⟩
      have hle : 2 ^ (k' + 1) ≤ 2 ^ k := Nat.pow_le_pow_right (by decide) hlt
      refine ih (b + 2 ^ k) e k' i' ht (Nat.dvd_add d2 d1) ?_ hn.2
      rw [Nat.pow_succ] at h2
      omega
    · subst heq
      refine hn.1 ⟨rfl, hi, ?_⟩
      rw [hb', ← Nat.succ_mul] at hs
      exact (Nat.eq_of_mul_eq_mul_right (Nat.two_pow_pos _) hs).symm
    · exact not_dvd_succ h1 (Nat.dvd_trans (Nat.pow_dvd_pow 2 hgt) ⟨i', by rw [hs, Nat.mul_comm]⟩)
theorem norm_unique : ∀ (l : List (Nat × Nat)) {b e : Nat}, Tile b e l → Norm l → e ≤ 2 ^ 63 → l = coverN b e := by
  intro l
  induction l with
  | nil =>
    intro b e h _ _
    have h' : b = e := h
    rw [coverN_nil (by omega)]
  | cons x l ih =>
    intro b e h hn he
    obtain ⟨k, i⟩ := x
    have hle := h.2.2.le
    have hb : b = i * 2 ^ k := h.2.1
    have hp := Nat.two_pow_pos k
    have hle' : b + 2 ^ k ≤ e := hle
    have hk : lvl b e = k := lvl_unique he ⟨i, by rw [hb, Nat.mul_comm]⟩ hle' fun h1 h2 => tile_not_norm l b e k i h h1 h2 hn
    rw [coverN_cons (by omega), hk, ← ih h.2.2 hn.tail he]
    congr 2
    rw [hb, Nat.mul_div_cancel _ hp]
theorem cover_norm (n : Nat) : ∀ {b e : Nat}, e - b ≤ n → e ≤ 2 ^ 63 → Norm (coverN b e) := by
  induction n with
  | zero => intro b e h1 _; rw [coverN_nil (by omega)]; trivial
  | succ n ih =>
    intro b e h1 h3
    by_cases hlt : b < e
    · obtain ⟨a1, a2, a3, a4⟩ := lvl_spec hlt h3
      have hp := Nat.two_pow_pos (lvl b e)
      have hrest := ih (b := b + 2 ^ lvl b e) (e := e) (by omega) h3
      rw [coverN_cons hlt]
      by_cases hlt' : b + 2 ^ lvl b e < e
      · rw [coverN_cons hlt'] at hrest ⊢
        refine ⟨?_, hrest⟩
        rintro ⟨s1, s2, s3⟩
        simp only at s1 s2 s3
        obtain ⟨_, c2, c3, _⟩ := lvl_spec hlt' h3
        rw [← s1] at c3
        have hb : b = b / 2 ^ lvl b e * 2 ^ lvl b e := (Nat.div_mul_cancel a2).symm
        have d : 2 ^ (lvl b e + 1) ∣ b := by
          refine ⟨b / 2 ^ lvl b e / 2, ?_⟩
          have : b / 2 ^ lvl b e = 2 * (b / 2 ^ lvl b e / 2) := by omega
          conv => lhs; rw [hb, this]
          rw [Nat.pow_succ, Nat.mul_comm 2, Nat.mul_assoc, Nat.mul_comm, Nat.mul_comm 2]
        have := a4 (lvl b e + 1) d (by rw [Nat.pow_succ]; omega)
        omega
      · rw [coverN_nil hlt']
        trivial
    · rw [coverN_nil hlt]; trivial
end Go.Proofs.YtgbafjmklefoiaaGreatDoor
end
section
namespace Go.Proofs.YtgbafjmklefoiaaGreatDoor
/-- no room for a tree of the next level -/
def Lim (b e : Nat) : Prop := e < b + 2 ^ (lvl b e + 1)
theorem lim_next {b e : Nat} (hlt : b < e) (he : e ≤ 2 ^ 63) (h : Lim b e) (hn : b + 2 ^ lvl b e < e) :
    lvl (b + 2 ^ lvl b e) e < lvl b e ∧ Lim (b + 2 ^ lvl b e) e := by
  obtain ⟨_, a2, a3, a4⟩ := lvl_spec hlt he
  obtain ⟨_, c2, c3, c4⟩ := lvl_spec hn he
  unfold Lim at h
  rw [Nat.pow_succ] at h
  have hk : lvl (b + 2 ^ lvl b e) e < lvl b e := (Nat.pow_lt_pow_iff_right (a := 2) (by decide)).1 (by omega)
  refine ⟨hk, ?_⟩
  unfold Lim
  refine Nat.lt_of_not_le fun hle => ?_
  have d1 : 2 ^ (lvl (b + 2 ^ lvl b e) e + 1) ∣ 2 ^ lvl b e := Nat.pow_dvd_pow 2 hk
  have := c4 _ (Nat.dvd_add (Nat.dvd_trans d1 a2) d1) hle
  omega
theorem lim_falls {b e : Nat} (hlt : b < e) (he : e ≤ 2 ^ 63) (hn : b + 2 ^ lvl b e < e) (hl : lvl (b + 2 ^ lvl b e) e ≤ lvl b e) : Lim (b + 2 ^ lvl b e) e := by
  by_cases h : Lim b e
  · exact (lim_next hlt he h hn).2
  · obtain ⟨_, a2, a3, a4⟩ := lvl_spec hlt he
    obtain ⟨_, c2, c3, c4⟩ := lvl_spec hn he
    unfold Lim at h
    unfold Lim
    refine Nat.lt_of_not_le fun hle => ?_
    have hd : ¬ 2 ^ (lvl b e + 1) ∣ b := fun hd => by have := a4 _ hd (Nat.le_of_not_lt h); omega
    have d : 2 ^ (lvl (b + 2 ^ lvl b e) e + 1) ∣ b + 2 ^ lvl b e := by
      rcases Nat.lt_or_eq_of_le hl with h1 | h1
      · have d1 : 2 ^ (lvl (b + 2 ^ lvl b e) e + 1) ∣ 2 ^ lvl b e := Nat.pow_dvd_pow 2 h1
        exact Nat.dvd_add (Nat.dvd_trans d1 a2) d1
      · rw [h1]
        obtain ⟨q, hq⟩ := a2
        have hodd : q % 2 = 1 := by
          refine Classical.byContradiction fun h2 => hd ⟨q / 2, ?_⟩
          have : q = 2 * (q / 2) := by omega
          rw [Nat.pow_succ, Nat.mul_assoc, ← this]
          exact hq
        refine ⟨(q + 1) / 2, ?_⟩
        have : q + 1 = 2 * ((q + 1) / 2) := by omega
        rw [Nat.pow_succ, Nat.mul_assoc, ← this, Nat.mul_succ, ← hq]
    have := c4 _ d hle
    omega

theorem upK_iff {L I : Nat} : upK L I = true ↔ mayB L I = true ∧ L ≠ 63 := by simp [upK]
theorem up_may {L I : Nat} (h : mayB L I = true) (h63 : L ≠ 63) : mayB (L + 1) (I / 2) = true := by
  obtain ⟨h1, h2⟩ := (mayB_iff L I).1 h
  rw [mayB_iff]
  refine ⟨by omega, ?_⟩
  rw [show 63 - L = (63 - (L + 1)) + 1 by omega, Nat.pow_succ] at h2
  omega
end Go.Proofs.YtgbafjmklefoiaaGreatDoor
end
section
namespace Go.Proofs.YtgbafjmklefoiaaGreatDoor
end Go.Proofs.YtgbafjmklefoiaaGreatDoor
end
section
namespace Go.Proofs.YtgbafjmklefoiaaGreatDoor
theorem sp_of {L I : Nat} (h : mayB L I = true) : spB L I = I * 2 ^ L ∧ spE L I = (I + 1) * 2 ^ L := by
  unfold spB spE; rw [if_pos h, if_pos h]; exact ⟨rfl, rfl⟩
end Go.Proofs.YtgbafjmklefoiaaGreatDoor
end
section
namespace Go.Proofs.YtgbafjmklefoiaaGreatDoor
theorem up_of {L I : Nat} (h : upK L I = true) : upL L I = L + 1 ∧ upI L I = I / 2 ∧ sbL L I = L ∧ sbI L I = if I % 2 = 0 then I + 1 else I - 1 := by
  unfold upL upI sbL sbI; rw [if_pos h, if_pos h, if_pos h, if_pos h]; exact ⟨rfl, rfl, rfl, rfl⟩
end Go.Proofs.YtgbafjmklefoiaaGreatDoor
end
section
namespace Go.Proofs.YtgbafjmklefoiaaGreatDoor
theorem tile_append : ∀ {l l' : List (Nat × Nat)} {a m e : Nat}, Tile a m l → Tile m e l' → Tile a e (l ++ l')
  | [], _, _, _, _, h, h' => by rw [show _ = _ from h]; exact h'
  | _ :: _, _, _, _, _, h, h' => ⟨h.1, h.2.1, tile_append h.2.2 h'⟩
theorem tile_split : ∀ {l l' : List (Nat × Nat)} {a e : Nat}, Tile a e (l ++ l') → ∃ m, Tile a m l ∧ Tile m e l'
  | [], _, a, _, h => ⟨a, rfl, h⟩
  | _ :: _, _, _, _, h => by
    obtain ⟨m, h1, h2⟩ := tile_split h.2.2
    exact ⟨m, ⟨h.1, h.2.1, h1⟩, h2⟩
theorem norm_snoc : ∀ {l : List (Nat × Nat)} {y x : Nat × Nat}, Norm (l ++ [y]) → ¬ Sibs y x → Norm (l ++ [y, x])
  | [], _, _, _, h => ⟨h, trivial⟩
  | [_], _, _, h, h' => ⟨h.1, h', trivial⟩
  | _ :: z :: l, _, _, h, h' => ⟨h.1, norm_snoc (l := z :: l) h.2 h'⟩
theorem norm_init : ∀ {l : List (Nat × Nat)} {y : Nat × Nat}, Norm (l ++ [y]) → Norm l
  | [], _, _ => trivial
  | [_], _, _ => trivial
  | _ :: z :: l, _, h => ⟨h.1, norm_init (l := z :: l) h.2⟩
/-- two trees side by side: one is made of both -/
theorem tile_join {l : List (Nat × Nat)} {y x : Nat × Nat} {a e : Nat} (h : Tile a e (l ++ [y, x])) (he : e ≤ 2 ^ 63) (hs : Sibs y x) : Tile a e (l ++ [(y.1 + 1, y.2 / 2)]) := by
  obtain ⟨m, h1, h2⟩ := tile_split h
  obtain ⟨k, i⟩ := y
  obtain ⟨k', i'⟩ := x
  obtain ⟨s1, s2, s3⟩ := hs
  simp only at s1 s2 s3
  subst s1
  obtain ⟨a1, a2, a3, a4, a5⟩ := h2
  simp only at a1 a2 a3 a4 a5
  have a5' : m + 2 ^ k + 2 ^ k = e := a5
  have hp := Nat.two_pow_pos k
  have hk : k + 1 ≤ 63 := (Nat.pow_le_pow_iff_right (a := 2) (by decide)).1 (by rw [Nat.pow_succ]; omega)
  refine tile_append h1 ⟨hk, ?_, ?_⟩
  · show m = i / 2 * 2 ^ (k + 1)
    rw [a2, Nat.pow_succ, Nat.mul_comm (2 ^ k) 2, ← Nat.mul_assoc]
    congr 1
    omega
  · show m + 2 ^ (k + 1) = e
    rw [Nat.pow_succ]
    omega
/-- what the law asks of the last two: both have a parent, and it is the same -/
theorem join_iff {l : List (Nat × Nat)} {y x : Nat × Nat} {a e : Nat} (h : Tile a e (l ++ [y, x])) (he : e ≤ 2 ^ 63) :
    (upK x.1 x.2 = true ∧ upK y.1 y.2 = true ∧ upL x.1 x.2 = upL y.1 y.2 ∧ upI x.1 x.2 = upI y.1 y.2) ↔ Sibs y x := by
  obtain ⟨m, h1, h2⟩ := tile_split h
  obtain ⟨k, i⟩ := y
  obtain ⟨k', i'⟩ := x
  obtain ⟨a1, a2, a3, a4, a5⟩ := h2
  simp only at a1 a2 a3 a4 a5
  have a5' : m + 2 ^ k + 2 ^ k' = e := a5
  have hp := Nat.two_pow_pos k
  have hp' := Nat.two_pow_pos k'
  have my : mayB k i = true := may_of_end a1 (by rw [Nat.succ_mul, ← a2]; omega)
  have mx : mayB k' i' = true := may_of_end a3 (by rw [Nat.succ_mul, ← a4]; omega)
  constructor
  · rintro ⟨k1, k2, k3, k4⟩
    obtain ⟨u1, u2, _, _⟩ := up_of k1
    obtain ⟨v1, v2, _, _⟩ := up_of k2
    simp only at k3 k4 u1 u2 v1 v2
    rw [u1, v1] at k3
    rw [u2, v2] at k4
    obtain rfl : k' = k := by omega
    have hi : i' = i + 1 := by
      have : (i + 1) * 2 ^ k' = i' * 2 ^ k' := by rw [Nat.succ_mul, ← a2, a4]
      exact (Nat.eq_of_mul_eq_mul_right hp this).symm
    exact ⟨rfl, by show i % 2 = 0; omega, hi⟩
  · rintro ⟨s1, s2, s3⟩
    simp only at s1 s2 s3
    subst s1
    have hk : k + 1 ≤ 63 := (Nat.pow_le_pow_iff_right (a := 2) (by decide)).1 (by rw [Nat.pow_succ]; omega)
    have ky : upK k i = true := upK_iff.2 ⟨my, by omega⟩
    have kx : upK k i' = true := upK_iff.2 ⟨mx, by omega⟩
    obtain ⟨u1, u2, _, _⟩ := up_of kx
    obtain ⟨v1, v2, _, _⟩ := up_of ky
    refine ⟨kx, ky, by rw [u1, v1], ?_⟩
    show upI k i' = upI k i
    rw [u2, v2, s3]
    omega
end Go.Proofs.YtgbafjmklefoiaaGreatDoor
end
