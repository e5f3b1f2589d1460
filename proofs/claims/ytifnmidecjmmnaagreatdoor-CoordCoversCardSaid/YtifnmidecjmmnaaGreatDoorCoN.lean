/- Whole trees in plain numbers (chapter 06): no program in sight. -/
import Derived.Lib.BitFns
import Derived.Lib.TrailingZeros
import Derived.Lib.ItoaNum
namespace Go.Proofs.YtifnmidecjmmnaaGreatDoor
/-- may a whole tree be -/
def mayB (L I : Nat) : Bool := decide (L ≤ 63 ∧ I < 2 ^ (63 - L))
/-- where its leaves begin and end -/
def spB (L I : Nat) : Nat := if mayB L I = true then I * 2 ^ L else 0
def spE (L I : Nat) : Nat := if mayB L I = true then (I + 1) * 2 ^ L else 0
/-- the tree of a stretch -/
def ofK (B E : Nat) : Bool := decide (B < E ∧ E ≤ 2 ^ 63 ∧ 2 ^ Nat.log2 (E - B) = E - B ∧ B % (E - B) = 0)
def ofL (B E : Nat) : Nat := if ofK B E = true then Nat.log2 (E - B) else 0
def ofI (B E : Nat) : Nat := if ofK B E = true then B / (E - B) else 0
/-- parent and sibling -/
def upK (L I : Nat) : Bool := mayB L I && decide (L ≠ 63)
def upL (L I : Nat) : Nat := if upK L I = true then L + 1 else 0
def upI (L I : Nat) : Nat := if upK L I = true then I / 2 else 0
def sbL (L I : Nat) : Nat := if upK L I = true then L else 0
def sbI (L I : Nat) : Nat := if upK L I = true then (if I % 2 = 0 then I + 1 else I - 1) else 0
/-- the halves -/
def dnK (L I : Nat) : Bool := mayB L I && decide (L ≠ 0)
def dnL (L I : Nat) : Nat := if dnK L I = true then L - 1 else 0
def dnI (L I : Nat) : Nat := if dnK L I = true then 2 * I else 0
def dnJ (L I : Nat) : Nat := if dnK L I = true then 2 * I + 1 else 0
/-- is level k one at which two trees have something in common -/
def Com (k La Ia Lb Ib : Nat) : Prop := La ≤ k ∧ Lb ≤ k ∧ Ia / 2 ^ (k - La) = Ib / 2 ^ (k - Lb)
def comF (La Ia Lb Ib : Nat) : Nat := ((List.range 64).find? fun k => decide (La ≤ k ∧ Lb ≤ k ∧ Ia / 2 ^ (k - La) = Ib / 2 ^ (k - Lb))).getD 0
def comK (La Ia Lb Ib : Nat) : Bool := mayB La Ia && mayB Lb Ib
def comL (La Ia Lb Ib : Nat) : Nat := if comK La Ia Lb Ib = true then comF La Ia Lb Ib else 0
def comI (La Ia Lb Ib : Nat) : Nat := if comK La Ia Lb Ib = true then Ia / 2 ^ (comF La Ia Lb Ib - La) else 0
/-- which stands ahead -/
def cmpN (La Ia Lb Ib : Nat) : Int :=
  if Ia * 2 ^ La < Ib * 2 ^ Lb then -1 else if Ib * 2 ^ Lb < Ia * 2 ^ La then 1 else if Lb < La then -1 else if La < Lb then 1 else 0
/-- the level of the greatest tree that begins at b and has room to e -/
def lvl (b e : Nat) : Nat := if b = 0 then Nat.log2 (e - b) else min (Nat.log2 (e - b)) (Lib.ctz 64 b)
/-- the cover -/
def coverN (b e : Nat) : List (Nat × Nat) := if b < e then (lvl b e, b / 2 ^ lvl b e) :: coverN (b + 2 ^ lvl b e) e else []
termination_by e - b
decreasing_by have := Nat.two_pow_pos (lvl b e); omega

theorem two_pow_split (L : Nat) (h : L ≤ 63) : 2 ^ (63 - L) * 2 ^ L = 2 ^ 63 := by rw [← Nat.pow_add]; congr 1; omega
theorem end_shift (L : Nat) (h : L ≤ 63) : 2 ^ 63 / 2 ^ L = 2 ^ (63 - L) := by
  rw [← two_pow_split L h, Nat.mul_div_cancel _ (Nat.two_pow_pos L)]
theorem end_shift0 (L : Nat) (h : 63 < L) : 2 ^ 63 / 2 ^ L = 0 := Nat.div_eq_of_lt (Nat.pow_lt_pow_right (by decide) h)
theorem mayB_iff (L I : Nat) : mayB L I = true ↔ L ≤ 63 ∧ I < 2 ^ (63 - L) := by simp [mayB]
theorem mayB_shift (L I : Nat) : mayB L I = (decide (L ≤ 63) && decide (I < 2 ^ 63 / 2 ^ L)) := by
  rw [Bool.eq_iff_iff, mayB_iff]
  simp only [Bool.and_eq_true, decide_eq_true_eq]
  constructor <;> rintro ⟨h1, h2⟩ <;> refine ⟨h1, ?_⟩ <;> rw [end_shift L h1] at * <;> exact h2
theorem may_end {L I : Nat} (h : mayB L I = true) : (I + 1) * 2 ^ L ≤ 2 ^ 63 := by
  obtain ⟨h1, h2⟩ := (mayB_iff L I).1 h
  rw [← two_pow_split L h1]
  exact Nat.mul_le_mul_right _ h2
theorem may_begin {L I : Nat} (h : mayB L I = true) : I * 2 ^ L + 2 ^ L ≤ 2 ^ 63 := by
  have := may_end h
  rwa [Nat.add_mul, Nat.one_mul] at this
theorem may_of_end {L I : Nat} (hL : L ≤ 63) (h : (I + 1) * 2 ^ L ≤ 2 ^ 63) : mayB L I = true := by
  rw [mayB_iff]
  refine ⟨hL, ?_⟩
  rw [← two_pow_split L hL] at h
  exact Nat.le_of_mul_le_mul_right h (Nat.two_pow_pos L)
/-- the same, as a walk from either side -/
def Anc (L I L' I' : Nat) : Prop := L ≤ L' ∧ I' = I / 2 ^ (L' - L)
theorem div_half (I n : Nat) : I / 2 / 2 ^ n = I / 2 ^ (n + 1) := by rw [Nat.div_div_eq_div_mul, Nat.pow_succ, Nat.mul_comm]
theorem Anc.refl (L I : Nat) : Anc L I L I := ⟨Nat.le_refl _, by simp⟩
theorem Anc.up {L I L' I' : Nat} (h : Anc L I L' I') : Anc L I (L' + 1) (I' / 2) := by
  obtain ⟨h1, rfl⟩ := h
  refine ⟨by omega, ?_⟩
  rw [Nat.div_div_eq_div_mul, show L' + 1 - L = (L' - L) + 1 by omega, Nat.pow_succ]
theorem Com.symm {k La Ia Lb Ib : Nat} (h : Com k La Ia Lb Ib) : Com k Lb Ib La Ia := ⟨h.2.1, h.1, h.2.2.symm⟩
theorem com_up {k La Ia Lb Ib : Nat} (hl : La ≤ Lb) (hne : ¬ (La = Lb ∧ Ia = Ib)) : Com k La Ia Lb Ib ↔ Com k (La + 1) (Ia / 2) Lb Ib := by
  constructor
  · rintro ⟨h1, h2, h3⟩
    have hk : La ≠ k := by
      rintro rfl
      have : La = Lb := by omega
      subst this
      simp at h3
      exact hne ⟨rfl, h3⟩
    refine ⟨by omega, h2, ?_⟩
    rw [div_half, show k - (La + 1) + 1 = k - La by omega]
    exact h3
  · rintro ⟨h1, h2, h3⟩
    refine ⟨by omega, h2, ?_⟩
    rw [div_half, show k - (La + 1) + 1 = k - La by omega] at h3
    exact h3
theorem com_top {La Ia Lb Ib : Nat} (ha : mayB La Ia = true) (hb : mayB Lb Ib = true) : Com 63 La Ia Lb Ib := by
  obtain ⟨h1, h2⟩ := (mayB_iff La Ia).1 ha
  obtain ⟨h3, h4⟩ := (mayB_iff Lb Ib).1 hb
  exact ⟨h1, h3, by rw [Nat.div_eq_of_lt h2, Nat.div_eq_of_lt h4]⟩
theorem comF_spec {La Ia Lb Ib : Nat} (ha : mayB La Ia = true) (hb : mayB Lb Ib = true) :
    comF La Ia Lb Ib ≤ 63 ∧ Com (comF La Ia Lb Ib) La Ia Lb Ib ∧ ∀ j, j < comF La Ia Lb Ib → ¬ Com j La Ia Lb Ib := by
  have hs : ((List.range 64).find? fun k => decide (La ≤ k ∧ Lb ≤ k ∧ Ia / 2 ^ (k - La) = Ib / 2 ^ (k - Lb))).isSome = true := by
    rw [List.find?_isSome]
    exact ⟨63, by simp, decide_eq_true (com_top ha hb)⟩
  obtain ⟨k, hk⟩ := Option.isSome_iff_exists.1 hs
  have he : comF La Ia Lb Ib = k := by unfold comF; rw [hk]; rfl
  rw [he]
  rw [List.find?_range_eq_some] at hk
  obtain ⟨h1, h2, h3⟩ := hk
  refine ⟨by have := List.mem_range.1 h2; omega, of_decide_eq_true (p := La ≤ k ∧ Lb ≤ k ∧ Ia / 2 ^ (k - La) = Ib / 2 ^ (k - Lb)) h1, fun j hj hc => ?_⟩
  have := h3 j hj
  rw [decide_eq_true (p := La ≤ j ∧ Lb ≤ j ∧ Ia / 2 ^ (j - La) = Ib / 2 ^ (j - Lb)) hc] at this
  cases this
theorem comF_unique {La Ia Lb Ib k : Nat} (ha : mayB La Ia = true) (hb : mayB Lb Ib = true) (hk : Com k La Ia Lb Ib) (hm : ∀ j, j < k → ¬ Com j La Ia Lb Ib) : comF La Ia Lb Ib = k := by
  obtain ⟨_, h1, h2⟩ := comF_spec ha hb
  rcases Nat.lt_trichotomy (comF La Ia Lb Ib) k with h | h | h
  · exact absurd h1 (hm _ h)
  · exact h
  · exact absurd hk (h2 _ h)
theorem comF_symm {La Ia Lb Ib : Nat} (ha : mayB La Ia = true) (hb : mayB Lb Ib = true) : comF Lb Ib La Ia = comF La Ia Lb Ib := by
  obtain ⟨_, h1, h2⟩ := comF_spec ha hb
  exact comF_unique hb ha h1.symm fun j hj hc => h2 j hj hc.symm
theorem comF_self {La Ia : Nat} (ha : mayB La Ia = true) : comF La Ia La Ia = La :=
  comF_unique ha ha ⟨Nat.le_refl _, Nat.le_refl _, rfl⟩ fun _ hj hc => absurd hc.1 (by omega)
theorem comF_end {La Ia Lb Ib L I : Nat} (ha : mayB La Ia = true) (hb : mayB Lb Ib = true) (h : ∀ k, Com k La Ia Lb Ib ↔ Com k L I L I) : comF La Ia Lb Ib = L :=
  comF_unique ha hb ((h L).2 ⟨Nat.le_refl _, Nat.le_refl _, rfl⟩) fun j hj hc => absurd ((h j).1 hc).1 (by omega)

theorem bitLen_bounds {x : Nat} (h : x < 2 ^ 64) (h0 : x ≠ 0) : 1 ≤ Lib.bitLen x ∧ 2 ^ (Lib.bitLen x - 1) ≤ x ∧ x < 2 ^ Lib.bitLen x := Lib.bitLenAux_bounds 64 x h h0
theorem bitLen_log {x : Nat} (h : x < 2 ^ 64) (h0 : x ≠ 0) : Lib.bitLen x = Nat.log2 x + 1 := by
  obtain ⟨h1, h2, h3⟩ := bitLen_bounds h h0
  have a := (Nat.le_log2 h0).2 h2
  have b := (Nat.log2_lt h0).2 h3
  omega
theorem scaled_lt {La Ia Lb Ib : Nat} (ha : Ia < 2 ^ 64) (hb : Ib < 2 ^ 64) (ha0 : Ia ≠ 0) (hb0 : Ib ≠ 0) (h : Lib.bitLen Ia + La < Lib.bitLen Ib + Lb) : Ia * 2 ^ La < Ib * 2 ^ Lb := by
  obtain ⟨_, _, h3⟩ := bitLen_bounds ha ha0
  obtain ⟨h4, h5, _⟩ := bitLen_bounds hb hb0
  calc Ia * 2 ^ La < 2 ^ Lib.bitLen Ia * 2 ^ La := Nat.mul_lt_mul_of_pos_right h3 (Nat.two_pow_pos _)
    _ = 2 ^ (Lib.bitLen Ia + La) := (Nat.pow_add _ _ _).symm
    _ ≤ 2 ^ (Lib.bitLen Ib - 1 + Lb) := Nat.pow_le_pow_right (by decide) (by omega)
    _ = 2 ^ (Lib.bitLen Ib - 1) * 2 ^ Lb := Nat.pow_add _ _ _
    _ ≤ Ib * 2 ^ Lb := Nat.mul_le_mul_right _ h5
theorem scale_eq {La Lb : Nat} (h : Lb ≤ La) (I : Nat) : I * 2 ^ La = I * 2 ^ (La - Lb) * 2 ^ Lb := by
  rw [Nat.mul_assoc, ← Nat.pow_add]
  congr 2
  omega
theorem scale_lt {La Ia Lb Ib : Nat} (h : Lb ≤ La) : Ia * 2 ^ La < Ib * 2 ^ Lb ↔ Ia * 2 ^ (La - Lb) < Ib := by
  rw [scale_eq h]
  exact Nat.mul_lt_mul_right (Nat.two_pow_pos _)
theorem scale_gt {La Ia Lb Ib : Nat} (h : Lb ≤ La) : Ib * 2 ^ Lb < Ia * 2 ^ La ↔ Ib < Ia * 2 ^ (La - Lb) := by
  rw [scale_eq h]
  exact Nat.mul_lt_mul_right (Nat.two_pow_pos _)
theorem cmpN_swap (La Ia Lb Ib : Nat) : cmpN Lb Ib La Ia = 0 - cmpN La Ia Lb Ib := by
  unfold cmpN
  repeat' split
  all_goals first | rfl | omega
theorem cmpN_self (L I : Nat) : cmpN L I L I = 0 := by simp [cmpN]
end Go.Proofs.YtifnmidecjmmnaaGreatDoor
