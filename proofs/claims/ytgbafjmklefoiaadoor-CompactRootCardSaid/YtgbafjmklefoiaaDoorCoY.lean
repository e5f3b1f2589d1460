/- CoordJoins in plain numbers: rows of trees side by side, the last two joined again and again. -/
import Derived.Test.YtgbafjmklefoiaaDoorCoP
import Derived.Test.YtgbafjmklefoiaaDoorCoL
namespace Go.Proofs.YtgbafjmklefoiaaDoor
theorem tile_append : ∀ {l l' : List (Nat × Nat)} {a m e : Nat}, Tile a m l → Tile m e l' → Tile a e (l ++ l')
  | [], _, _, _, _, h, h' => by rw [show _ = _ from h]; exact h'
  | _ :: _, _, _, _, _, h, h' => ⟨h.1, h.2.1, tile_append h.2.2 h'⟩
theorem tile_split : ∀ {l l' : List (Nat × Nat)} {a e : Nat}, Tile a e (l ++ l') → ∃ m, Tile a m l ∧ Tile m e l'
  | [], _, a, _, h => ⟨a, rfl, h⟩
  | _ :: _, _, _, _, h => by
    obtain ⟨m, h1, h2⟩ := tile_split h.2.2
    exact ⟨m, ⟨h.1, h.2.1, h1⟩, h2⟩
theorem norm_snoc : ∀ {l : List (Nat × Nat)} {y x : Nat × Nat}, Norm (l ++ [y]) → ¬ Sibs y x → Norm (l ++ [y, x])
  | [], _, _, _, h => ⟨h, trivial⟩
  | [_], _, _, h, h' => ⟨h.1, h', trivial⟩
  | _ :: z :: l, _, _, h, h' => ⟨h.1, norm_snoc (l := z :: l) h.2 h'⟩
theorem norm_init : ∀ {l : List (Nat × Nat)} {y : Nat × Nat}, Norm (l ++ [y]) → Norm l
  | [], _, _ => trivial
  | [_], _, _ => trivial
  | _ :: z :: l, _, h => ⟨h.1, norm_init (l := z :: l) h.2⟩
/-- two trees side by side: one is made of both -/
theorem tile_join {l : List (Nat × Nat)} {y x : Nat × Nat} {a e : Nat} (h : Tile a e (l ++ [y, x])) (he : e ≤ 2 ^ 63) (hs : Sibs y x) : Tile a e (l ++ [(y.1 + 1, y.2 / 2)]) := by
  obtain ⟨m, h1, h2⟩ := tile_split h
  obtain ⟨k, i⟩ := y
  obtain ⟨k', i'⟩ := x
  obtain ⟨s1, s2, s3⟩ := hs
  simp only at s1 s2 s3
  subst s1
  obtain ⟨a1, a2, a3, a4, a5⟩ := h2
  simp only at a1 a2 a3 a4 a5
  have a5' : m + 2 ^ k + 2 ^ k = e := a5
  have hp := Nat.two_pow_pos k
  have hk : k + 1 ≤ 63 := (Nat.pow_le_pow_iff_right (a := 2) (by decide)).1 (by rw [Nat.pow_succ]; omega)
  refine tile_append h1 ⟨hk, ?_, ?_⟩
  · show m = i / 2 * 2 ^ (k + 1)
    rw [a2, Nat.pow_succ, Nat.mul_comm (2 ^ k) 2, ← Nat.mul_assoc]
    congr 1
    omega
  · show m + 2 ^ (k + 1) = e
    rw [Nat.pow_succ]
    omega
/-- what the law asks of the last two: both have a parent, and it is the same -/
theorem join_iff {l : List (Nat × Nat)} {y x : Nat × Nat} {a e : Nat} (h : Tile a e (l ++ [y, x])) (he : e ≤ 2 ^ 63) :
    (upK x.1 x.2 = true ∧ upK y.1 y.2 = true ∧ upL x.1 x.2 = upL y.1 y.2 ∧ upI x.1 x.2 = upI y.1 y.2) ↔ Sibs y x := by
  obtain ⟨m, h1, h2⟩ := tile_split h
  obtain ⟨k, i⟩ := y
  obtain ⟨k', i'⟩ := x
  obtain ⟨a1, a2, a3, a4, a5⟩ := h2
  simp only at a1 a2 a3 a4 a5
  have a5' : m + 2 ^ k + 2 ^ k' = e := a5
  have hp := Nat.two_pow_pos k
  have hp' := Nat.two_pow_pos k'
  have my : mayB k i = true := may_of_end a1 (by rw [Nat.succ_mul, ← a2]; omega)
  have mx : mayB k' i' = true := may_of_end a3 (by rw [Nat.succ_mul, ← a4]; omega)
  constructor
  · rintro ⟨k1, k2, k3, k4⟩
    obtain ⟨u1, u2, _, _⟩ := up_of k1
    obtain ⟨v1, v2, _, _⟩ := up_of k2
    simp only at k3 k4 u1 u2 v1 v2
    rw [u1, v1] at k3
    rw [u2, v2] at k4
    obtain rfl : k' = k := by omega
    have hi : i' = i + 1 := by
      have : (i + 1) * 2 ^ k' = i' * 2 ^ k' := by rw [Nat.succ_mul, ← a2, a4]
      exact (Nat.eq_of_mul_eq_mul_right hp this).symm
    exact ⟨rfl, by show i % 2 = 0; omega, hi⟩
  · rintro ⟨s1, s2, s3⟩
    simp only at s1 s2 s3
    subst s1
    have hk : k + 1 ≤ 63 := (Nat.pow_le_pow_iff_right (a := 2) (by decide)).1 (by rw [Nat.pow_succ]; omega)
    have ky : upK k i = true := upK_iff.2 ⟨my, by omega⟩
    have kx : upK k i' = true := upK_iff.2 ⟨mx, by omega⟩
    obtain ⟨u1, u2, _, _⟩ := up_of kx
    obtain ⟨v1, v2, _, _⟩ := up_of ky
    refine ⟨kx, ky, by rw [u1, v1], ?_⟩
    show upI k i' = upI k i
    rw [u2, v2, s3]
    omega
theorem tile_lens {l : List (Nat × Nat)} {a e : Nat} (h : Tile a e l) (hn : Norm l) (he : e ≤ 2 ^ 63) : l = coverN a e := norm_unique l h hn he
end Go.Proofs.YtgbafjmklefoiaaDoor
