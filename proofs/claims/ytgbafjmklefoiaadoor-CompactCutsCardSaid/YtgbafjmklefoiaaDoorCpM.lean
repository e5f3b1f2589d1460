/- CompactRoot in plain numbers: the hashes of a cover, folded from the right, are the MTH of the leaves. -/
import Derived.Test.YtgbafjmklefoiaaDoorCpE
import Derived.Test.YtgbafjmklefoiaaDoorVp
namespace Go.Proofs.YtgbafjmklefoiaaDoor
/-- MTH of a stretch of hashes -/
noncomputable def mthC (l : List (List UInt8)) : List UInt8 :=
  if _h : l.length < 2 then l.headD (sha []) else nd (mthC (l.take (half l.length))) (mthC (l.drop (half l.length)))
termination_by l.length
decreasing_by
  · have := half_pos (s := l.length) (by omega); simp; omega
  · have := half_pos (s := l.length) (by omega); simp; omega
theorem mthC_nil : mthC [] = sha [] := by rw [mthC, dif_pos (by simp)]; rfl
theorem mthC_one (x : List UInt8) : mthC [x] = x := by rw [mthC, dif_pos (by simp)]; rfl
theorem mthC_node {l : List (List UInt8)} (h : 2 ≤ l.length) : mthC l = nd (mthC (l.take (half l.length))) (mthC (l.drop (half l.length))) := by rw [mthC, dif_neg (by omega)]
theorem mthC_length (n : Nat) : ∀ l : List (List UInt8), l.length ≤ n → (∀ x ∈ l, x.length = 32) → (mthC l).length = 32 := by
  induction n with
  | zero =>
    intro l h _
    obtain rfl : l = [] := List.eq_nil_of_length_eq_zero (by omega)
    rw [mthC_nil]; exact sha_length _
  | succ n ih =>
    intro l h hx
    by_cases h2 : 2 ≤ l.length
    · rw [mthC_node h2]; exact nd_length _ _
    · match l, h2, hx with
      | [], _, _ => rw [mthC_nil]; exact sha_length _
      | [x], _, hx => rw [mthC_one]; exact hx x (by simp)
      | _ :: _ :: _, h2, _ => simp at h2
/-- a stretch of leaves -/
def segC (f : Nat → List UInt8) (a n : Nat) : List (List UInt8) := (List.range n).map fun j => f (a + j)
theorem segC_length (f : Nat → List UInt8) (a n : Nat) : (segC f a n).length = n := by simp [segC]
theorem segC_take (f : Nat → List UInt8) (a : Nat) {n k : Nat} (h : k ≤ n) : (segC f a n).take k = segC f a k := by
  unfold segC
  rw [← List.map_take]
  congr 1
  apply List.ext_getElem
  · simp; omega
  · intro i h1 h2; simp
theorem segC_drop (f : Nat → List UInt8) (a : Nat) {n k : Nat} (_h : k ≤ n) : (segC f a n).drop k = segC f (a + k) (n - k) := by
  unfold segC
  apply List.ext_getElem
  · simp
  · intro i h1 h2
    simp [Nat.add_assoc]
theorem segC_one (f : Nat → List UInt8) (a : Nat) : segC f a 1 = [f a] := by simp [segC]
theorem segC_of {l : List (List UInt8)} {f : Nat → List UInt8} {n : Nat} (h : l.length = n) (hf : ∀ t (ht : t < l.length), l[t] = f t) : l = segC f 0 n := by
  apply List.ext_getElem
  · rw [segC_length, h]
  · intro i h1 h2
    rw [hf i h1]
    simp [segC]
theorem mth_tr (f : Nat → List UInt8) : ∀ (L I : Nat), mthC (segC f (I * 2 ^ L) (2 ^ L)) = trC f L I
  | 0, I => by rw [Nat.pow_zero, Nat.mul_one, segC_one, mthC_one]; rfl
  | L + 1, I => by
    have hp := Nat.two_pow_pos L
    have hh : half (2 ^ (L + 1)) = 2 ^ L := half_of ⟨by rw [Nat.pow_succ]; omega, Nat.le_refl _⟩
    rw [mthC_node (by rw [segC_length, Nat.pow_succ]; omega), segC_length, hh, segC_take _ _ (by rw [Nat.pow_succ]; omega), segC_drop _ _ (by rw [Nat.pow_succ]; omega)]
    rw [show I * 2 ^ (L + 1) = (2 * I) * 2 ^ L by rw [Nat.pow_succ, Nat.mul_comm 2 I, Nat.mul_assoc, Nat.mul_comm 2], mth_tr f L (2 * I)]
    rw [show (2 * I) * 2 ^ L + 2 ^ L = (2 * I + 1) * 2 ^ L by rw [Nat.add_mul, Nat.one_mul], show 2 ^ (L + 1) - 2 ^ L = 2 ^ L by rw [Nat.pow_succ]; omega, mth_tr f L (2 * I + 1)]
    rfl
theorem rowC_cons (f : Nat → List UInt8) {a e : Nat} (h : a < e) : rowC f a e = (lvl a e, a / 2 ^ lvl a e, trC f (lvl a e) (a / 2 ^ lvl a e)) :: rowC f (a + 2 ^ lvl a e) e := by
  unfold rowC
  rw [coverN_cons h]; rfl
theorem upC_cons {x : List UInt8} {l : List (List UInt8)} (h : l ≠ []) : upC (x :: l) = nd x (upC l) := by
  match l, h with
  | y :: l, _ => rfl
theorem root_law (f : Nat → List UInt8) (n : Nat) : ∀ (a m : Nat), 2 ^ m ∣ a → n ≤ 2 ^ m → 1 ≤ n → a + n ≤ 2 ^ 63 → upC (hsC (rowC f a (a + n))) = mthC (segC f a n) := by
  induction n using Nat.strongRecOn with
  | _ n ih =>
    intro a m hd hn h1 he
    obtain ⟨j, hj1, hj2⟩ : ∃ j, 2 ^ j ≤ n ∧ n < 2 ^ (j + 1) := ⟨Nat.log2 n, Nat.log2_self_le (by omega), Nat.lt_log2_self⟩
    have hjm : j ≤ m := (Nat.pow_le_pow_iff_right (a := 2) (by decide)).1 (Nat.le_trans hj1 hn)
    have hda : 2 ^ j ∣ a := Nat.dvd_trans (Nat.pow_dvd_pow 2 hjm) hd
    have hl : lvl a (a + n) = j := lvl_unique he hda (by omega) (fun _ h => by omega)
    have hp := Nat.two_pow_pos j
    have hat : a / 2 ^ j * 2 ^ j = a := Nat.div_mul_cancel hda
    have htr : mthC (segC f a (2 ^ j)) = trC f j (a / 2 ^ j) := by
      have := mth_tr f j (a / 2 ^ j)
      rwa [hat] at this
    rw [rowC_cons f (by omega : a < a + n), hl]
    by_cases h2 : n = 2 ^ j
    · rw [h2, rowC_nil]
      show trC f j (a / 2 ^ j) = _
      rw [htr]
    · have hh : half n = 2 ^ j := half_of ⟨by omega, Nat.le_of_lt hj2⟩
      have hi := ih (n - 2 ^ j) (by omega) (a + 2 ^ j) j (Nat.dvd_add hda (Nat.dvd_refl _)) (by rw [Nat.pow_succ] at hj2; omega) (by omega) (by omega)
      rw [show a + 2 ^ j + (n - 2 ^ j) = a + n by omega] at hi
      have hne : hsC (rowC f (a + 2 ^ j) (a + n)) ≠ [] := by
        rw [rowC_cons f (by omega : a + 2 ^ j < a + n)]
        unfold hsC
        simp
      have hc : hsC ((j, a / 2 ^ j, trC f j (a / 2 ^ j)) :: rowC f (a + 2 ^ j) (a + n)) = trC f j (a / 2 ^ j) :: hsC (rowC f (a + 2 ^ j) (a + n)) := rfl
      have hlen : 2 ≤ (segC f a n).length := by rw [segC_length]; omega
      rw [hc, upC_cons hne, hi, mthC_node hlen, segC_length, hh, segC_take _ _ (by omega), segC_drop _ _ (by omega), htr]
theorem root_all (f : Nat → List UInt8) {n : Nat} (h : n ≤ 2 ^ 63) : upC (hsC (rowC f 0 n)) = mthC (segC f 0 n) := by
  by_cases h0 : n = 0
  · subst h0
    rw [rowC_nil]
    show sha [] = _
    unfold segC
    rw [List.range_zero, List.map_nil, mthC_nil]
  · have := root_law f n 0 63 (Nat.dvd_zero _) h (by omega) (by omega)
    rwa [Nat.zero_add] at this
end Go.Proofs.YtgbafjmklefoiaaDoor
