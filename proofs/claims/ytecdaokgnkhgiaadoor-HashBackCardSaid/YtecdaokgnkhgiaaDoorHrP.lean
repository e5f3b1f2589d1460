/- what hash.Read and the reference's Read tell, in plain words. -/
import Derived.Test.YtecdaokgnkhgiaaDoorHr
namespace Go.Proofs.YtecdaokgnkhgiaaDoor
/-- the hash's bytes behind one more letter -/
def stp (h : List UInt8) (i : Nat) (x : UInt8) : List UInt8 := h.set (i / 2) (h.getD (i / 2) 0 * 16 + UInt8.ofNat (wor x).toNat)
/-- the hash's bytes behind t letters -/
def rdN (l : List UInt8) : Nat → List UInt8
  | 0 => List.replicate 32 0
  | t + 1 => stp (rdN l t) t (l.getD t 0)
theorem rdN_length (l : List UInt8) (t : Nat) : (rdN l t).length = 32 := by
  induction t with
  | zero => simp [rdN]
  | succ t ih => simp [rdN, stp, ih]
/-- the first t letters are letters -/
def GoodTo (l : List UInt8) (t : Nat) : Prop := ∀ j, j < t → j < 64 ∧ j < l.length ∧ (lett ((l.getD j 0).toNat : Int)).2 = true
/-- where reading stops: nowhere, or at a place -/
def ReadAns (l : List UInt8) : Option Nat → Prop
  | none => l.length = 64 ∧ GoodTo l 64
  | some b => GoodTo l b ∧ (b = 64 ∧ 64 < l.length ∨ b < 64 ∧ (l.length ≤ b ∨ (lett ((l.getD b 0).toNat : Int)).2 = false))
theorem GoodTo.step {l : List UInt8} {t : Nat} (h : GoodTo l t) (h1 : t < 64) (h2 : t < l.length) (h3 : (lett ((l.getD t 0).toNat : Int)).2 = true) : GoodTo l (t + 1) := fun j hj => by
  rcases Nat.lt_succ_iff_lt_or_eq.1 hj with h' | rfl
  · exact h j h'
  · exact ⟨h1, h2, h3⟩
theorem readAns_place {l : List UInt8} {b c : Nat} (h : ReadAns l (some b)) (h' : ReadAns l (some c)) : ¬ b < c := fun hlt => by
  obtain ⟨g1, g2, g3⟩ := h'.1 b hlt
  rcases h.2 with ⟨rfl, _⟩ | ⟨_, h2 | h2⟩
  · omega
  · omega
  · rw [g3] at h2; cases h2
theorem readAns_none {l : List UInt8} {b : Nat} (h : ReadAns l none) (h' : ReadAns l (some b)) : False := by
  have hl := h.1
  rcases h'.2 with ⟨_, h2⟩ | ⟨h1, h2 | h2⟩
  · omega
  · omega
  · have := (h.2 b h1).2.2
    rw [this] at h2; cases h2
theorem readAns_unique {l : List UInt8} {p q : Option Nat} (h : ReadAns l p) (h' : ReadAns l q) : p = q := by
  match p, q, h, h' with
  | none, none, _, _ => rfl
  | none, some b, h, h' => exact (readAns_none h h').elim
  | some b, none, h, h' => exact (readAns_none h' h).elim
  | some b, some c, h, h' =>
    have h1 := readAns_place h h'
    have h2 := readAns_place h' h
    rw [show b = c by omega]
/-- a letter's worth, and what stands in a hash's byte, are small -/
theorem lett_bound (c : Int) : 0 ≤ (lett c).1 ∧ (lett c).1 < 16 := by
  unfold lett
  split
  · rename_i h; exact ⟨by show 0 ≤ c - 48; omega, by show c - 48 < 16; omega⟩
  · split
    · rename_i h; exact ⟨by show 0 ≤ c - 87; omega, by show c - 87 < 16; omega⟩
    · exact ⟨Int.le_refl _, by decide⟩
/-- a byte that is no letter's rune: 128 and more are none -/
theorem lett_high (c : Int) (h : 103 ≤ c) : (lett c).2 = false := by
  unfold lett
  rw [if_neg (by omega), if_neg (by omega)]
theorem wor_good {x : UInt8} (h : (lett (x.toNat : Int)).2 = true) : wor x = (lett (x.toNat : Int)).1 := by unfold wor; rw [if_pos h]
theorem wor_bad {x : UInt8} (h : (lett (x.toNat : Int)).2 = false) : wor x = -1 := by unfold wor; rw [h]; rfl
end Go.Proofs.YtecdaokgnkhgiaaDoor
