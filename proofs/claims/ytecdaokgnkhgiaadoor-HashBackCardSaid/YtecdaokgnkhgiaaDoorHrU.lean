/- a rune whose first byte is 128 or more is 128 or more; one below it is that byte. -/
import Derived.Test.YtecdaokgnkhgiaaDoorHrP
import Derived.Laws.RangeString
namespace Go.Proofs.YtecdaokgnkhgiaaDoor
theorem decode_high (s : ByteArray) (pos : Nat) (h : pos < s.size) (ha : 128 ≤ (s[pos]'h).toNat) : 128 ≤ (Utf8.decode s pos).1 := by
  have e : s.get! (pos + 0) = s[pos]'h := by
    show s.get! pos = _
    simp [ByteArray.get!, getElem!_pos, h]
    rfl
  have hr : 128 ≤ Utf8.runeError := by decide
  simp only [Utf8.decode, e]
  rw [if_neg (by omega)]
  split
  · split
    · rename_i h2; exact h2
    · exact hr
  · split
    · split
      · rename_i h2
        simp only [Bool.and_eq_true, decide_eq_true_eq] at h2
        exact Nat.le_trans (by decide) h2.1
      · exact hr
    · split
      · split
        · rename_i h2
          simp only [Bool.and_eq_true, decide_eq_true_eq] at h2
          exact Nat.le_trans (by decide) h2.1
        · exact hr
      · exact hr
/-- what a rune is worth is what its first byte is worth -/
theorem lett_decode (s : ByteArray) (pos : Nat) (h : pos < s.size) : lett ((Utf8.decode s pos).1 : Int) = lett ((s[pos]'h).toNat : Int) := by
  by_cases ha : (s[pos]'h).toNat < 128
  · rw [decode_ascii s pos h ha]
  · have h1 := decode_high s pos h (by omega)
    have h2 : ∀ c : Int, 103 ≤ c → lett c = (0, false) := fun c hc => by unfold lett; rw [if_neg (by omega), if_neg (by omega)]
    rw [h2 _ (by omega), h2 _ (by omega)]
/-- a letter is one byte -/
theorem lett_one (s : ByteArray) (pos : Nat) (h : pos < s.size) (hl : (lett ((s[pos]'h).toNat : Int)).2 = true) : (Utf8.decode s pos).2 = 1 := by
  have ha : (s[pos]'h).toNat < 128 := by
    rcases Nat.lt_or_ge (s[pos]'h).toNat 128 with h' | h'
    · exact h'
    · rw [lett_high _ (by omega)] at hl; cases hl
  rw [decode_ascii s pos h ha]
end Go.Proofs.YtecdaokgnkhgiaaDoor
