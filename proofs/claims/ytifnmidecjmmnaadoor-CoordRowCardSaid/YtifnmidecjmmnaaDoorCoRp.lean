/- Plain laws of a cover's row: each tree begins where the one ahead ends; neighbours are no siblings; they rise by the order; the levels rise and then fall. -/
import Derived.Test.YtifnmidecjmmnaaDoorCoL
namespace Go.Proofs.YtifnmidecjmmnaaDoor
theorem row_span {b E : Nat} (hlt : b < E) (hE : E ≤ 2 ^ 63) : lvl b E ≤ 63 ∧ b / 2 ^ lvl b E < 2 ^ 63 ∧ mayB (lvl b E) (b / 2 ^ lvl b E) = true ∧ spB (lvl b E) (b / 2 ^ lvl b E) = b ∧ spE (lvl b E) (b / 2 ^ lvl b E) = b + 2 ^ lvl b E ∧ b + 2 ^ lvl b E ≤ E := by
  obtain ⟨a1, a2, a3, _⟩ := lvl_spec hlt hE
  have hd : b / 2 ^ lvl b E * 2 ^ lvl b E = b := Nat.div_mul_cancel a2
  have hm : mayB (lvl b E) (b / 2 ^ lvl b E) = true := may_of_end a1 (by rw [Nat.add_mul, hd, Nat.one_mul]; omega)
  obtain ⟨s1, s2⟩ := sp_of hm
  refine ⟨a1, ?_, hm, by rw [s1, hd], by rw [s2, Nat.add_mul, hd, Nat.one_mul], a3⟩
  exact Nat.lt_of_le_of_lt (Nat.div_le_self _ _) (by omega)
theorem row_cmp {b E : Nat} (hlt : b < E) (hE : E ≤ 2 ^ 63) (hn : b + 2 ^ lvl b E < E) :
    cmpN (lvl b E) (b / 2 ^ lvl b E) (lvl (b + 2 ^ lvl b E) E) ((b + 2 ^ lvl b E) / 2 ^ lvl (b + 2 ^ lvl b E) E) = -1 := by
  obtain ⟨_, a2, _, _⟩ := lvl_spec hlt hE
  obtain ⟨_, c2, _, _⟩ := lvl_spec hn hE
  refine cmpN_lt ?_
  rw [Nat.div_mul_cancel a2, Nat.div_mul_cancel c2]
  have := Nat.two_pow_pos (lvl b E)
  omega
theorem row_sib {b E : Nat} (hlt : b < E) (hE : E ≤ 2 ^ 63) (hn : b + 2 ^ lvl b E < E) (hu : upK (lvl b E) (b / 2 ^ lvl b E) = true)
    (h1 : sbL (lvl b E) (b / 2 ^ lvl b E) = lvl (b + 2 ^ lvl b E) E) (_h2 : sbI (lvl b E) (b / 2 ^ lvl b E) = (b + 2 ^ lvl b E) / 2 ^ lvl (b + 2 ^ lvl b E) E) : ¬ b / 2 ^ lvl b E % 2 = 0 := by
  intro h3
  obtain ⟨_, a2, a3, a4⟩ := lvl_spec hlt hE
  obtain ⟨_, c2, c3, _⟩ := lvl_spec hn hE
  obtain ⟨_, _, u3, u4⟩ := up_of hu
  rw [u3] at h1
  rw [← h1] at c3
  have hd : b / 2 ^ lvl b E * 2 ^ lvl b E = b := Nat.div_mul_cancel a2
  have d : 2 ^ (lvl b E + 1) ∣ b := by
    refine ⟨b / 2 ^ lvl b E / 2, ?_⟩
    have : b / 2 ^ lvl b E = 2 * (b / 2 ^ lvl b E / 2) := by omega
    rw [Nat.pow_succ, Nat.mul_assoc, ← this, Nat.mul_comm]
    exact hd.symm
  have := a4 _ d (by rw [Nat.pow_succ]; omega)
  omega
end Go.Proofs.YtifnmidecjmmnaaDoor
