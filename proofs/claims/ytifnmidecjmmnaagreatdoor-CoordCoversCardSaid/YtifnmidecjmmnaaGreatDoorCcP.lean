/- The document's way to a cover's next tree: every level is tried; plain. -/
import Derived.Test.YtifnmidecjmmnaaGreatDoorCoM
import Derived.Test.YtifnmidecjmmnaaGreatDoorCoJ
namespace Go.Proofs.YtifnmidecjmmnaaGreatDoor
theorem lvl_iff {a E L : Nat} (h : a < E) (he : E ≤ 2 ^ 63) (hL : L ≤ 63) : (mayB L (a / 2 ^ L) = true ∧ spB L (a / 2 ^ L) = a ∧ spE L (a / 2 ^ L) ≤ E) ↔ L ≤ lvl a E := by
  obtain ⟨a1, a2, a3, a4⟩ := lvl_spec h he
  constructor
  · rintro ⟨h1, h2, h3⟩
    obtain ⟨s1, s2⟩ := sp_of h1
    have hd : a / 2 ^ L * 2 ^ L = a := s1.symm.trans h2
    refine a4 L ⟨a / 2 ^ L, by rw [Nat.mul_comm]; exact hd.symm⟩ ?_
    rw [s2, Nat.succ_mul, hd] at h3
    exact h3
  · intro hle
    have hd : 2 ^ L ∣ a := Nat.dvd_trans (Nat.pow_dvd_pow 2 hle) a2
    have hm : a / 2 ^ L * 2 ^ L = a := Nat.div_mul_cancel hd
    have hp : 2 ^ L ≤ 2 ^ lvl a E := Nat.pow_le_pow_right (by decide) hle
    have hmay : mayB L (a / 2 ^ L) = true := may_of_end hL (by rw [Nat.succ_mul, hm]; omega)
    obtain ⟨s1, s2⟩ := sp_of hmay
    exact ⟨hmay, s1.trans hm, by rw [s2, Nat.succ_mul, hm]; omega⟩
end Go.Proofs.YtifnmidecjmmnaaGreatDoor
