/- CoordFamily in plain numbers. -/
import Derived.Test.YtifnmidecjmmnaaGreatDoorCoJ
namespace Go.Proofs.YtifnmidecjmmnaaGreatDoor
theorem up_of {L I : Nat} (h : upK L I = true) : upL L I = L + 1 ∧ upI L I = I / 2 ∧ sbL L I = L ∧ sbI L I = if I % 2 = 0 then I + 1 else I - 1 := by
  unfold upL upI sbL sbI; rw [if_pos h, if_pos h, if_pos h, if_pos h]; exact ⟨rfl, rfl, rfl, rfl⟩
theorem sib_half (I : Nat) : (if I % 2 = 0 then I + 1 else I - 1) / 2 = I / 2 := by split <;> omega
theorem sib_sib (I : Nat) : (if (if I % 2 = 0 then I + 1 else I - 1) % 2 = 0 then (if I % 2 = 0 then I + 1 else I - 1) + 1 else (if I % 2 = 0 then I + 1 else I - 1) - 1) = I := by
  repeat' split
  all_goals omega
end Go.Proofs.YtifnmidecjmmnaaGreatDoor
