/- cartularylaw01.Book over ints: the mark, and whether it is there. -/
import Derived.Test.YtdepmjgibenejaaGreatDoorBkC
namespace Go.Proofs.YtdepmjgibenejaaGreatDoor
set_option maxRecDepth 100000
open Go.RowKit
def mkInt (n : Nat) : Array Value := #[.int .i64 (-1000 - (n : Int))]
theorem mkInt_len (n : Nat) : (mkInt n).toList.length = 1 := rfl
theorem mkInt_one (n : Nat) : (mkInt n).all (·.oneCell') = true := by simp [mkInt, Value.oneCell']
theorem mkInt_wrap (n : Nat) (hn : n ≤ 100000000) : wrap64 (-1000 - (n : Int)) = -1000 - (n : Int) := by unfold wrap64; omega
theorem markInt_any (w : World) (n : Nat) (hn : n ≤ 100000000) : Calls Tryz.prog 80 #[.int .i64 (n : Int)] w fun e w' => e = .returned (.int .i64 (-1000 - (n : Int))) ∧ Below w.heap.size w w' := by
  have hw := mkInt_wrap n hn
  go_enter Tryz.func80, Tryz.ntmps80
  go_wp2_with fail
  go_ret
  exact ⟨rfl, Below.refl _ _⟩
theorem isInt_any (w : World) (k : Nat) (hn : k ≤ 100000000) : Calls Tryz.prog 96 #[.int .i64 (-1000 - (k : Int)), .int .i64 (k : Int)] w fun e w' => e = .returned (.bool true) ∧ Below w.heap.size w w' := by
  have hw := mkInt_wrap k hn
  go_enter Tryz.func96, Tryz.ntmps96
  go_wp2_with fail
  go_ret
  exact ⟨rfl, Below.refl _ _⟩
end Go.Proofs.YtdepmjgibenejaaGreatDoor
