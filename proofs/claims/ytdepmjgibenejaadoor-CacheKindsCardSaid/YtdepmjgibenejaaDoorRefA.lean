/- The document's answer, part one: turn, schedule, table, start. What each call does to the world. -/
import Derived.Test.YtdepmjgibenejaaDoorBlk
import Derived.Great.BuildSlice
import Derived.Laws.CopyOwn
namespace Go.Proofs.YtdepmjgibenejaaDoor
set_option maxRecDepth 100000
open Go.RowKit
def zeros64 : Array Value := vals (List.replicate 64 0)
theorem vals_size (l : List Int) : (vals l).size = l.length := by simp [vals]
theorem vals_one (l : List Int) : (vals l).all (·.oneCell') = true := by
  rw [Array.all_eq_true_iff_forall_mem]; intro x hx; simp [vals] at hx; obtain ⟨y, _, rfl⟩ := hx; rfl

def R0 : R8 := ⟨1779033703, 3144134277, 1013904242, 2773480762, 1359893119, 2600822924, 528734635, 1541459225⟩
end Go.Proofs.YtdepmjgibenejaaDoor
