/- What the frames of the laws of chapter 13 need. -/
import Derived.Test.YtdepmjgibenejaaGreatDoorCards
import Derived.Test.YtdepmjgibenejaaGreatDoorTie
import Derived.WalkKit
import Derived.ProofKit
import Derived.OpenShut
import Derived.LaidMore
import Derived.Deep.DeepHandedRow
import Derived.Lib.LaidTab
import Derived.Below
namespace Go.Proofs.YtdepmjgibenejaaGreatDoor
theorem own : ownKnob Tryz.prog.godebug = none := by kernel_rfl
theorem laidOut : laidOutB Tryz.prog = true := by kernel_rfl
end Go.Proofs.YtdepmjgibenejaaGreatDoor
