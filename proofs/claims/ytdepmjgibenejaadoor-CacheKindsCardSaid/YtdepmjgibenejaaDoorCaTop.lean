/- What the frames of the laws of chapter 13 need. -/
import Derived.Test.YtdepmjgibenejaaDoorCards
import Derived.Test.YtdepmjgibenejaaDoorTie
import Derived.WalkKit
import Derived.ProofKit
import Derived.OpenShut
import Derived.LaidMore
import Derived.Deep.DeepHandedRow
import Derived.Lib.LaidTab
import Derived.Below
namespace Go.Proofs.YtdepmjgibenejaaDoor
theorem own : ownKnob Tryd.prog.godebug = none := by kernel_rfl
theorem laidOut : laidOutB Tryd.prog = true := by kernel_rfl
end Go.Proofs.YtdepmjgibenejaaDoor
