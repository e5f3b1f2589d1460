/- A node's hash, in plain words. -/
import Derived.Test.YtbhcaalelfaceaaGreatDoorG5
namespace Go.Proofs.YtbhcaalelfaceaaGreatDoor
/-- a node's hash -/
def nd (a b : List UInt8) : List UInt8 := sha (1 :: (a ++ b))
theorem nd_length (a b : List UInt8) : (nd a b).length = 32 := sha_length _
end Go.Proofs.YtbhcaalelfaceaaGreatDoor
