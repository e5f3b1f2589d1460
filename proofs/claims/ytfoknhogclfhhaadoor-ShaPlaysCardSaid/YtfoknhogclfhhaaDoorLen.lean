/- (*sha.Digest).Len. -/
import Derived.Test.YtfoknhogclfhhaaDoorCopy
namespace Go.Proofs.YtfoknhogclfhhaaDoor
set_option maxRecDepth 100000
open Go.RowKit
theorem dlen_any (base : Nat) (w : World) (p H : Nat) (rv : Value) (m : List UInt8) (hD : Dig base w p H rv m) :
    Calls Tryd.prog 19 #[.pointer (some ⟨p, 0, none⟩)] w fun e w' => e = .returned (.int .u64 (m.length : Int)) ∧ w = w' := by
  have c2 := cell_at hD.hp 2 _ rfl
  clear hD
  go_enter Tryd.func19, Tryd.ntmps19
  go_wp2
  go_ret
  exact ⟨rfl, rfl⟩
end Go.Proofs.YtfoknhogclfhhaaDoor
