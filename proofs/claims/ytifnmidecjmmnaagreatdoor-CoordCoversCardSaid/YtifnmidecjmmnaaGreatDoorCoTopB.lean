/- A number that came in. -/
import Derived.Test.YtifnmidecjmmnaaGreatDoorCoTop
namespace Go.Proofs.YtifnmidecjmmnaaGreatDoor
open Go.ChangeShapes Go.WideShapes Go.ChangeAt Go.RowKit Go.Joins
set_option maxRecDepth 100000 in
theorem nv_of {H : Type} {enc : TypeId × Value → H} {W : World} {base : Nat} {v : Value} {d : DataW H} {p : List MemPlace} (hv : Value.okWide Tryz.prog W .any base 22 v)
    (h : DataW.Trod enc Tryz.prog W 0 (fun _ => true) true 22 v d p) : ∃ L : Nat, v = .int .u64 (L : Int) ∧ L < 2 ^ 64 := by
  obtain ⟨b, rfl, _, _, wb⟩ := open_int underU64 hv h
  have hb : 0 ≤ b ∧ b ≤ 18446744073709551615 := by simpa [Lit.wf, IntKind.min, IntKind.max, IntKind.signed, IntKind.bits] using wb
  exact ⟨b.toNat, by rw [Int.toNat_of_nonneg hb.1], by omega⟩
end Go.Proofs.YtifnmidecjmmnaaGreatDoor
