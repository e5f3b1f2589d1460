/- What the laws' frames of chapter 06 need: the table out of the row's list, trees and stretches out of a reading, a world for the witness. -/
import Derived.Test.YtifnmidecjmmnaaGreatDoorCards
import Derived.Test.YtifnmidecjmmnaaGreatDoorTie
import Derived.WalkKit
import Derived.ProofKit
import Derived.OpenShut
import Derived.LaidMore
import Derived.Deep.DeepHandedRow
import Derived.Lib.LaidTab
import Derived.Lib.SmallJoins
import Derived.Below
import Derived.Test.YtifnmidecjmmnaaGreatDoorCoH
namespace Go.Proofs.YtifnmidecjmmnaaGreatDoor
open Go.ChangeShapes Go.WideShapes Go.ChangeAt Go.RowKit Go.Joins
theorem own : ownKnob Tryz.prog.godebug = none := by kernel_rfl
theorem laidOut : laidOutB Tryz.prog = true := by kernel_rfl
theorem gTab : Tryz.prog.globalNamed "math/bits.deBruijn64tab" = some 1 := by kernel_rfl
theorem gTabType : (Tryz.prog.globals[1]?).map (·.type) = some 72 := by kernel_rfl
theorem cellsTab : Tryz.prog.cellsOf 72 = 64 := by kernel_rfl
theorem cellsU8 : Tryz.prog.cellsOf 5 = 1 := by kernel_rfl
theorem underU8 : Tryz.prog.underlying 5 = some (.int .u8) := by kernel_rfl
theorem underU64 : Tryz.prog.underlying 22 = some (.int .u64) := by kernel_rfl
theorem under64a : Tryz.prog.underlying 72 = some (.array 64 5) := by kernel_rfl
theorem cellsC : Tryz.prog.cellsOf 59 = 2 := by kernel_rfl
theorem cellsS : Tryz.prog.cellsOf 24 = 2 := by kernel_rfl
def dtab : List Int := Lib.deBruijn64tab.map fun (n : Nat) => (n : Int)
theorem tabz_of_is {W : World} (h : Lib.TabIs Tryz.prog W "math/bits.deBruijn64tab" .u8 dtab) : TabZ W := fun t ht => by
  have := h.cell gTab t (by unfold dtab; rw [List.length_map]; exact ht)
  rw [this]
  unfold dtab
  simp [List.getD, List.getElem?_map, List.getElem?_eq_getElem ht]
theorem tabz_lt {W : World} (h : TabZ W) : 1 < W.heap.size := block_lt_of_cell (h 0 (by decide))
theorem seed_of {W : World} (h : TabZ W) : Seed W W := ⟨Below.refl _ _, h, tabz_lt h⟩
set_option maxRecDepth 100000 in
/-- a tree that came in -/
theorem cv_of {H : Type} {enc : TypeId × Value → H} {W : World} {base : Nat} {v : Value} {d : DataW H} {p : List MemPlace} (hv : Value.okWide Tryz.prog W .any base 59 v)
    (h : DataW.Trod enc Tryz.prog W 0 (fun _ => true) true 59 v d p) : ∃ L I : Nat, v = cv L I ∧ L < 256 ∧ I < 2 ^ 64 := by
  obtain ⟨c0, c1, y0, y1, m, rfl, rfl, rfl, hy0, hy1⟩ := open_agg2 Tryz.underlying59 (by kernel_rfl) cellsC hv h
  obtain ⟨a, e0, _, wa⟩ := DataW.trod_int underU8 hy0
  obtain ⟨b, e1, _, wb⟩ := DataW.trod_int underU64 hy1
  simp at e0 e1
  subst e0 e1
  have ha : 0 ≤ a ∧ a ≤ 255 := by simpa [Lit.wf, IntKind.min, IntKind.max, IntKind.signed, IntKind.bits] using wa
  have hb : 0 ≤ b ∧ b ≤ 18446744073709551615 := by simpa [Lit.wf, IntKind.min, IntKind.max, IntKind.signed, IntKind.bits] using wb
  refine ⟨a.toNat, b.toNat, ?_, by omega, by omega⟩
  unfold cv
  rw [Int.toNat_of_nonneg ha.1, Int.toNat_of_nonneg hb.1]
set_option maxRecDepth 100000 in
theorem sv_of {H : Type} {enc : TypeId × Value → H} {W : World} {base : Nat} {v : Value} {d : DataW H} {p : List MemPlace} (hv : Value.okWide Tryz.prog W .any base 24 v)
    (h : DataW.Trod enc Tryz.prog W 0 (fun _ => true) true 24 v d p) : ∃ L I : Nat, v = sv L I ∧ L < 2 ^ 64 ∧ I < 2 ^ 64 := by
  obtain ⟨c0, c1, y0, y1, m, rfl, rfl, rfl, hy0, hy1⟩ := open_agg2 Tryz.underlying24 (by kernel_rfl) cellsS hv h
  obtain ⟨a, e0, _, wa⟩ := DataW.trod_int underU64 hy0
  obtain ⟨b, e1, _, wb⟩ := DataW.trod_int underU64 hy1
  simp at e0 e1
  subst e0 e1
  have ha : 0 ≤ a ∧ a ≤ 18446744073709551615 := by simpa [Lit.wf, IntKind.min, IntKind.max, IntKind.signed, IntKind.bits] using wa
  have hb : 0 ≤ b ∧ b ≤ 18446744073709551615 := by simpa [Lit.wf, IntKind.min, IntKind.max, IntKind.signed, IntKind.bits] using wb
  refine ⟨a.toNat, b.toNat, ?_, by omega, by omega⟩
  unfold sv
  rw [Int.toNat_of_nonneg ha.1, Int.toNat_of_nonneg hb.1]
end Go.Proofs.YtifnmidecjmmnaaGreatDoor
