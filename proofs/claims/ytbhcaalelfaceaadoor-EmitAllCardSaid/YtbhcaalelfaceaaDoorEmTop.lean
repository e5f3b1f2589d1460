/- What the frames of the laws of chapter 10 need: the tables and the errors out of a row's list. -/
import Derived.Test.YtbhcaalelfaceaaDoorHTop
import Derived.Test.YtbhcaalelfaceaaDoorOHss
import Derived.Test.YtbhcaalelfaceaaDoorEmH
namespace Go.Proofs.YtbhcaalelfaceaaDoor
set_option maxRecDepth 100000
open Go.ChangeShapes Go.WideShapes Go.ChangeAt Go.RowKit
theorem gTabZ : Tryd.prog.globalNamed "math/bits.deBruijn64tab" = some 4 := by kernel_rfl
theorem gTabZType : (Tryd.prog.globals[4]?).map (·.type) = some 74 := by kernel_rfl
theorem cellsTabZ : Tryd.prog.cellsOf 74 = 64 := by kernel_rfl
theorem under64z : Tryd.prog.underlying 74 = some (.array 64 5) := by kernel_rfl
def dtabZ : List Int := Lib.deBruijn64tab.map fun (n : Nat) => (n : Int)
theorem tabz_of_isZ {W : World} (h : Lib.TabIs Tryd.prog W "math/bits.deBruijn64tab" .u8 dtabZ) : TabZ W := fun t ht => by
  have := h.cell gTabZ t (by unfold dtabZ; rw [List.length_map]; exact ht)
  rw [this]
  unfold dtabZ
  simp [List.getD, List.getElem?_map, List.getElem?_eq_getElem ht]
theorem em_of {W : World} {l : List (String × DataW Unit)} (h : laidMet Tryd.prog (("math/bits.deBruijn64tab", Rows.laid_math_bits_deBruijn64tab) :: (errLaid ++ [("cartulary/sha.table", Rows.laid_cartulary_sha_table)])) W) (hh : handlesMet Tryd.prog (("errors.errorType", Rows.laid_errors_errorType) :: l) W) : ∃ A, Em A W := by
  obtain ⟨A, hS⟩ := hs_of (laid_drop 1 h) hh
  have hz := tabz_of_isZ (Lib.tabIs_of_head (rest := errLaid ++ [("cartulary/sha.table", Rows.laid_cartulary_sha_table)]) gTabZ gTabZType under64z underU8 cellsU8 cellsTabZ h)
  exact ⟨A, ⟨hS, hz, block_lt_of_cell (hz 0 (by decide))⟩⟩
end Go.Proofs.YtbhcaalelfaceaaDoor
