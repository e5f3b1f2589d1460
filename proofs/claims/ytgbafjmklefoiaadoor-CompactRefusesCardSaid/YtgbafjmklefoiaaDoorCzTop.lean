/- What the frame of CompactRefuses needs: tables and errors out of a row's list. -/
import Derived.Test.YtgbafjmklefoiaaDoorCpTop
import Derived.Test.YtgbafjmklefoiaaDoorCpS
namespace Go.Proofs.YtgbafjmklefoiaaDoor
set_option maxRecDepth 100000
open Go.ChangeShapes Go.WideShapes Go.ChangeAt Go.RowKit
theorem cz_of {W : World} (h : laidMet Tryd.prog (("math/bits.deBruijn64tab", Rows.laid_math_bits_deBruijn64tab) :: (errLaid ++ [("cartulary/sha.table", Rows.laid_cartulary_sha_table)])) W) (hh : handlesMet Tryd.prog [("errors.errorType", Rows.laid_errors_errorType)] W) : ∃ A, Cz A W := by
  obtain ⟨A, hS⟩ := hs_of (laid_drop 1 h) hh
  obtain ⟨hz, hg⟩ := tabzc_of h
  exact ⟨A, ⟨hS, hz, hg⟩⟩
end Go.Proofs.YtgbafjmklefoiaaDoor
