/- What the frames of the laws of chapter 09 need: the tables out of a row's list; a slice of hashes that is nil has no room. -/
import Derived.Test.YtgbafjmklefoiaaDoorT1

import Derived.Test.YtgbafjmklefoiaaDoorK2
namespace Go.Proofs.YtgbafjmklefoiaaDoor
set_option maxRecDepth 100000
open Go.ChangeShapes Go.WideShapes Go.ChangeAt Go.RowKit
theorem gTabZc : Tryd.prog.globalNamed "math/bits.deBruijn64tab" = some 4 := by kernel_rfl
theorem gTabZcType : (Tryd.prog.globals[4]?).map (·.type) = some 79 := by kernel_rfl
theorem cellsTabZc : Tryd.prog.cellsOf 79 = 64 := by kernel_rfl
theorem under64zc : Tryd.prog.underlying 79 = some (.array 64 5) := by kernel_rfl
def dtabZc : List Int := Lib.deBruijn64tab.map fun (n : Nat) => (n : Int)
theorem tabz_of_isZc {W : World} (h : Lib.TabIs Tryd.prog W "math/bits.deBruijn64tab" .u8 dtabZc) : TabZ W := fun t ht => by
  have := h.cell gTabZc t (by unfold dtabZc; rw [List.length_map]; exact ht)
  rw [this]
  unfold dtabZc
  simp [List.getD, List.getElem?_map, List.getElem?_eq_getElem ht]
theorem tabzc_of {W : World} {rest : List (String × DataW Unit)} (h : laidMet Tryd.prog (("math/bits.deBruijn64tab", Rows.laid_math_bits_deBruijn64tab) :: rest) W) : TabZ W ∧ 4 < W.heap.size := by
  have hz := tabz_of_isZc (Lib.tabIs_of_head (rest := rest) gTabZc gTabZcType under64zc underU8 cellsU8 cellsTabZc h)
  exact ⟨hz, block_lt_of_cell (hz 0 (by decide))⟩
theorem tabsc_of {W : World} (h : laidMet Tryd.prog [("cartulary/sha.table", Rows.laid_cartulary_sha_table)] W) : TabS W := by
  have ht := tab_of_is (Lib.tabIs_of_head (rest := []) gTab gTabType under64 underU32 cellsU32 cellsTab h)
  exact ⟨ht, tab_lt ht⟩
theorem hss_nilC {H : Type} {enc : TypeId × Value → H} {W : World} {base : Nat} {v : Value} {d : DataW H} {p : List MemPlace} (hv' : Value.okWide Tryd.prog W .any base 22 v)
    (h : DataW.Trod enc Tryd.prog W 0 (fun _ => true) true 22 v d p) : ∃ ad n cap hs, v = .slice ad n cap ∧ Hss W (.slice ad n cap) hs ∧ (ad = none → cap = 0) := by
  obtain ⟨ad, n, cap, hs, rfl, hH⟩ := hss_of hv' h
  refine ⟨ad, n, cap, hs, rfl, hH, fun e => ?_⟩
  subst e
  obtain ⟨fuel, hf⟩ := h
  rcases Deep.open_slice underHs hf with ⟨hcs, _⟩ | ⟨y, l, c, m, n', D, Pl, hcs, _, hl, hm, hmm, hx, hel⟩
  · simp [Value.cells] at hcs
    omega
  · simp [Value.cells] at hcs
end Go.Proofs.YtgbafjmklefoiaaDoor
