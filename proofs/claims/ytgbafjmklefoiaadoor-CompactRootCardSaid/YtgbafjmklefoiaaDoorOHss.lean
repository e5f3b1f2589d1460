/- A slice of hashes that came in. -/
import Derived.Test.YtgbafjmklefoiaaDoorHTop
import Derived.Test.YtgbafjmklefoiaaDoorVh
namespace Go.Proofs.YtgbafjmklefoiaaDoor
set_option maxRecDepth 100000
open Go.ChangeShapes Go.WideShapes Go.ChangeAt Go.RowKit
theorem hss_of {H : Type} {enc : TypeId × Value → H} {W : World} {base : Nat} {v : Value} {d : DataW H} {p : List MemPlace} (hv' : Value.okWide Tryd.prog W .any base 22 v)
    (h : DataW.Trod enc Tryd.prog W 0 (fun _ => true) true 22 v d p) : ∃ ad n cap hs, v = .slice ad n cap ∧ Hss W (.slice ad n cap) hs := by
  obtain ⟨a, len, cap, rfl⟩ := okWide_slice Tryd.underlying22 hv'
  obtain ⟨fuel, hf⟩ := h
  obtain ⟨v, hs, e4, hss⟩ := hss_of_trod hf
  have e : v = .slice a len cap := by simpa [Value.cells] using e4.symm
  subst e
  exact ⟨a, len, cap, hs, rfl, hss⟩
end Go.Proofs.YtgbafjmklefoiaaDoor
