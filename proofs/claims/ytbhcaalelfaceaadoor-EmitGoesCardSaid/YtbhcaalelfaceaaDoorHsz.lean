/- A slice of hashes that came in, with the bound that the form's own reach gives. -/
import Derived.Test.YtbhcaalelfaceaaDoorOHss
import Derived.SizedLaws
namespace Go.Proofs.YtbhcaalelfaceaaDoor
set_option maxRecDepth 100000
open Go.ChangeShapes Go.WideShapes Go.ChangeAt Go.RowKit
theorem bytesHs : Tryd.prog.bytesOf 33 = 32 := by kernel_rfl
theorem hss_sized {H : Type} {enc : TypeId × Value → H} {W : World} {base : Nat} {v : Value} {d : DataW H} {p : List MemPlace} {ts : List TypeId} {ds : List (DataW H)} {j : Nat} (hv' : Value.okWide Tryd.prog W .any base 22 v)
    (h : DataW.Trod enc Tryd.prog W 0 (fun _ => true) true 22 v d p) (hsz : (DataW.weightsEach Tryd.prog ts ds).all (· ≤ reachBytes) = true) (hj : ts[j]? = some 22) (hd : ds[j]? = some d) :
    ∃ ad n cap hs, v = .slice ad n cap ∧ Hss W (.slice ad n cap) hs ∧ n ≤ 140737488351232 := by
  obtain ⟨ad, n, cap, hs, rfl, hH⟩ := hss_of hv' h
  refine ⟨ad, n, cap, hs, rfl, hH, ?_⟩
  obtain ⟨fuel, hf⟩ := h
  rcases Deep.open_slice underHs hf with ⟨hcs, _⟩ | ⟨y, l, c, m, n', D, Pl, hcs, _, hl, hm, hmm, hx, hel⟩
  · simp [Value.cells] at hcs
    omega
  · simp [Value.cells] at hcs
    obtain ⟨rfl, rfl, rfl⟩ := hcs
    simp only [Prod.mk.injEq] at hx
    obtain ⟨rfl, _⟩ := hx
    have := sized_slice hsz hj hd underHs
    rw [bytesHs, List.length_map, List.length_range] at this
    unfold reachBytes at this
    omega
end Go.Proofs.YtbhcaalelfaceaaDoor
