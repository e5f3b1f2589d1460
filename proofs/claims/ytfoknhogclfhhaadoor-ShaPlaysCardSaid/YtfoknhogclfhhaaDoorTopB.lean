/- Bytes that came in, with the bound that the form's own reach gives. -/
import Derived.Test.YtfoknhogclfhhaaDoorTop
import Derived.SizedLaws
import Derived.LaidMore
namespace Go.Proofs.YtfoknhogclfhhaaDoor
set_option maxRecDepth 100000
open Go.ChangeShapes Go.WideShapes Go.ChangeAt Go.RowKit
theorem bytesU8 : Tryd.prog.bytesOf 5 = 1 := by kernel_rfl
theorem src_sized {H : Type} {enc : TypeId × Value → H} {W : World} {base : Nat} {v : Value} {d : DataW H} {p : List MemPlace} {ts : List TypeId} {ds : List (DataW H)} {j : Nat} (hv' : Value.okWide Tryd.prog W .any base 30 v)
    (h : DataW.Trod enc Tryd.prog W 0 (fun _ => true) true 30 v d p) (hsz : (DataW.weightsEach Tryd.prog ts ds).all (· ≤ reachBytes) = true) (hj : ts[j]? = some 30) (hd : ds[j]? = some d) :
    ∃ l : List UInt8, Src W v l ∧ l.length ≤ 140737488351232 := by
  obtain ⟨a, len, cap, rfl⟩ := okWide_slice underB hv'
  obtain ⟨fuel, hf⟩ := h
  obtain ⟨l, hl, hS⟩ := src_of_trod hf
  refine ⟨l, hS, ?_⟩
  rw [hl]
  rcases open_ints underB underU8 cellsU8 hf with ⟨hcs, _⟩ | ⟨y, l', c, zs, hcs, _, hl', hm, hz, hx, _, _⟩
  · simp [Value.cells] at hcs
    omega
  · simp [Value.cells] at hcs
    obtain ⟨rfl, rfl, rfl⟩ := hcs
    simp only [Prod.mk.injEq] at hx
    obtain ⟨rfl, _⟩ := hx
    have := sized_slice hsz hj hd underB
    rw [bytesU8] at this
    have hz' : zs.length = cap := by simpa using hz
    have e1 : (lits (H := H) .u8 (zs.take len)).length = len := by simp [lits]; omega
    rw [e1] at this
    unfold reachBytes at this
    omega
end Go.Proofs.YtfoknhogclfhhaaDoor
