/- Whole numbers that came in, with the bound that the form's own reach gives. -/
import Derived.Test.YtfoknhogclfhhaaDoorTopB
import Derived.Test.YtfoknhogclfhhaaDoorCuts
namespace Go.Proofs.YtfoknhogclfhhaaDoor
set_option maxRecDepth 100000
open Go.ChangeShapes Go.WideShapes Go.ChangeAt Go.RowKit
theorem bytesInt : Tryd.prog.bytesOf 3 = 8 := by kernel_rfl
theorem underInt : Tryd.prog.underlying 3 = some (.int .i64) := by kernel_rfl
theorem underInts : Tryd.prog.underlying 44 = some (.slice 3) := by kernel_rfl
theorem cellsInt : Tryd.prog.cellsOf 3 = 1 := by kernel_rfl
theorem intsz_of_trod {H : Type} {enc : TypeId × Value → H} {W : World} {fuel : Nat} {a : Option Addr} {len cap : Nat} {x : DataW H × List MemPlace}
    (h : DataW.trod enc Tryd.prog W 0 (fun _ => true) true fuel 44 (Value.slice a len cap).cells.toList = some x) :
    ∃ l : List Int, l.length = len ∧ IntsZ W (.slice a len cap) l := by
  rcases open_ints underInts underInt cellsInt h with ⟨hcs, _⟩ | ⟨y, l, c, zs, hcs, _, hl, hm, hz, _, hcell, _⟩
  · simp [Value.cells] at hcs
    obtain ⟨rfl, rfl, rfl⟩ := hcs
    exact ⟨[], rfl, none, 0, rfl, Nat.le_refl _, by simp [maxLen], fun h => absurd rfl h⟩
  · simp [Value.cells] at hcs
    obtain ⟨rfl, rfl, rfl⟩ := hcs
    have hz : zs.length = cap := by simpa using hz
    have hlen : (zs.take len).length = len := by simp; omega
    refine ⟨zs.take len, hlen, some y, cap, by rw [hlen], by rw [hlen]; exact hl, hm, fun hne => ?_⟩
    have hpos : 0 < len := by rw [← hlen]; exact List.length_pos_iff.2 hne
    have c0 := hcell 0 (by omega)
    rw [show y.add 0 = y from rfl] at c0
    obtain ⟨B, off, sp⟩ := y
    have hsp : sp = none := by
      unfold World.cell? at c0
      split at c0
      · cases sp with
        | none => rfl
        | some _ => simp at c0
      · cases c0
    subst hsp
    refine ⟨B, off, rfl, block_lt_of_cell c0, fun i hi => ?_⟩
    rw [hlen] at hi
    have ci := hcell i (by omega)
    have hadd : (⟨B, off, none⟩ : Addr).add i = ⟨B, off + i, none⟩ := by unfold Addr.add; split <;> simp_all
    rw [hadd] at ci
    rw [ci]
    have hgd : zs.getD i 0 = zs[i]'(by omega) := by simp [List.getD, List.getElem?_eq_getElem (show i < zs.length by omega)]
    rw [hgd, List.getElem_take]
theorem intsz_sized {H : Type} {enc : TypeId × Value → H} {W : World} {base : Nat} {v : Value} {d : DataW H} {p : List MemPlace} {ts : List TypeId} {ds : List (DataW H)} {j : Nat} (hv' : Value.okWide Tryd.prog W .any base 44 v)
    (h : DataW.Trod enc Tryd.prog W 0 (fun _ => true) true 44 v d p) (hsz : (DataW.weightsEach Tryd.prog ts ds).all (· ≤ reachBytes) = true) (hj : ts[j]? = some 44) (hd : ds[j]? = some d) :
    ∃ l : List Int, IntsZ W v l ∧ l.length ≤ 140737488351232 := by
  obtain ⟨a, len, cap, rfl⟩ := okWide_slice underInts hv'
  obtain ⟨fuel, hf⟩ := h
  obtain ⟨l, hl, hS⟩ := intsz_of_trod hf
  refine ⟨l, hS, ?_⟩
  rw [hl]
  rcases open_ints underInts underInt cellsInt hf with ⟨hcs, _⟩ | ⟨y, l', c, zs, hcs, _, hl', hm, hz, hx, _, _⟩
  · simp [Value.cells] at hcs
    omega
  · simp [Value.cells] at hcs
    obtain ⟨rfl, rfl, rfl⟩ := hcs
    simp only [Prod.mk.injEq] at hx
    obtain ⟨rfl, _⟩ := hx
    have := sized_slice hsz hj hd underInts
    rw [bytesInt] at this
    have hz' : zs.length = cap := by simpa using hz
    have e1 : (lits (H := H) .i64 (zs.take len)).length = len := by simp [lits]; omega
    rw [e1] at this
    unfold reachBytes at this
    omega
end Go.Proofs.YtfoknhogclfhhaaDoor
