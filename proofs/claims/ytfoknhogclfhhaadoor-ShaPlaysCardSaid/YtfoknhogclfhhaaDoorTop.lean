/- What a law's frame needs: the table out of the row's list, bytes out of a reading, a world for the witness. -/
import Derived.Test.YtfoknhogclfhhaaDoorCards
import Derived.Test.YtfoknhogclfhhaaDoorTie
import Derived.WalkKit
import Derived.ProofKit
import Derived.OpenShut
import Derived.Deep.DeepHandedRow
import Derived.Lib.LaidTab
import Derived.Below
import Derived.Test.YtfoknhogclfhhaaDoorNone
namespace Go.Proofs.YtfoknhogclfhhaaDoor
open Go.ChangeShapes Go.WideShapes Go.ChangeAt Go.RowKit
theorem own : ownKnob Tryd.prog.godebug = none := by kernel_rfl
theorem laidOut : laidOutB Tryd.prog = true := by kernel_rfl
theorem gTab : Tryd.prog.globalNamed "cartulary/sha.table" = some 0 := by kernel_rfl
theorem gTabType : (Tryd.prog.globals[0]?).map (·.type) = some 65 := by kernel_rfl
theorem cellsTab : Tryd.prog.cellsOf 65 = 64 := by kernel_rfl
theorem cellsU32 : Tryd.prog.cellsOf 60 = 1 := by kernel_rfl
theorem cellsU8 : Tryd.prog.cellsOf 5 = 1 := by kernel_rfl
theorem underU8 : Tryd.prog.underlying 5 = some (.int .u8) := by kernel_rfl
theorem underU32 : Tryd.prog.underlying 60 = some (.int .u32) := by kernel_rfl
theorem tab_of_is {W : World} (h : Lib.TabIs Tryd.prog W "cartulary/sha.table" .u32 ktab) : Tab W := fun t ht => h.cell gTab t (by rw [show ktab.length = 64 from rfl]; exact ht)
theorem tab_lt {W : World} (h : Tab W) : 0 < W.heap.size := block_lt_of_cell (h 0 (by decide))
/-- a reading of bytes -/
theorem src_of_trod {H : Type} {enc : TypeId × Value → H} {W : World} {fuel : Nat} {a : Option Addr} {len cap : Nat} {x : DataW H × List MemPlace}
    (h : DataW.trod enc Tryd.prog W 0 (fun _ => true) true fuel 30 (Value.slice a len cap).cells.toList = some x) :
    ∃ l : List UInt8, l.length = len ∧ Src W (.slice a len cap) l := by
  rcases open_ints underB underU8 cellsU8 h with ⟨hcs, _⟩ | ⟨y, l, c, zs, hcs, _, hl, hm, hz, _, hcell, hwz⟩
  · simp [Value.cells] at hcs
    obtain ⟨rfl, rfl, rfl⟩ := hcs
    exact ⟨[], rfl, none, 0, rfl, Nat.le_refl _, by simp [maxLen], fun _ => rfl, fun h => absurd rfl h⟩
  · simp [Value.cells] at hcs
    obtain ⟨rfl, rfl, rfl⟩ := hcs
    have hz : zs.length = cap := by simpa using hz
    have hlen : ((zs.take len).map fun z => UInt8.ofNat z.toNat).length = len := by simp; omega
    refine ⟨(zs.take len).map fun z => UInt8.ofNat z.toNat, hlen, some y, cap, by rw [hlen], by rw [hlen]; exact hl, hm, (fun h => by cases h), fun hne => ?_⟩
    have hpos : 0 < len := by rw [← hlen]; exact List.length_pos_iff.2 hne
    have c0 := hcell 0 (by omega)
    rw [show y.add 0 = y from rfl] at c0
    obtain ⟨B, off, sp⟩ := y
    have hsp : sp = none := by
      unfold World.cell? at c0
      split at c0
      · cases sp with
        | none => rfl
        | some _ => simp at c0
      · cases c0
    subst hsp
    refine ⟨B, off, rfl, block_lt_of_cell c0, fun i hi => ?_⟩
    rw [hlen] at hi
    have ci := hcell i (by omega)
    have hadd : (⟨B, off, none⟩ : Addr).add i = ⟨B, off + i, none⟩ := by unfold Addr.add; split <;> simp_all
    rw [hadd] at ci
    rw [ci]
    have hgd : zs.getD i 0 = zs[i]'(by omega) := by simp [List.getD, List.getElem?_eq_getElem (show i < zs.length by omega)]
    rw [hgd]
    have hw := hwz (zs[i]'(by omega)) (List.getElem_mem _)
    have hb : 0 ≤ zs[i]'(by omega) ∧ zs[i]'(by omega) ≤ 255 := by simpa [Lit.wf, IntKind.min, IntKind.max, IntKind.signed, IntKind.bits] using hw
    rw [List.getElem_map, List.getElem_take]
    unfold bcell
    congr 2
    simp
    omega
/-- A world for the witness: the settled one, the table holding what its initialiser lays. -/
noncomputable def laidWorld (os : Os) : World :=
  { World.holding Tryd.prog os ⟨#[], #[], []⟩ with heap := (World.holding Tryd.prog os ⟨#[], #[], []⟩).heap.modify 0 fun
      | .cells _ t frozen => .cells (vals ktab) t frozen
      | o => o }
end Go.Proofs.YtfoknhogclfhhaaDoor
