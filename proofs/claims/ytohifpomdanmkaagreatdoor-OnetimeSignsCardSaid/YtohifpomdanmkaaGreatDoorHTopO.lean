/- What the laws' frames over hashes need: the table and the errors out of a row's list; hashes out of a reading. -/
import Derived.Test.YtohifpomdanmkaaGreatDoorCards
import Derived.Test.YtohifpomdanmkaaGreatDoorTie
import Derived.WalkKit
import Derived.ProofKit
import Derived.OpenShut
import Derived.LaidMore
import Derived.Deep.DeepHandedRow
import Derived.Lib.LaidTab
import Derived.Stop.LaidErr
import Derived.Below
import Derived.Test.YtohifpomdanmkaaGreatDoorG5
namespace Go.Proofs.YtohifpomdanmkaaGreatDoor
set_option maxRecDepth 100000
open Go.ChangeShapes Go.WideShapes Go.ChangeAt Go.RowKit
theorem own : ownKnob Tryz.prog.godebug = none := by kernel_rfl
theorem laidOut : laidOutB Tryz.prog = true := by kernel_rfl
theorem gTab : Tryz.prog.globalNamed "cartulary/sha.table" = some 1 := by kernel_rfl
theorem gTabType : (Tryz.prog.globals[1]?).map (·.type) = some 172 := by kernel_rfl
theorem cellsTab : Tryz.prog.cellsOf 172 = 64 := by kernel_rfl
theorem cellsU32 : Tryz.prog.cellsOf 171 = 1 := by kernel_rfl
theorem cellsU8 : Tryz.prog.cellsOf 5 = 1 := by kernel_rfl
theorem cellsH : Tryz.prog.cellsOf 23 = 32 := by kernel_rfl
theorem underU8 : Tryz.prog.underlying 5 = some (.int .u8) := by kernel_rfl
theorem underU32 : Tryz.prog.underlying 171 = some (.int .u32) := by kernel_rfl
theorem tab_of_is {W : World} (h : Lib.TabIs Tryz.prog W "cartulary/sha.table" .u32 ktab) : Tab W := fun t ht => h.cell gTab t (by rw [show ktab.length = 64 from rfl]; exact ht)
theorem tab_lt {W : World} (h : Tab W) : 1 < W.heap.size := block_lt_of_cell (h 0 (by decide))
theorem laid_drop {P : Program} {W : World} : ∀ (n : Nat) {l : List (String × DataW Unit)}, laidMet P l W → laidMet P (l.drop n) W
  | 0, _, h => h
  | _ + 1, [], h => h
  | n + 1, _ :: _, h => laid_drop n h.tail
/-- a hash that came in -/
theorem hash_of {H : Type} {enc : TypeId × Value → H} {W : World} {base : Nat} {v : Value} {d : DataW H} {p : List MemPlace} (hv' : Value.okWide Tryz.prog W .any base 23 v)
    (h : DataW.Trod enc Tryz.prog W 0 (fun _ => true) true 23 v d p) : ∃ l : List UInt8, v = hv l ∧ l.length = 32 := by
  simp only [Value.okWide, underH] at hv'
  obtain ⟨cs, rfl, hsz, _⟩ := hv'
  obtain ⟨fuel, hf⟩ := h
  obtain ⟨xs, m, _, _, _, hl, hel⟩ := DataW.trod_array underH hf
  rw [cellsH] at hsz
  have hcell : ∀ i, (hi : i < cs.size) → ∃ b : UInt8, cs[i] = bcell b := by
    intro i hi
    have hE := hel i (by omega)
    rw [cellsU8, Nat.mul_one, List.getElem?_eq_getElem (by omega)] at hE
    obtain ⟨z, e1, _, wz⟩ := DataW.trod_int underU8 hE
    have hb : 0 ≤ z ∧ z ≤ 255 := by simpa [Lit.wf, IntKind.min, IntKind.max, IntKind.signed, IntKind.bits] using wz
    have h0 : (((Value.agg cs).cells.toList.drop i).take 1)[0]? = some (.int .u8 z) := by rw [e1]; rfl
    refine ⟨UInt8.ofNat z.toNat, ?_⟩
    simp [Value.cells, hi] at h0
    rw [h0]
    unfold bcell
    congr 1
    simp
    omega
  refine ⟨(List.finRange cs.size).map fun i => Classical.choose (hcell i.1 i.2), ?_, by simp [hsz]⟩
  unfold hv
  congr 1
  apply Array.ext
  · simp [bcells]
  · intro i h1 h2
    simp [bcells]
    exact Classical.choose_spec (hcell i h1)
end Go.Proofs.YtohifpomdanmkaaGreatDoor
