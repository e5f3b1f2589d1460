/- Slices of hashes: what reads as a list of hashes. -/
import Derived.Test.YtbhcaalelfaceaaGreatDoorG5
import Derived.Deep.MidRow
import Derived.Deep.Slices
import Derived.OpenShut
import Derived.Below
namespace Go.Proofs.YtbhcaalelfaceaaGreatDoor
set_option maxRecDepth 100000
open Go.RowKit
theorem underHs : Tryz.prog.underlying 51 = some (.slice 66) := by kernel_rfl
theorem vcellsH : Tryz.prog.cellsOf 66 = 32 := by kernel_rfl
theorem vcellsU8 : Tryz.prog.cellsOf 5 = 1 := by kernel_rfl
theorem vunderU8 : Tryz.prog.underlying 5 = some (.int .u8) := by kernel_rfl
/-- a value that reads as hashes -/
def Hss (w : World) (v : Value) (hs : List (List UInt8)) : Prop :=
  (∀ h ∈ hs, h.length = 32) ∧ ∃ (a : Option Addr) (cap : Nat), v = .slice a hs.length cap ∧ hs.length ≤ cap ∧ cap ≤ maxLen ∧
    (hs ≠ [] → ∃ B off, a = some ⟨B, off, none⟩ ∧ B < w.heap.size ∧ ∀ i, (h : i < hs.length) → w.rangeAt B (off + i * 32) (bcells hs[i]))
theorem rangeAt_below {w w' : World} {B o : Nat} {cs : List Value} (h : w.rangeAt B o cs) (hB : B < w.heap.size) (k : Below w.heap.size w w') : w'.rangeAt B o cs := fun j v hv =>
  (k.cell (p := ⟨B, o + j, none⟩) hB).trans (h j v hv)
theorem Hss.below {w w' : World} {v : Value} {hs : List (List UInt8)} (h : Hss w v hs) (k : Below w.heap.size w w') : Hss w' v hs := by
  obtain ⟨h0, a, cap, h1, h2, h3, h4⟩ := h
  refine ⟨h0, a, cap, h1, h2, h3, fun hne => ?_⟩
  obtain ⟨B, off, e1, e2, e3⟩ := h4 hne
  exact ⟨B, off, e1, Nat.lt_of_lt_of_le e2 k.size, fun i hi => rangeAt_below (e3 i hi) e2 k⟩
theorem Hss.len {w : World} {v : Value} {hs : List (List UInt8)} (h : Hss w v hs) : ∃ a cap, v = .slice a hs.length cap ∧ hs.length ≤ cap ∧ cap ≤ 9223372036854775807 := by
  obtain ⟨_, a, cap, h1, h2, h3, _⟩ := h
  exact ⟨a, cap, h1, h2, by unfold maxLen at h3; omega⟩
/-- one hash of such a slice, as the walk meets it -/
theorem Hss.at {w : World} {a : Option Addr} {n cap : Nat} {hs : List (List UInt8)} (h : Hss w (.slice a n cap) hs) (i : Nat) (hi : i < hs.length) :
    n = hs.length ∧ hs.length ≤ cap ∧ cap ≤ 9223372036854775807 ∧ ∃ B off, a = some ⟨B, off, none⟩ ∧ B < w.heap.size ∧ w.rangeAt B (off + i * 32) (bcells hs[i]) ∧ hs[i].length = 32 := by
  obtain ⟨h0, a', cap', h1, h2, h3, h4⟩ := h
  cases h1
  have hne : hs ≠ [] := fun e => by subst e; simp at hi
  obtain ⟨B, off, e1, e2, e3⟩ := h4 hne
  exact ⟨rfl, h2, by unfold maxLen at h3; omega, B, off, e1, e2, e3 i hi, h0 _ (List.getElem_mem hi)⟩
/-- hashes without the last ones -/
theorem Hss.take {w : World} {a : Option Addr} {n cap : Nat} {hs : List (List UInt8)} (h : Hss w (.slice a n cap) hs) (k : Nat) (hk : k ≤ hs.length) : Hss w (.slice a k cap) (hs.take k) := by
  obtain ⟨h0, a', cap', h1, h2, h3, h4⟩ := h
  cases h1
  have hl : (hs.take k).length = k := by simp; omega
  refine ⟨fun x hx => h0 x (List.mem_of_mem_take hx), a, cap, by rw [hl], by omega, h3, fun hne => ?_⟩
  obtain ⟨B, off, e1, e2, e3⟩ := h4 (fun e => hne (by rw [e]; simp))
  refine ⟨B, off, e1, e2, fun i hi => ?_⟩
  rw [List.getElem_take]
  exact e3 i (by omega)
/-- the cells of one hash, out of a reading -/
theorem hash_cells {H : Type} {enc : TypeId × Value → H} {W : World} {base n : Nat} {spare : Nat → Bool} {held : Bool} {cs : List Value} {x : DataW H × List MemPlace}
    (hf : DataW.trod enc Tryz.prog W base spare held n 66 cs = some x) : ∃ l : List UInt8, l.length = 32 ∧ cs = bcells l := by
  obtain ⟨xs, m, _, _, hlen, hl, hel⟩ := DataW.trod_array underH hf
  rw [vcellsH] at hlen
  have hcell : ∀ i, (hi : i < cs.length) → ∃ b : UInt8, cs[i] = bcell b := by
    intro i hi
    have hE := hel i (by omega)
    rw [vcellsU8, Nat.mul_one, List.getElem?_eq_getElem (by omega)] at hE
    obtain ⟨z, e1, _, wz⟩ := DataW.trod_int vunderU8 hE
    have hb : 0 ≤ z ∧ z ≤ 255 := by simpa [Lit.wf, IntKind.min, IntKind.max, IntKind.signed, IntKind.bits] using wz
    have h0 : ((cs.drop i).take 1)[0]? = some (.int .u8 z) := by rw [e1]; rfl
    refine ⟨UInt8.ofNat z.toNat, ?_⟩
    simp [hi] at h0
    rw [h0]
    unfold bcell
    congr 1
    simp
    omega
  refine ⟨(List.finRange cs.length).map fun i => Classical.choose (hcell i.1 i.2), by simp [hlen], ?_⟩
  apply List.ext_getElem
  · simp [bcells]
  · intro i h1 h2
    simp [bcells]
    exact Classical.choose_spec (hcell i h1)
/-- hashes that came in -/
theorem hss_of_trod {H : Type} {enc : TypeId × Value → H} {W : World} {fuel : Nat} {cs : List Value} {x : DataW H × List MemPlace}
    (h : DataW.trod enc Tryz.prog W 0 (fun _ => true) true fuel 51 cs = some x) : ∃ v hs, cs = [v] ∧ Hss W v hs := by
  rcases Deep.open_slice underHs h with ⟨hcs, _⟩ | ⟨y, l, c, m, n, D, Pl, hcs, _, hl, hm, hmm, _, hel⟩
  · exact ⟨_, [], hcs, ⟨fun x hx => (by cases hx), none, 0, rfl, Nat.le_refl _, by unfold maxLen; decide, fun h => absurd rfl h⟩⟩
  · have hmc : m = c := by simpa using hmm
    subst hmc
    rw [vcellsH] at hel
    have key : ∀ i, i < l → ∃ u : List UInt8, u.length = 32 ∧ W.cells? 0 (y.add (i * 32)) 32 = some (bcells u) := fun i hi => by
      obtain ⟨cs', h1, h2⟩ := hel i (by omega)
      obtain ⟨u, hu, rfl⟩ := hash_cells h2
      exact ⟨u, hu, h1⟩
    refine ⟨_, (List.finRange l).map fun i => Classical.choose (key i.1 i.2), hcs, ⟨fun x hx => ?_, some y, m, by simp, by simpa using hl, hm, fun hne => ?_⟩⟩
    · obtain ⟨i, _, rfl⟩ := List.mem_map.1 hx
      exact (Classical.choose_spec (key i.1 i.2)).1
    · have hpos : 0 < l := by
        rcases Nat.eq_zero_or_pos l with h0 | h0
        · subst h0; simp at hne
        · exact h0
      obtain ⟨u0, hu0, hc0⟩ := key 0 hpos
      obtain ⟨_, _, g0⟩ := World.cells?_some hc0
      have c0 := g0 0 (by decide)
      rw [show (y.add (0 * 32)).add 0 = y by rw [show 0 * 32 = 0 from rfl]; rfl] at c0
      have c0' : W.cell? y = some (bcell (u0[0]'(by omega))) := by rw [c0]; exact bcells_get _ _ (by omega)
      obtain ⟨B, off, sp⟩ := y
      have hsp : sp = none := by
        unfold World.cell? at c0'
        split at c0'
        · cases sp with
          | none => rfl
          | some _ => simp at c0'
        · cases c0'
      subst hsp
      refine ⟨B, off, rfl, block_lt_of_cell c0', fun i hi j v hv => ?_⟩
      have hi' : i < l := by simpa using hi
      obtain ⟨e1, e2⟩ := Classical.choose_spec (key i hi')
      obtain ⟨_, _, g⟩ := World.cells?_some e2
      have hj : j < 32 := by
        have := (List.getElem?_eq_some_iff.1 hv).1
        simp only [List.getElem_map, List.getElem_finRange, bcells_length] at this
        exact Nat.lt_of_lt_of_le this (Nat.le_of_eq e1)
      have gj := g j hj
      have ha : ((⟨B, off, none⟩ : Addr).add (i * 32)).add j = ⟨B, off + i * 32 + j, none⟩ := by rw [Addr.add_mid, Addr.add_mid]
      have gj' : W.cell? ⟨B, off + i * 32 + j, none⟩ = _ := (congrArg W.cell? ha).symm.trans gj
      rw [gj', ← hv]
      simp
end Go.Proofs.YtbhcaalelfaceaaGreatDoor
