/- A struct built of parts of any size. -/
import Derived.Test.YtbhcaalelfaceaaGreatDoorBs1
namespace Go.Proofs.YtbhcaalelfaceaaGreatDoor
set_option maxRecDepth 100000
open Go.RowKit
theorem fold_put (d l r : List Value) (h : l.length ≤ r.length) : ((l.zipIdx 0).foldl (fun (cs : Array Value) p => cs.setIfInBounds (d.length + p.2) p.1) (d ++ r).toArray) = (d ++ l ++ r.drop l.length).toArray := by
  apply Array.ext
  · rw [size_fill]; simp; omega
  · intro i h1 h2
    apply Option.some.inj
    rw [← Array.getElem?_eq_getElem, ← Array.getElem?_eq_getElem, fold_fill]
    simp only [List.size_toArray, List.getElem?_toArray, List.length_append, Nat.add_zero]
    by_cases h3 : d.length ≤ i ∧ i < d.length + l.length
    · rw [if_pos ⟨h3.1, h3.2, by omega⟩, List.append_assoc, List.getElem?_append_right h3.1, List.getElem?_append_left (by omega)]
    · rw [if_neg (by omega)]
      rcases Nat.lt_or_ge i d.length with h4 | h4
      · rw [List.getElem?_append_left h4, List.append_assoc, List.getElem?_append_left h4]
      · rw [List.getElem?_append_right h4, List.append_assoc, List.getElem?_append_right h4, List.getElem?_append_right (by omega), List.getElem?_drop]
        congr 1
        omega
theorem fill_put (pl : Nat → Option (Nat × Nat)) (d r : List Value) (i n : Nat) (v : Value) (l : List Value) (rest : List (Nat × Value)) (hp : pl i = some (d.length, n)) (hv : v.cells = l.toArray) (hl : l.length = n) (hn : n ≤ r.length) :
    Instr.fill pl (d ++ r).toArray ((i, v) :: rest) = Instr.fill pl ((d ++ l) ++ r.drop n).toArray rest := by
  rw [Instr.fill, hp]
  simp only [hv, List.size_toArray, hl]
  rw [if_neg (by simp; omega), ← Array.foldl_toList, Array.toList_zipIdx]
  have := fold_put d l r (by omega)
  rw [hl] at this
  rw [← this]
end Go.Proofs.YtbhcaalelfaceaaGreatDoor
