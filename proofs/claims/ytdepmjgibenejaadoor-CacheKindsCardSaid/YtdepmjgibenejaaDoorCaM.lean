/- A row of items in memory: cells that are set one by one (chapter 13). -/
import Derived.Test.YtdepmjgibenejaaDoorCaN
import Derived.Test.YtdepmjgibenejaaDoorRg
import Derived.Test.YtdepmjgibenejaaDoorOwn8
import Derived.Test.YtdepmjgibenejaaDoorRowN
import Derived.Maps.OwnSet
namespace Go.Proofs.YtdepmjgibenejaaDoor
open Go.RowKit
section
variable {κ ν : Type}
/-- an item's cells -/
def icell (kc : κ → List Value) (vc : ν → List Value) (x : CaI κ ν) : List Value := kc x.k ++ vc x.v ++ [.int .i64 (x.nw : Int), .int .i64 (x.ol : Int)]
def icells (kc : κ → List Value) (vc : ν → List Value) (l : List (CaI κ ν)) : List Value := l.flatMap (icell kc vc)
/-- the sizes of keys and values -/
def SzI (kc : κ → List Value) (vc : ν → List Value) (K V : Nat) (l : List (CaI κ ν)) : Prop := ∀ x ∈ l, (kc x.k).length = K ∧ (vc x.v).length = V
variable {kc : κ → List Value} {vc : ν → List Value} {K V : Nat} {l : List (CaI κ ν)}
theorem SzI.len (h : SzI kc vc K V l) : ∀ x ∈ l, (icell kc vc x).length = K + V + 2 := fun x hx => by
  obtain ⟨h1, h2⟩ := h x hx
  unfold icell
  rw [List.length_append, List.length_append, h1, h2]; rfl
theorem mem_modify {f : CaI κ ν → CaI κ ν} {j : Nat} {x : CaI κ ν} (hx : x ∈ l.modify j f) : x ∈ l ∨ ∃ y ∈ l, x = f y := by
  obtain ⟨i, hi, e⟩ := List.getElem_of_mem hx
  have h1 : (l.modify j f)[i]? = some x := by rw [List.getElem?_eq_getElem hi, e]
  rw [modify_get] at h1
  split at h1
  · obtain ⟨y, h2, h3⟩ := Option.map_eq_some_iff.1 h1
    exact .inr ⟨y, List.mem_of_getElem? h2, h3.symm⟩
  · exact .inl (List.mem_of_getElem? h1)
theorem SzI.setNw (h : SzI kc vc K V l) (j a : Nat) : SzI kc vc K V (setNw l j a) := fun x hx => by
  rcases mem_modify hx with hx | ⟨y, hy, rfl⟩
  · exact h x hx
  · exact h y hy
theorem SzI.setOl (h : SzI kc vc K V l) (j a : Nat) : SzI kc vc K V (setOl l j a) := fun x hx => by
  rcases mem_modify hx with hx | ⟨y, hy, rfl⟩
  · exact h x hx
  · exact h y hy
theorem SzI.set (h : SzI kc vc K V l) (j : Nat) (x : CaI κ ν) (hx : (kc x.k).length = K ∧ (vc x.v).length = V) : SzI kc vc K V (l.set j x) := fun y hy => by
  rcases List.mem_or_eq_of_mem_set hy with h1 | rfl
  · exact h y h1
  · exact hx
theorem icells_len (h : SzI kc vc K V l) : (icells kc vc l).length = l.length * (K + V + 2) := flat_len _ _ l h.len
theorem icells_nw (h : SzI kc vc K V l) {j : Nat} (hj : j < l.length) : (icells kc vc l)[j * (K + V + 2) + (K + V)]? = some (.int .i64 (nwF l j : Int)) := by
  obtain ⟨h1, h2⟩ := h _ (List.getElem_mem hj)
  unfold icells
  rw [flat_get _ _ l j (K + V) hj h.len (by omega), nwF_get hj]
  unfold icell
  rw [List.getElem?_append_right (by rw [List.length_append, h1, h2]; exact Nat.le_refl _), List.length_append, h1, h2, Nat.sub_self]; rfl
theorem icells_ol (h : SzI kc vc K V l) {j : Nat} (hj : j < l.length) : (icells kc vc l)[j * (K + V + 2) + (K + V + 1)]? = some (.int .i64 (olF l j : Int)) := by
  obtain ⟨h1, h2⟩ := h _ (List.getElem_mem hj)
  unfold icells
  rw [flat_get _ _ l j (K + V + 1) hj h.len (by omega), olF_get hj]
  unfold icell
  rw [List.getElem?_append_right (by rw [List.length_append, h1, h2]; omega), List.length_append, h1, h2, show K + V + 1 - (K + V) = 1 by omega]; rfl
theorem icells_setNw (h : SzI kc vc K V l) (j a : Nat) : (icells kc vc l).set (j * (K + V + 2) + (K + V)) (.int .i64 (a : Int)) = icells kc vc (setNw l j a) := by
  refine flat_set _ (K + V + 2) (fun x => { x with nw := a }) (.int .i64 (a : Int)) (K + V) (by omega) l j h.len fun x hx => ?_
  obtain ⟨h1, h2⟩ := h x hx
  unfold icell
  rw [List.set_append_right _ _ (by rw [List.length_append, h1, h2]; exact Nat.le_refl _), List.length_append, h1, h2, Nat.sub_self]; rfl
theorem icells_setOl (h : SzI kc vc K V l) (j a : Nat) : (icells kc vc l).set (j * (K + V + 2) + (K + V + 1)) (.int .i64 (a : Int)) = icells kc vc (setOl l j a) := by
  refine flat_set _ (K + V + 2) (fun x => { x with ol := a }) (.int .i64 (a : Int)) (K + V + 1) (by omega) l j h.len fun x hx => ?_
  obtain ⟨h1, h2⟩ := h x hx
  unfold icell
  rw [List.set_append_right _ _ (by rw [List.length_append, h1, h2]; omega), List.length_append, h1, h2, show K + V + 1 - (K + V) = 1 by omega]; rfl
theorem icells_item (h : SzI kc vc K V l) {j : Nat} (hj : j < l.length) (o : Nat) (ho : o < K + V + 2) : (icells kc vc l)[j * (K + V + 2) + o]? = (icell kc vc l[j])[o]? := by
  unfold icells
  rw [flat_get _ _ l j o hj h.len ho]
end
end Go.Proofs.YtdepmjgibenejaaDoor
