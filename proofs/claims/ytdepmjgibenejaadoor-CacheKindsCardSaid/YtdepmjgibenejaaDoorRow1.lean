/- A slice whose elements have one cell each, as a list. -/
import Derived.Test.YtdepmjgibenejaaDoorDig
import Derived.Deep.QuietTactic
import Derived.BigQuiet
namespace Go.Proofs.YtdepmjgibenejaaDoor
set_option maxRecDepth 100000
open Go.RowKit
/-- a slice that reads as the list -/
def Ro {α : Type} (F : α → Value) (w : World) (v : Value) (l : List α) : Prop :=
  ∃ (a : Option Addr) (cap : Nat), v = .slice a l.length cap ∧ l.length ≤ cap ∧ cap ≤ maxLen ∧
    (l ≠ [] → ∃ B off, a = some ⟨B, off, none⟩ ∧ B < w.heap.size ∧ ∀ i, (h : i < l.length) → w.cell? ⟨B, off + i, none⟩ = some (F l[i]))
theorem Ro.below {α : Type} {F : α → Value} {w w' : World} {v : Value} {l : List α} (h : Ro F w v l) (k : Below w.heap.size w w') : Ro F w' v l := by
  obtain ⟨a, cap, h1, h2, h3, h4⟩ := h
  refine ⟨a, cap, h1, h2, h3, fun hne => ?_⟩
  obtain ⟨B, off, e1, e2, e3⟩ := h4 hne
  exact ⟨B, off, e1, Nat.lt_of_lt_of_le e2 k.size, fun i hi => (k.cell (p := ⟨B, off + i, none⟩) e2).trans (e3 i hi)⟩
theorem Ro.len {α : Type} {F : α → Value} {w : World} {v : Value} {l : List α} (h : Ro F w v l) : ∃ a cap, v = .slice a l.length cap ∧ l.length ≤ cap ∧ cap ≤ 9223372036854775807 := by
  obtain ⟨a, cap, h1, h2, h3, _⟩ := h
  exact ⟨a, cap, h1, h2, by unfold maxLen at h3; omega⟩
theorem Ro.at {α : Type} {F : α → Value} {w : World} {a : Option Addr} {n cap : Nat} {l : List α} (h : Ro F w (.slice a n cap) l) (i : Nat) (hi : i < l.length) :
    ∃ B off, a = some ⟨B, off, none⟩ ∧ B < w.heap.size ∧ w.cell? ⟨B, off + i, none⟩ = some (F l[i]) := by
  obtain ⟨a', cap', h1, h2, h3, h4⟩ := h
  cases h1
  obtain ⟨B, off, e1, e2, e3⟩ := h4 (fun e => by subst e; simp at hi)
  exact ⟨B, off, e1, e2, e3 i hi⟩
/-- a whole block of such elements -/
def rcells {α : Type} (F : α → Value) (l : List α) : Array Value := (l.map F).toArray
theorem rcells_size {α : Type} (F : α → Value) (l : List α) : (rcells F l).size = l.length := by simp [rcells]
theorem rcells_at {α : Type} (F : α → Value) (l : List α) (i : Nat) (h : i < l.length) : (rcells F l)[i]? = some (F l[i]) := by simp [rcells, h]
theorem rcells_set {α : Type} (F : α → Value) (l : List α) (i : Nat) (x : α) : (rcells F l).setIfInBounds i (F x) = rcells F (l.set i x) := by
  unfold rcells
  rw [List.setIfInBounds_toArray, List.map_set]
theorem rcells_cell {α : Type} {F : α → Value} {w : World} {g : Nat} {T : TypeId} {l : List α} (h : w.heap[g]? = some (.cells (rcells F l) T (0, 0))) (i : Nat) (hi : i < l.length) : w.cell? ⟨g, i, none⟩ = some (F l[i]) := cell_at h i _ (rcells_at F l i hi)
theorem rcells_frozen {α : Type} {F : α → Value} {w : World} {g : Nat} {T : TypeId} {l : List α} (h : w.heap[g]? = some (.cells (rcells F l) T (0, 0))) (i : Nat) : w.frozen? ⟨g, i, none⟩ = false := by simp [World.frozen?, h]
theorem rcells_store {α : Type} {F : α → Value} {w : World} {g : Nat} {T : TypeId} {l : List α} (h : w.heap[g]? = some (.cells (rcells F l) T (0, 0))) (i : Nat) (x : α) : (w.setCell ⟨g, i, none⟩ (F x)).heap[g]? = some (.cells (rcells F (l.set i x)) T (0, 0)) := by
  rw [← rcells_set]
  simp [World.setCell, Array.getElem?_modify, h]
theorem ro_block {α : Type} {F : α → Value} {w : World} {g : Nat} {T : TypeId} {l : List α} (h : w.heap[g]? = some (.cells (rcells F l) T (0, 0))) (n : Nat) (hn : n ≤ l.length) (hl : l.length ≤ maxLen) : Ro F w (.slice (some ⟨g, 0, none⟩) n l.length) (l.take n) := by
  have hlen : (l.take n).length = n := by simp; omega
  refine ⟨_, l.length, by rw [hlen], by rw [hlen]; exact hn, hl, fun _ => ⟨g, 0, rfl, (Array.getElem?_eq_some_iff.1 h).1, fun i hi => ?_⟩⟩
  rw [Nat.zero_add, List.getElem_take]
  exact rcells_cell h i (by omega)
/-- what is written so far, and zeros -/
def fillL {α : Type} (z : α) (ps : List α) (t : Nat) : List α := ps.take t ++ List.replicate (ps.length + 1 - t) z
theorem fillL_length {α : Type} (z : α) (ps : List α) (t : Nat) (h : t ≤ ps.length) : (fillL z ps t).length = ps.length + 1 := by simp [fillL]; omega
theorem fillL_set {α : Type} (z : α) (ps : List α) (t : Nat) (h : t < ps.length) : (fillL z ps t).set t ps[t] = fillL z ps (t + 1) := by
  unfold fillL
  have hl : (ps.take t).length = t := by simp; omega
  obtain ⟨k, hk⟩ : ∃ k, ps.length + 1 - t = k + 1 := ⟨ps.length - t, by omega⟩
  rw [hk, show ps.length + 1 - (t + 1) = k by omega, List.set_append_right _ _ (by omega), hl, Nat.sub_self, List.replicate_succ, List.set_cons_zero, List.take_succ_eq_append_getElem h, List.append_assoc]
  rfl
theorem fillL_last {α : Type} (z m : α) (ps : List α) : (fillL z ps ps.length).set ps.length m = ps ++ [m] := by
  unfold fillL
  rw [List.take_length, show ps.length + 1 - ps.length = 1 by omega, List.set_append_right _ _ (Nat.le_refl _), Nat.sub_self]
  rfl
theorem made_fill {α : Type} (F : α → Value) (z : α) (ps : List α) : madeCells #[F z] (ps.length + 1) = rcells F (fillL z ps 0) := by
  apply Array.ext'
  rw [toList_madeCells_one]
  simp [rcells, fillL]
/-- a copy with its mark behind it, in a block of its own -/
def TwinR {α : Type} (F : α → Value) (T : TypeId) (mk : α) (w : World) (v : Value) (ps : List α) : Prop :=
  ∃ B, v = .slice (some ⟨B, 0, none⟩) ps.length (ps.length + 1) ∧ w.heap[B]? = some (.cells (rcells F (ps ++ [mk])) T (0, 0))
theorem TwinR.below {α : Type} {F : α → Value} {T : TypeId} {mk : α} {w w' : World} {v : Value} {ps : List α} (h : TwinR F T mk w v ps) (k : Below w.heap.size w w') : TwinR F T mk w' v ps := by
  obtain ⟨B, e, h⟩ := h
  exact ⟨B, e, (k.block B (Array.getElem?_eq_some_iff.1 h).1).trans h⟩
theorem TwinR.ro {α : Type} {F : α → Value} {T : TypeId} {mk : α} {w : World} {v : Value} {ps : List α} (h : TwinR F T mk w v ps) (hl : ps.length + 1 ≤ maxLen) : Ro F w v ps := by
  obtain ⟨B, rfl, h⟩ := h
  have := ro_block h ps.length (by simp) (by simpa using hl)
  rwa [List.take_left, List.length_append, List.length_singleton] at this
end Go.Proofs.YtdepmjgibenejaaDoor
