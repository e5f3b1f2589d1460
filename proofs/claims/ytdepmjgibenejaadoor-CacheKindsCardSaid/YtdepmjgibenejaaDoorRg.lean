/- A row in memory whose cells are set one by one. -/
import Derived.Test.YtdepmjgibenejaaDoorOwn8
import Derived.Test.YtdepmjgibenejaaDoorRowN
import Derived.Maps.OwnSet
namespace Go.Proofs.YtdepmjgibenejaaDoor
open Go.RowKit
theorem flat_len {α : Type} (f : α → List Value) (S : Nat) : ∀ (l : List α), (∀ x ∈ l, (f x).length = S) → (l.flatMap f).length = l.length * S
  | [], _ => by simp
  | x :: l, h => by
    rw [List.flatMap_cons, List.length_append, h x (by simp), flat_len f S l (fun y hy => h y (by simp [hy])), List.length_cons, Nat.add_mul]; omega
theorem flat_get {α : Type} (f : α → List Value) (S : Nat) : ∀ (l : List α) (j o : Nat) (hj : j < l.length), (∀ x ∈ l, (f x).length = S) → o < S → (l.flatMap f)[j * S + o]? = (f l[j])[o]?
  | x :: l, 0, o, _, h, ho => by
    rw [List.flatMap_cons, Nat.zero_mul, Nat.zero_add, List.getElem?_append_left (by rw [h x (by simp)]; exact ho)]; rfl
  | x :: l, j + 1, o, hj, h, ho => by
    rw [List.flatMap_cons, List.getElem?_append_right (by rw [h x (by simp), Nat.add_mul]; omega), h x (by simp), show (j + 1) * S + o - S = j * S + o by rw [Nat.add_mul]; omega]
    exact flat_get f S l j o (by simpa using hj) (fun y hy => h y (by simp [hy])) ho
theorem flat_set {α : Type} (f : α → List Value) (S : Nat) (g : α → α) (v : Value) (o : Nat) (ho : o < S) : ∀ (l : List α) (j : Nat), (∀ x ∈ l, (f x).length = S) → (∀ x ∈ l, f (g x) = (f x).set o v) → (l.flatMap f).set (j * S + o) v = (l.modify j g).flatMap f
  | [], j, _, _ => by simp
  | x :: l, 0, h, hg => by
    rw [List.flatMap_cons, Nat.zero_mul, Nat.zero_add, List.set_append_left _ _ (by rw [h x (by simp)]; exact ho), ← hg x (by simp)]
    simp [List.modify_cons]
  | x :: l, j + 1, h, hg => by
    rw [List.flatMap_cons, List.set_append_right _ _ (by rw [h x (by simp), Nat.add_mul]; omega), h x (by simp), show (j + 1) * S + o - S = j * S + o by rw [Nat.add_mul]; omega, flat_set f S g v o ho l j (fun y hy => h y (by simp [hy])) (fun y hy => hg y (by simp [hy]))]
    simp
theorem rangeB {w w' : World} {B o : Nat} {cs : List Value} (h : w.rangeAt B o cs) (hB : B < w.heap.size) (k : Below w.heap.size w w') : w'.rangeAt B o cs := fun j v hv =>
  (k.cell (p := ⟨B, o + j, none⟩) hB).trans (h j v hv)
theorem frozenC {w : World} {g : Nat} {cs : Array Value} {T : TypeId} (h : w.heap[g]? = some (.cells cs T (0, 0))) (j : Nat) : w.frozen? ⟨g, j, none⟩ = false := by
  unfold World.frozen?
  rw [h]; simp
/-- a row in block g, its whole content -/
structure RowG (w : World) (base : Nat) (e : TypeId) (size g n c : Nat) (cur : Array Value) (xs : List Value) : Prop where
  hb : w.heap[g]? = some (.cells cur e (0, 0))
  bb : base ≤ g
  nc : n ≤ c
  cm : c ≤ maxLen
  sz : cur.size = c * size
  tk : cur.toList.take (n * size) = xs
  ln : xs.length = n * size
theorem RowG.own {w : World} {base : Nat} {e : TypeId} {size g n c : Nat} {cur : Array Value} {xs : List Value} (h : RowG w base e size g n c cur xs) : w.ownsRow base e size (.slice (some ⟨g, 0, none⟩) n c) n xs :=
  ⟨h.ln, .inr ⟨g, c, cur, rfl, h.bb, h.hb, h.nc, h.cm, h.sz, h.tk⟩⟩
theorem rowG_of {w : World} {base : Nat} {e : TypeId} {size g n c : Nat} {xs : List Value} (h : w.ownsRow base e size (.slice (some ⟨g, 0, none⟩) n c) n xs) : ∃ cur, RowG w base e size g n c cur xs := by
  obtain ⟨hl, ⟨h0, _⟩ | ⟨g', c', cur, e1, h1, h2, h3, h4, h5, h6⟩⟩ := h
  · cases h0
  · cases e1
    exact ⟨cur, h2, h1, h3, h4, h5, h6, hl⟩
theorem RowG.set {w w' : World} {base : Nat} {e : TypeId} {size g n c : Nat} {cur : Array Value} {xs : List Value} (h : RowG w base e size g n c cur xs) (i : Nat) (v : Value) (hb : w'.heap[g]? = some (.cells (cur.setIfInBounds i v) e (0, 0))) :
    RowG w' base e size g n c (cur.setIfInBounds i v) (xs.set i v) :=
  ⟨hb, h.bb, h.nc, h.cm, by rw [Array.size_setIfInBounds]; exact h.sz, by rw [Array.toList_setIfInBounds, ← h.tk, List.take_set], by rw [List.length_set]; exact h.ln⟩
theorem RowG.at {w : World} {base : Nat} {e : TypeId} {size g n c : Nat} {cur : Array Value} {xs : List Value} (h : RowG w base e size g n c cur xs) {i : Nat} {v : Value} (hv : xs[i]? = some v) : cur[i]? = some v := by
  rw [← h.tk, List.getElem?_take] at hv
  split at hv
  · rwa [Array.getElem?_toList] at hv
  · cases hv
theorem RowG.cell {w : World} {base : Nat} {e : TypeId} {size g n c : Nat} {cur : Array Value} {xs : List Value} (h : RowG w base e size g n c cur xs) {i : Nat} {v : Value} (hv : xs[i]? = some v) : w.cell? ⟨g, i, none⟩ = some v := er_cellAt h.hb i v (h.at hv)
theorem RowG.kept {w w' : World} {base : Nat} {e : TypeId} {size g n c : Nat} {cur : Array Value} {xs : List Value} (h : RowG w base e size g n c cur xs) (hb : w'.heap[g]? = w.heap[g]?) : RowG w' base e size g n c cur xs := { h with hb := hb.trans h.hb }
theorem RowG.setW {w : World} {base : Nat} {e : TypeId} {size g n c : Nat} {cur : Array Value} {xs : List Value} (h : RowG w base e size g n c cur xs) (i : Nat) (v : Value) : RowG (w.setCell ⟨g, i, none⟩ v) base e size g n c (cur.setIfInBounds i v) (xs.set i v) :=
  h.set i v (by simp [World.setCell, Array.getElem?_modify, h.hb])
end Go.Proofs.YtdepmjgibenejaaDoor
