/- A row of items in memory: cells that are set one by one (chapter 13). -/
import Derived.Test.YtdepmjgibenejaaDoorCaN
import Derived.Test.YtdepmjgibenejaaDoorOwn8
import Derived.Test.YtdepmjgibenejaaDoorRowN
import Derived.Maps.OwnSet
namespace Go.Proofs.YtdepmjgibenejaaDoor
open Go.RowKit
theorem flat_len {α : Type} (f : α → List Value) (S : Nat) : ∀ (l : List α), (∀ x ∈ l, (f x).length = S) → (l.flatMap f).length = l.length * S
  | [], _ => by simp
  | x :: l, h => by
    rw [List.flatMap_cons, List.length_append, h x (by simp), flat_len f S l (fun y hy => h y (by simp [hy])), List.length_cons, Nat.add_mul]; omega
theorem flat_get {α : Type} (f : α → List Value) (S : Nat) : ∀ (l : List α) (j o : Nat) (hj : j < l.length), (∀ x ∈ l, (f x).length = S) → o < S → (l.flatMap f)[j * S + o]? = (f l[j])[o]?
  | x :: l, 0, o, _, h, ho => by
    rw [List.flatMap_cons, Nat.zero_mul, Nat.zero_add, List.getElem?_append_left (by rw [h x (by simp)]; exact ho)]; rfl
  | x :: l, j + 1, o, hj, h, ho => by
    rw [List.flatMap_cons, List.getElem?_append_right (by rw [h x (by simp), Nat.add_mul]; omega), h x (by simp), show (j + 1) * S + o - S = j * S + o by rw [Nat.add_mul]; omega]
    exact flat_get f S l j o (by simpa using hj) (fun y hy => h y (by simp [hy])) ho
theorem flat_set {α : Type} (f : α → List Value) (S : Nat) (g : α → α) (v : Value) (o : Nat) (ho : o < S) : ∀ (l : List α) (j : Nat), (∀ x ∈ l, (f x).length = S) → (∀ x ∈ l, f (g x) = (f x).set o v) → (l.flatMap f).set (j * S + o) v = (l.modify j g).flatMap f
  | [], j, _, _ => by simp
  | x :: l, 0, h, hg => by
    rw [List.flatMap_cons, Nat.zero_mul, Nat.zero_add, List.set_append_left _ _ (by rw [h x (by simp)]; exact ho), ← hg x (by simp)]
    simp [List.modify_cons]
  | x :: l, j + 1, h, hg => by
    rw [List.flatMap_cons, List.set_append_right _ _ (by rw [h x (by simp), Nat.add_mul]; omega), h x (by simp), show (j + 1) * S + o - S = j * S + o by rw [Nat.add_mul]; omega, flat_set f S g v o ho l j (fun y hy => h y (by simp [hy])) (fun y hy => hg y (by simp [hy]))]
    simp
theorem rangeB {w w' : World} {B o : Nat} {cs : List Value} (h : w.rangeAt B o cs) (hB : B < w.heap.size) (k : Below w.heap.size w w') : w'.rangeAt B o cs := fun j v hv =>
  (k.cell (p := ⟨B, o + j, none⟩) hB).trans (h j v hv)
theorem frozenC {w : World} {g : Nat} {cs : Array Value} {T : TypeId} (h : w.heap[g]? = some (.cells cs T (0, 0))) (j : Nat) : w.frozen? ⟨g, j, none⟩ = false := by
  unfold World.frozen?
  rw [h]; simp
/-- a row in block g, its whole content -/
structure RowG (w : World) (base : Nat) (e : TypeId) (size g n c : Nat) (cur : Array Value) (xs : List Value) : Prop where
  hb : w.heap[g]? = some (.cells cur e (0, 0))
  bb : base ≤ g
  nc : n ≤ c
  cm : c ≤ maxLen
  sz : cur.size = c * size
  tk : cur.toList.take (n * size) = xs
  ln : xs.length = n * size
theorem RowG.own {w : World} {base : Nat} {e : TypeId} {size g n c : Nat} {cur : Array Value} {xs : List Value} (h : RowG w base e size g n c cur xs) : w.ownsRow base e size (.slice (some ⟨g, 0, none⟩) n c) n xs :=
  ⟨h.ln, .inr ⟨g, c, cur, rfl, h.bb, h.hb, h.nc, h.cm, h.sz, h.tk⟩⟩
theorem rowG_of {w : World} {base : Nat} {e : TypeId} {size g n c : Nat} {xs : List Value} (h : w.ownsRow base e size (.slice (some ⟨g, 0, none⟩) n c) n xs) : ∃ cur, RowG w base e size g n c cur xs := by
  obtain ⟨hl, ⟨h0, _⟩ | ⟨g', c', cur, e1, h1, h2, h3, h4, h5, h6⟩⟩ := h
  · cases h0
  · cases e1
    exact ⟨cur, h2, h1, h3, h4, h5, h6, hl⟩
theorem RowG.set {w w' : World} {base : Nat} {e : TypeId} {size g n c : Nat} {cur : Array Value} {xs : List Value} (h : RowG w base e size g n c cur xs) (i : Nat) (v : Value) (hb : w'.heap[g]? = some (.cells (cur.setIfInBounds i v) e (0, 0))) :
    RowG w' base e size g n c (cur.setIfInBounds i v) (xs.set i v) :=
  ⟨hb, h.bb, h.nc, h.cm, by rw [Array.size_setIfInBounds]; exact h.sz, by rw [Array.toList_setIfInBounds, ← h.tk, List.take_set], by rw [List.length_set]; exact h.ln⟩
theorem RowG.at {w : World} {base : Nat} {e : TypeId} {size g n c : Nat} {cur : Array Value} {xs : List Value} (h : RowG w base e size g n c cur xs) {i : Nat} {v : Value} (hv : xs[i]? = some v) : cur[i]? = some v := by
  rw [← h.tk, List.getElem?_take] at hv
  split at hv
  · rwa [Array.getElem?_toList] at hv
  · cases hv
theorem RowG.cell {w : World} {base : Nat} {e : TypeId} {size g n c : Nat} {cur : Array Value} {xs : List Value} (h : RowG w base e size g n c cur xs) {i : Nat} {v : Value} (hv : xs[i]? = some v) : w.cell? ⟨g, i, none⟩ = some v := er_cellAt h.hb i v (h.at hv)
theorem RowG.kept {w w' : World} {base : Nat} {e : TypeId} {size g n c : Nat} {cur : Array Value} {xs : List Value} (h : RowG w base e size g n c cur xs) (hb : w'.heap[g]? = w.heap[g]?) : RowG w' base e size g n c cur xs := { h with hb := hb.trans h.hb }
theorem RowG.setW {w : World} {base : Nat} {e : TypeId} {size g n c : Nat} {cur : Array Value} {xs : List Value} (h : RowG w base e size g n c cur xs) (i : Nat) (v : Value) : RowG (w.setCell ⟨g, i, none⟩ v) base e size g n c (cur.setIfInBounds i v) (xs.set i v) :=
  h.set i v (by simp [World.setCell, Array.getElem?_modify, h.hb])
section
variable {κ ν : Type}
/-- an item's cells -/
def icell (kc : κ → List Value) (vc : ν → List Value) (x : CaI κ ν) : List Value := kc x.k ++ vc x.v ++ [.int .i64 (x.nw : Int), .int .i64 (x.ol : Int)]
def icells (kc : κ → List Value) (vc : ν → List Value) (l : List (CaI κ ν)) : List Value := l.flatMap (icell kc vc)
/-- the sizes of keys and values -/
def SzI (kc : κ → List Value) (vc : ν → List Value) (K V : Nat) (l : List (CaI κ ν)) : Prop := ∀ x ∈ l, (kc x.k).length = K ∧ (vc x.v).length = V
variable {kc : κ → List Value} {vc : ν → List Value} {K V : Nat} {l : List (CaI κ ν)}
theorem SzI.len (h : SzI kc vc K V l) : ∀ x ∈ l, (icell kc vc x).length = K + V + 2 := fun x hx => by
  obtain ⟨h1, h2⟩ := h x hx
  unfold icell
  rw [List.length_append, List.length_append, h1, h2]; rfl
theorem mem_modify {f : CaI κ ν → CaI κ ν} {j : Nat} {x : CaI κ ν} (hx : x ∈ l.modify j f) : x ∈ l ∨ ∃ y ∈ l, x = f y := by
  obtain ⟨i, hi, e⟩ := List.getElem_of_mem hx
  have h1 : (l.modify j f)[i]? = some x := by rw [List.getElem?_eq_getElem hi, e]
  rw [modify_get] at h1
  split at h1
  · obtain ⟨y, h2, h3⟩ := Option.map_eq_some_iff.1 h1
    exact .inr ⟨y, List.mem_of_getElem? h2, h3.symm⟩
  · exact .inl (List.mem_of_getElem? h1)
theorem SzI.setNw (h : SzI kc vc K V l) (j a : Nat) : SzI kc vc K V (setNw l j a) := fun x hx => by
  rcases mem_modify hx with hx | ⟨y, hy, rfl⟩
  · exact h x hx
  · exact h y hy
theorem SzI.setOl (h : SzI kc vc K V l) (j a : Nat) : SzI kc vc K V (setOl l j a) := fun x hx => by
  rcases mem_modify hx with hx | ⟨y, hy, rfl⟩
  · exact h x hx
  · exact h y hy
theorem SzI.set (h : SzI kc vc K V l) (j : Nat) (x : CaI κ ν) (hx : (kc x.k).length = K ∧ (vc x.v).length = V) : SzI kc vc K V (l.set j x) := fun y hy => by
  rcases List.mem_or_eq_of_mem_set hy with h1 | rfl
  · exact h y h1
  · exact hx
theorem icells_len (h : SzI kc vc K V l) : (icells kc vc l).length = l.length * (K + V + 2) := flat_len _ _ l h.len
theorem icells_nw (h : SzI kc vc K V l) {j : Nat} (hj : j < l.length) : (icells kc vc l)[j * (K + V + 2) + (K + V)]? = some (.int .i64 (nwF l j : Int)) := by
  obtain ⟨h1, h2⟩ := h _ (List.getElem_mem hj)
  unfold icells
  rw [flat_get _ _ l j (K + V) hj h.len (by omega), nwF_get hj]
  unfold icell
  rw [List.getElem?_append_right (by rw [List.length_append, h1, h2]; exact Nat.le_refl _), List.length_append, h1, h2, Nat.sub_self]; rfl
theorem icells_ol (h : SzI kc vc K V l) {j : Nat} (hj : j < l.length) : (icells kc vc l)[j * (K + V + 2) + (K + V + 1)]? = some (.int .i64 (olF l j : Int)) := by
  obtain ⟨h1, h2⟩ := h _ (List.getElem_mem hj)
  unfold icells
  rw [flat_get _ _ l j (K + V + 1) hj h.len (by omega), olF_get hj]
  unfold icell
  rw [List.getElem?_append_right (by rw [List.length_append, h1, h2]; omega), List.length_append, h1, h2, show K + V + 1 - (K + V) = 1 by omega]; rfl
theorem icells_setNw (h : SzI kc vc K V l) (j a : Nat) : (icells kc vc l).set (j * (K + V + 2) + (K + V)) (.int .i64 (a : Int)) = icells kc vc (setNw l j a) := by
  refine flat_set _ (K + V + 2) (fun x => { x with nw := a }) (.int .i64 (a : Int)) (K + V) (by omega) l j h.len fun x hx => ?_
  obtain ⟨h1, h2⟩ := h x hx
  unfold icell
  rw [List.set_append_right _ _ (by rw [List.length_append, h1, h2]; exact Nat.le_refl _), List.length_append, h1, h2, Nat.sub_self]; rfl
theorem icells_setOl (h : SzI kc vc K V l) (j a : Nat) : (icells kc vc l).set (j * (K + V + 2) + (K + V + 1)) (.int .i64 (a : Int)) = icells kc vc (setOl l j a) := by
  refine flat_set _ (K + V + 2) (fun x => { x with ol := a }) (.int .i64 (a : Int)) (K + V + 1) (by omega) l j h.len fun x hx => ?_
  obtain ⟨h1, h2⟩ := h x hx
  unfold icell
  rw [List.set_append_right _ _ (by rw [List.length_append, h1, h2]; omega), List.length_append, h1, h2, show K + V + 1 - (K + V) = 1 by omega]; rfl
theorem icells_item (h : SzI kc vc K V l) {j : Nat} (hj : j < l.length) (o : Nat) (ho : o < K + V + 2) : (icells kc vc l)[j * (K + V + 2) + o]? = (icell kc vc l[j])[o]? := by
  unfold icells
  rw [flat_get _ _ l j o hj h.len ho]
end
end Go.Proofs.YtdepmjgibenejaaDoor
