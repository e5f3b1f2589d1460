/- The end of a row of hashes is cleared: what lies ahead of it stands. -/
import Derived.Test.YtbhcaalelfaceaaGreatDoorVt
import Derived.Test.YtbhcaalelfaceaaGreatDoorOwn4
namespace Go.Proofs.YtbhcaalelfaceaaGreatDoor
set_option maxRecDepth 100000
open Go.RowKit
theorem setCells_heap (b : Nat) : ∀ (vs : List Value) (o : Nat) (W : World) (cur : Array Value) (T : TypeId) (fr : Nat × Nat), W.heap[b]? = some (.cells cur T fr) →
    ∃ cur', (W.setCells b o vs).heap[b]? = some (.cells cur' T fr) ∧ cur'.size = cur.size ∧ ∀ j, j < o → cur'[j]? = cur[j]?
  | [], _, _, cur, _, _, h => ⟨cur, h, rfl, fun _ _ => rfl⟩
  | v :: vs, o, W, cur, T, fr, h => by
    have h1 : (W.setCell ⟨b, o, none⟩ v).heap[b]? = some (.cells (cur.setIfInBounds o v) T fr) := by simp [World.setCell, Array.getElem?_modify, h]
    obtain ⟨cur', e1, e2, e3⟩ := setCells_heap b vs (o + 1) _ _ T fr h1
    refine ⟨cur', by rw [World.setCells]; exact e1, by rw [e2]; simp, fun j hj => ?_⟩
    rw [e3 j (by omega), Array.getElem?_setIfInBounds, if_neg (by omega)]
theorem own_cleared {w : World} {base g L c : Nat} {xs : List Value} (h : w.ownsRow base 66 32 (.slice (some ⟨g, 0, none⟩) L c) L xs) (k : Nat) (hk : k ≤ L) (vs : List Value) :
    (∀ j, j < k * 32 → (w.cell? ⟨g, (L - k) * 32 + j, none⟩).isSome = true) ∧ (∀ j, j < k * 32 → w.frozen? ⟨g, (L - k) * 32 + j, none⟩ = false) ∧
      (w.setCells g ((L - k) * 32) vs).ownsRow base 66 32 (.slice (some ⟨g, 0, none⟩) (L - k) c) (L - k) (xs.take ((L - k) * 32)) := by
  have hlen := h.1
  rcases id h.2 with ⟨e, _⟩ | ⟨g', cap, cur, e, hb, hg, h1, h2, h3, h4⟩
  · cases e
  · cases e
    refine ⟨fun j hj => ?_, fun j hj => er_frozen hg _, ?_⟩
    · have hlt : (L - k) * 32 + j < cur.size := by omega
      rw [er_cellAt hg _ _ (Array.getElem?_eq_getElem hlt)]
      rfl
    · obtain ⟨cur', e1, e2, e3⟩ := setCells_heap g vs ((L - k) * 32) w cur _ _ hg
      refine ⟨by rw [List.length_take, hlen]; omega, .inr ⟨g, _, cur', rfl, hb, e1, by omega, h2, by rw [e2]; exact h3, ?_⟩⟩
      rw [← h4, List.take_take, Nat.min_eq_left (by omega)]
      apply List.ext_getElem?
      intro j
      rw [List.getElem?_take, List.getElem?_take]
      by_cases hj : j < (L - k) * 32
      · rw [if_pos hj, if_pos hj, Array.getElem?_toList, Array.getElem?_toList]
        exact e3 j hj
      · rw [if_neg hj, if_neg hj]
theorem keep_setCellsE (w : World) (g o : Nat) (vs : List Value) : Keep (fun k => k = g) w (w.setCells g o vs) :=
  ⟨World.os_setCells' _ _ _ _, World.tape_setCells' _ _ _ _, World.output_setCells' _ _ _ _, Nat.le_of_eq (World.size_setCells' _ _ _ _).symm, fun k _ hk => World.heap_setCells_other' _ _ _ _ k hk⟩
/-- the first of a row are a row -/
theorem own_prefixE {w : World} {base L c : Nat} {a : Option Addr} {xs : List Value} (h : w.ownsRow base 66 32 (.slice a L c) L xs) : w.ownsRow base 66 32 (.slice a L c) L (xs.take (L * 32)) := by
  rw [List.take_of_length_le (by rw [h.1]; exact Nat.le_refl _)]
  exact h
end Go.Proofs.YtbhcaalelfaceaaGreatDoor
