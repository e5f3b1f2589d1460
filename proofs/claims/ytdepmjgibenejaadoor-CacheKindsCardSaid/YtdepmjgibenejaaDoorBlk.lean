/- sha.block: a block more; sha.turn. What each call does to the world. -/
import Derived.Test.YtdepmjgibenejaaDoorProg
import Derived.Test.YtdepmjgibenejaaDoorTail
import Derived.Test.YtdepmjgibenejaaDoorSha
import Derived.WalkSpells
import Derived.WalkLawsBesides
import Derived.Deep.QuietTactic
import Derived.BigQuiet
import Derived.BigRegion
import Derived.Lib.Hide
import Derived.Deep.DeepCutAuto
import Derived.Deep.CutBlock
namespace Go.Proofs.YtdepmjgibenejaaDoor
set_option maxRecDepth 100000
open Go.RowKit
/-- the words of h written one by one into the block H -/
def updH (w : World) (H : Nat) (h : List Int) : Nat → World
  | 0 => w
  | i + 1 => (updH w H h i).setCell ⟨H, i, none⟩ (.int .u32 (h.getD i 0))
theorem updH_size (w : World) (H : Nat) (h : List Int) (i : Nat) : (updH w H h i).heap.size = w.heap.size := by
  induction i with
  | zero => rfl
  | succ i ih => rw [updH]; simpa using ih
theorem updH_other (w : World) (H : Nat) (h : List Int) (i k : Nat) (hk : k ≠ H) : (updH w H h i).heap[k]? = w.heap[k]? := by
  induction i with
  | zero => rfl
  | succ i ih => rw [updH, heap_setCell_other _ _ _ _ (by simpa using hk)]; exact ih
theorem updH_same (w : World) (H : Nat) (h : List Int) (t : TypeId) (o : List Int) (hH : w.heap[H]? = some (.cells (vals o) t (0, 0))) (ho : o.length = h.length) (i : Nat) (hi : i ≤ h.length) :
    (updH w H h i).heap[H]? = some (.cells (vals (h.take i ++ o.drop i)) t (0, 0)) := by
  induction i with
  | zero => simpa [updH] using hH
  | succ i ih =>
    rw [updH, heap_setCell_same _ _ _ _ _ _ (ih (by omega)), vals_set]
    congr 3
    apply List.ext_getElem?
    intro j
    by_cases hj : j = i
    · subst hj; simp [List.getElem?_set, List.getElem?_append, ho]; rw [if_pos (by omega), if_pos (by omega)]; simp [List.getElem?_eq_getElem (show j < h.length by omega)]
    · rw [List.getElem?_set_ne (Ne.symm hj)]
      simp [List.getElem?_append, List.getElem?_take]
      by_cases h1 : j < i
      · rw [if_pos (by omega), if_pos (by omega), if_pos (by omega), if_pos (by omega)]
      · rw [if_neg (by omega), if_neg (by omega)]; congr 1; omega

theorem cell_of_vals {w : World} {g : Nat} {l : List Int} {T : TypeId} {fr : Nat × Nat} (h : w.heap[g]? = some (.cells (vals l) T fr)) (j : Nat) (hj : j < l.length) :
    w.cell? ⟨g, j, none⟩ = some (.int .u32 (l.getD j 0)) := by
  rw [cell_of_row w g j _ T fr h, vals_get l j hj]
theorem add_at (s : R8) (b : List Int) (t : Nat) (ht : t < 8) :
    (((blk s b).list.take t ++ s.list.drop t).getD t 0 + (rnds (sched b) s 64).list.getD t 0) % 4294967296 = (blk s b).list.getD t 0 := by
  have h8 : t = 0 ∨ t = 1 ∨ t = 2 ∨ t = 3 ∨ t = 4 ∨ t = 5 ∨ t = 6 ∨ t = 7 := by omega
  unfold blk
  generalize rnds (sched b) s 64 = r
  rcases h8 with rfl | rfl | rfl | rfl | rfl | rfl | rfl | rfl <;> rfl

theorem cell_loc (w : World) (W : List Int) (T : TypeId) (k n t : Nat) (hn : n = w.heap.size) (ht : t < W.length) :
    ((w.alloc (.cells (vals W) T)).drewN k).cell? ⟨n, t, none⟩ = some (.int .u32 (W.getD t 0)) := by
  rw [World.cell?_drewN, World.cell?_alloc_at _ _ _ _ hn, vals_get _ _ ht]
theorem froz_loc (w : World) (W : List Int) (T : TypeId) (k n t : Nat) (hn : n = w.heap.size) :
    ((w.alloc (.cells (vals W) T)).drewN k).frozen? ⟨n, t, none⟩ = false := by
  rw [World.frozen?_drewN, World.frozen?_alloc_at _ _ _ _ hn]
theorem cell_old (w : World) (o : Obj) (k : Nat) (B j : Nat) (v : Value) (hB : B < w.heap.size) (h : w.cell? ⟨B, j, none⟩ = some v) :
    ((w.alloc o).drewN k).cell? ⟨B, j, none⟩ = some v := by
  rw [World.cell?_drewN, World.cell?_alloc_past _ _ _ hB, h]
theorem setCell_drewN' (w : World) (n : Nat) (a : Addr) (v : Value) : (w.drewN n).setCell a v = (w.setCell a v).drewN n := rfl
theorem store_loc (w : World) (W : List Int) (T : TypeId) (k n t : Nat) (x : Int) (hn : n = w.heap.size) :
    ((w.alloc (.cells (vals W) T)).drewN k).setCell ⟨n, t, none⟩ (.int .u32 x) = (w.alloc (.cells (vals (W.set t x)) T)).drewN k := by
  rw [setCell_drewN', World.setCell_alloc_at _ _ _ _ _ hn, vals_set]

end Go.Proofs.YtdepmjgibenejaaDoor
