/- The document's answer, part two: the eight words behind a block. -/
import Derived.Test.YtdepmjgibenejaaDoorRefA
namespace Go.Proofs.YtdepmjgibenejaaDoor
set_option maxRecDepth 100000
open Go.RowKit
theorem setRow_alloc_new (w : World) (X Y : Array Value) (T : TypeId) (n : Nat) (hn : n = w.heap.size) : (w.alloc (.cells X T)).setRow n Y = w.alloc (.cells Y T) := by
  subst hn
  unfold World.setRow World.alloc
  congr 1
  apply Array.ext_getElem?
  intro k
  by_cases hk : k = w.heap.size
  · subst hk; rw [Array.getElem?_modify]; simp
  · simp [Array.getElem?_modify, Array.getElem?_push, hk, Ne.symm hk]
theorem cell_setRow_at (w : World) (g j : Nat) (old cs : Array Value) (T : TypeId) (k : Nat) (v : Value) (hg : w.heap[g]? = some (.cells old T (0, 0))) (hv : cs[j]? = some v) :
    ((w.setRow g cs).drewN k).cell? ⟨g, j, none⟩ = some v := by
  rw [World.cell?_drewN, cell_of_row _ g j cs T (0, 0) (setRow_heap _ _ _ _ _ _ hg), hv]
theorem cell_row_other (w : World) (g k b j : Nat) (cs : Array Value) (v : Value) (hb : b ≠ g) (h : w.cell? ⟨b, j, none⟩ = some v) : ((w.setRow g cs).drewN k).cell? ⟨b, j, none⟩ = some v := by
  rw [World.cell?_drewN, cell_setRow_other _ _ _ _ (by simpa using hb), h]
theorem heap_row_other (w : World) (g k b : Nat) (cs : Array Value) (o : Option Obj) (hb : b ≠ g) (h : w.heap[b]? = o) : ((w.setRow g cs).drewN k).heap[b]? = o := by
  rw [World.heap_drewN, setRow_other _ _ _ _ hb, h]
theorem setRow_drewN' (w : World) (n g : Nat) (cs : Array Value) : (w.drewN n).setRow g cs = (w.setRow g cs).drewN n := rfl
theorem below_drewN' {B : Nat} {a w : World} (h : Below B a w) (n : Nat) : Below B a (w.drewN n) := ⟨h.os, h.tape, h.output, h.size, h.block⟩
def zeros8 : List Int := [0, 0, 0, 0, 0, 0, 0, 0]
theorem add_at' (s : R8) (b : List Int) (t : Nat) (ht : t < 8) :
    (((blk s b).list.take t ++ (rnds (sched b) s 64).list.drop t).getD t 0 + s.list.getD t 0) % 4294967296 = (blk s b).list.getD t 0 := by
  have h8 : t = 0 ∨ t = 1 ∨ t = 2 ∨ t = 3 ∨ t = 4 ∨ t = 5 ∨ t = 6 ∨ t = 7 := by omega
  unfold blk
  generalize rnds (sched b) s 64 = r
  rcases h8 with rfl | rfl | rfl | rfl | rfl | rfl | rfl | rfl <;> (simp [R8.add, R8.list]; rw [Int.add_comm])
theorem take_set (l r : List Int) (t : Nat) (h : l.length = r.length) (ht : t < l.length) : (l.take t ++ r.drop t).set t (l.getD t 0) = l.take (t + 1) ++ r.drop (t + 1) := by
  apply List.ext_getElem?
  intro j
  by_cases hj : j = t
  · subst hj; simp [List.getElem?_set, List.getElem?_append]; rw [if_pos (by omega), if_pos (by omega)]; simp [List.getElem?_eq_getElem ht]
  · rw [List.getElem?_set_ne (Ne.symm hj)]
    simp [List.getElem?_append, List.getElem?_take]
    by_cases h1 : j < t
    · rw [if_pos (by omega), if_pos (by omega), if_pos (by omega), if_pos (by omega)]
    · rw [if_neg (by omega), if_neg (by omega)]; congr 1; omega
end Go.Proofs.YtdepmjgibenejaaDoor
