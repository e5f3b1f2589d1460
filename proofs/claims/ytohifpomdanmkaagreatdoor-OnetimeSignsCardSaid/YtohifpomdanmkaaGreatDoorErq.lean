/- Two small laws that other seats have with the errors. -/
import Derived.Test.YtohifpomdanmkaaGreatDoorG2
namespace Go.Proofs.YtohifpomdanmkaaGreatDoor
open Go.RowKit
theorem er_cellAt {w : World} {g : Nat} {cs : Array Value} {T : TypeId} {fr : Nat × Nat} (h : w.heap[g]? = some (.cells cs T fr)) (j : Nat) (v : Value) (hv : cs[j]? = some v) : w.cell? ⟨g, j, none⟩ = some v := cell_at h j v hv
theorem er_al {W w : World} (h : Below W.heap.size W w) (o : Obj) : Below W.heap.size W (w.alloc o) := h.alloc h.size o
end Go.Proofs.YtohifpomdanmkaaGreatDoor
