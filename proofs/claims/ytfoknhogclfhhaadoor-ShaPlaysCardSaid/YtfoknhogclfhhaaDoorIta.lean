/- strconv.Itoa of the mark's number. -/
import Derived.Lib.AppendIntMem
import Derived.Test.YtfoknhogclfhhaaDoorIts
import Derived.Test.YtfoknhogclfhhaaDoorSum
namespace Go.Proofs.YtfoknhogclfhhaaDoor
open Go.RowKit
def TabI (w : World) : Prop := Lib.TabIs Tryd.prog w "internal/strconv.uint64pow10" .u64 Lib.pow10Tab
theorem TabI.below {w w' : World} (h : TabI w) (k : Below w.heap.size w w') : TabI w' := (Lib.tabBelow_of_tabIs h) _ k
theorem below_grown (w : World) (k : Nat) (os : Array Obj) : Below w.heap.size w (Go.Sort.grow (w.drewN k) os) :=
  ⟨rfl, rfl, rfl, by simp [Go.Sort.grow], fun j hj => by
    show (w.heap ++ os)[j]? = w.heap[j]?
    rw [Array.getElem?_append_left hj]⟩
theorem itoa_any (w : World) (hT : TabI w) : Calls Tryd.prog 42 #[.int .i64 7777] w fun e w' => e = .returned (.string ⟨#[55, 55, 55, 55]⟩) ∧ Below w.heap.size w w' :=
  (strconv_Itoa 7777 (by decide) (by decide) w hT).mono fun e w' ⟨he, k, os, hw⟩ => ⟨by rw [he, show Lib.itoa 7777 = [55, 55, 55, 55] by decide +kernel], by rw [hw]; exact below_grown w k os⟩
end Go.Proofs.YtfoknhogclfhhaaDoor
