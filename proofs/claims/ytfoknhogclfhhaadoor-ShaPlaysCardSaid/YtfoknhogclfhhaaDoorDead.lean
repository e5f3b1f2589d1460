/- sha: a digest that is not there, and one that no call made: what its calls do. -/
import Derived.Test.YtfoknhogclfhhaaDoorLawA
namespace Go.Proofs.YtfoknhogclfhhaaDoor
set_option maxRecDepth 100000
open Go.RowKit
/-- nil, or a zero Digest -/
def DeadD (w : World) (v : Value) : Prop :=
  v = .pointer none ∨ ∃ p, v = .pointer (some ⟨p, 0, none⟩) ∧ w.heap[p]? = some (.cells #[.pointer none, .slice none 0 0, .int .u64 0] 53 (0, 0))
theorem DeadD.below {w w' : World} {v : Value} (h : DeadD w v) (k : Below w.heap.size w w') : DeadD w' v := by
  rcases h with h | ⟨p, h, hp⟩
  · exact .inl h
  · exact .inr ⟨p, h, (k.block p (Array.getElem?_eq_some_iff.1 hp).1).trans hp⟩
set_option maxHeartbeats 400000 in
theorem write_dead (w : World) (v bv : Value) (h : DeadD w v) : Calls Tryd.prog 15 #[v, bv] w fun e w' => e = .returned (.tuple #[]) ∧ w = w' := by
  rcases h with rfl | ⟨p, rfl, hp⟩
  · go_enter Tryd.func15, Tryd.ntmps15
    go_wp2_with fail
    refine bodyPost_ret (results_none rfl _ _ _) rfl ?_
    exact ⟨rfl, rfl⟩
  · have c0 := cell_at hp 0 _ rfl
    clear hp
    go_enter Tryd.func15, Tryd.ntmps15
    go_wp2_with fail
    refine bodyPost_ret (results_none rfl _ _ _) rfl ?_
    exact ⟨rfl, rfl⟩
theorem len_dead (w : World) (v : Value) (h : DeadD w v) : Calls Tryd.prog 19 #[v] w fun e w' => e = .returned (.int .u64 0) ∧ w = w' := by
  rcases h with rfl | ⟨p, rfl, hp⟩
  · go_enter Tryd.func19, Tryd.ntmps19
    go_wp2_with fail
    go_ret
    exact ⟨rfl, rfl⟩
  · have c0 := cell_at hp 2 _ rfl
    clear hp
    go_enter Tryd.func19, Tryd.ntmps19
    go_wp2_with fail
    go_ret
    exact ⟨rfl, rfl⟩
theorem copy_dead (w : World) (v : Value) (h : DeadD w v) : Calls Tryd.prog 20 #[v] w fun e w' => e = .returned (.pointer none) ∧ w = w' := by
  rcases h with rfl | ⟨p, rfl, hp⟩
  · go_enter Tryd.func20, Tryd.ntmps20
    go_wp2_with fail
    go_ret
    exact ⟨rfl, rfl⟩
  · have c0 := cell_at hp 0 _ rfl
    clear hp
    go_enter Tryd.func20, Tryd.ntmps20
    go_wp2_with fail
    go_ret
    exact ⟨rfl, rfl⟩
def zero32 : List UInt8 := List.replicate 32 0
theorem zero32_length : zero32.length = 32 := by simp [zero32]
set_option maxHeartbeats 400000 in
theorem sum_dead (w : World) (v : Value) (h : DeadD w v) : Calls Tryd.prog 16 #[v] w fun e w' => e = .returned (hv zero32) ∧ Below w.heap.size w w' := by
  have r0 : (w.alloc (.cells zeros32 38)).heap[w.heap.size]? = some (.cells zeros32 38 (0, 0)) := heap_alloc_new _ _
  have k0 : Below w.heap.size w (w.alloc (.cells zeros32 38)) := (Below.refl _ _).alloc (Nat.le_refl _) _
  have hsz : (Tryd.prog.info? 38).map (·.size) = some zeros32.size := by rw [sizeH]; rfl
  have d0 := h.below k0
  have R0' := Bx.mk r0; have K0 := Bx.mk k0; have HSZ := Bx.mk hsz
  clear r0 k0 h hsz
  rcases d0 with rfl | ⟨p, rfl, hp⟩
  · go_enter Tryd.func16, Tryd.ntmps16
    go_upto_region 1 with (fail)
    change Code.wp _ _ _ _ (w.alloc (.cells zeros32 38))
    generalize w.alloc (.cells zeros32 38) = W at R0' K0 ⊢
    go_wp2_with (refine wpList_store_row rfl 38 (.tmp 2) (.tmp 19) rfl w.heap.size zeros32 rfl rfl _ zeros32 R0'.out HSZ.out rfl (ocells_one _) ?_)
    refine bodyPost_ret (results_cell_row rfl _ _ w.heap.size _ zeros32 _ _ rfl (setRow_heap _ _ _ _ _ _ R0'.out) underH rfl HSZ.out) rfl ⟨rfl, below_setRow K0.out (Nat.le_refl _) _⟩
  · have c0 := cell_at hp 0 _ rfl
    clear hp
    go_enter Tryd.func16, Tryd.ntmps16
    go_upto_region 1 with (fail)
    change Code.wp _ _ _ _ (w.alloc (.cells zeros32 38))
    generalize w.alloc (.cells zeros32 38) = W at R0' K0 c0 ⊢
    go_wp2_with (refine wpList_store_row rfl 38 (.tmp 2) (.tmp 19) rfl w.heap.size zeros32 rfl rfl _ zeros32 R0'.out HSZ.out rfl (ocells_one _) ?_)
    refine bodyPost_ret (results_cell_row rfl _ _ w.heap.size _ zeros32 _ _ rfl (setRow_heap _ _ _ _ _ _ R0'.out) underH rfl HSZ.out) rfl ⟨rfl, below_setRow K0.out (Nat.le_refl _) _⟩
end Go.Proofs.YtfoknhogclfhhaaDoor
