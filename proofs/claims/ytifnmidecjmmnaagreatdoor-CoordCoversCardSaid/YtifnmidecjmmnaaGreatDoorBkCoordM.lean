/- cartularylaw01.Book over trees: the mark, and whether it is there. -/
import Derived.Test.YtifnmidecjmmnaaGreatDoorBkC
import Derived.Test.YtifnmidecjmmnaaGreatDoorCoD
namespace Go.Proofs.YtifnmidecjmmnaaGreatDoor
set_option maxRecDepth 100000
open Go.RowKit
theorem built_mkCoordoord (n : Nat) : Tryz.prog.built 59 [(0, .int .u8 201), (1, .int .u64 (n : Int))] = some #[.int .u8 201, .int .u64 (n : Int)] := by kernel_rfl
theorem sizeMkCoord : (Tryz.prog.info? 59).map (·.size) = some 2 := by kernel_rfl
def mkCoord (n : Nat) : Array Value := #[.int .u8 201, .int .u64 (n : Int)]
theorem mkCoord_len (n : Nat) : (mkCoord n).toList.length = 2 := rfl
theorem mkCoord_one (n : Nat) : (mkCoord n).all (·.oneCell') = true := by simp [mkCoord, Value.oneCell']
set_option maxHeartbeats 1600000 in
theorem markCoord_any (w : World) (n : Nat) (hn : n ≤ 100000000) : Calls Tryz.prog 78 #[.int .i64 (n : Int)] w fun e w' => e = .returned (.agg (mkCoord n)) ∧ Below w.heap.size w w' := by
  have hw : IntKind.u64.wrap (n : Int) = (n : Int) := by simp [IntKind.wrap, IntKind.bits, IntKind.signed]; omega
  go_enter Tryz.func78, Tryz.ntmps78
  go_wp2_with (first
    | (guard_target =~ wpList _ _ _ (⟨some 5, _, _, _, _, _⟩ :: _) _ _; refine wpList_build_c (by simp [Region.wanted]) 59 #[(0, .const (.int .u8 201)), (1, .tmp 4)] rfl #[.int .u8 201, .int .u64 (n : Int)] (by simp only [List.map_toArray, List.map_cons, List.map_nil]; exact built_mkCoordoord n) ?_)
    | (guard_target =~ wpList _ _ _ (⟨none, _, _, _, _, _⟩ :: _) _ _; refine wpList_store_row rfl 59 (.tmp 2) (.tmp 5) rfl w.heap.size #[.int .u8 201, .int .u64 (n : Int)] rfl rfl _ #[.int .u8 0, .int .u64 0] (heap_alloc_new _ _) (by exact sizeMkCoord) rfl (by simp [Value.oneCell']) ?_; rw [setRow_alloc_new _ _ _ _ rfl]))
  refine bodyPost_ret (results_cell_row rfl _ _ w.heap.size _ #[.int .u8 201, .int .u64 (n : Int)] _ _ rfl (heap_alloc_new _ _) Tryz.underlying59 rfl sizeMkCoord) rfl ⟨rfl, er_al (Below.refl _ _) _⟩
set_option maxHeartbeats 1600000 in
theorem isCoord_any (w : World) (n k : Nat) (hn : k ≤ 100000000) : Calls Tryz.prog 94 #[.agg (mkCoord n), .int .i64 (k : Int)] w fun e w' => e = .returned (.bool (decide (n = k))) ∧ Below w.heap.size w w' := by
  have hw : IntKind.u64.wrap (k : Int) = (k : Int) := by simp [IntKind.wrap, IntKind.bits, IntKind.signed]; omega
  have q := fun w => cv_eql w 201 n 201 k
  have xN := heap_alloc_new w (.cells (mkCoord n) 59)
  have kb := er_al (Below.refl w.heap.size w) (.cells (mkCoord n) 59)
  go_enter Tryz.func94, Tryz.ntmps94
  go_upto_region 1 with (fail)
  change Code.wp _ _ _ _ (w.alloc (.cells (mkCoord n) 59))
  generalize w.alloc (.cells (mkCoord n) 59) = W at xN kb ⊢
  obtain ⟨N, hN⟩ : ∃ N, N = w.heap.size := ⟨_, rfl⟩
  rw [← hN] at xN ⊢
  have XN := Bx.mk xN; have KB := Bx.mk kb
  clear xN kb hN
  go_wp2_with (first
    | (guard_target =~ wpList _ _ _ (⟨some 5, _, _, _, _, _⟩ :: _) _ _; refine wpList_load_row rfl 59 (.tmp 2) rfl N rfl _ _ _ _ XN.out Tryz.underlying59 rfl sizeMkCoord ?_)
    | (guard_target =~ wpList _ _ _ (⟨some 8, _, _, _, _, _⟩ :: _) _ _; refine wpList_build_c (by simp [Region.wanted]) 59 #[(0, .const (.int .u8 201)), (1, .tmp 7)] rfl (mkCoord k) (by simp only [List.map_toArray, List.map_cons, List.map_nil]; exact built_mkCoordoord k) ?_)
    | (guard_target =~ wpList _ _ _ (⟨some 9, _, _, _, _, _⟩ :: _) _ _; simp only [mkCoord]))
  · go_ret
    exact ⟨by rw [decide_eq_true (by omega)]; rfl, KB.out⟩
  · go_ret
    exact ⟨by rw [decide_eq_false (by omega)]; rfl, KB.out⟩
end Go.Proofs.YtifnmidecjmmnaaGreatDoor
