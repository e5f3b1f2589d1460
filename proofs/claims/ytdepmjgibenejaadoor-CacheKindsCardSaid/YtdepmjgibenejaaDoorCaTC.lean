/- Caches of cartulary/api.Tile, cartulary/api.Hash: New. -/
import Derived.Test.YtdepmjgibenejaaDoorCaTB
namespace Go.Proofs.YtdepmjgibenejaaDoor
set_option maxRecDepth 100000
open Go.RowKit Go.Maps
theorem makeT (w : World) : (Instr.makeSlice 74 (.int .i64 1) (.int .i64 1)).run Tryd.prog w = .ok (.slice (some ⟨w.heap.size, 0, none⟩) 1 1) (w.alloc (.cells zeroT 82)) := by kernel_rfl
theorem builtCT (m : Int) (b : Option Nat) (a : Option Addr) (n c : Nat) : Tryd.prog.built 76 [(0, .int .i64 m), (1, .map b), (2, .slice a n c)] = some #[.int .i64 m, .map b, .slice a n c, .slice none 0 0] := by kernel_rfl
set_option maxHeartbeats 1600000 in
theorem ynewT (w : World) (n : Nat) (hn : n ≤ 1024) : Calls Tryd.prog 6 #[.int .i64 (n : Int)] w fun e w' => ∃ r, e = .returned (.tuple #[.pointer (some ⟨r, 0, none⟩), .nilIface]) ∧ ∃ B, CaYT w.heap.size w' r n [] B ∧ (∀ k, B k → w.heap.size ≤ k) ∧ Below w.heap.size w w' := by
  have f0 : ¬ (n : Int) < 0 := by omega
  have f1 : ¬ (1024 : Int) < (n : Int) := by omega
  have hmm := @run_makeMap Tryd.prog
  have hms := makeT
  have H1024 := Bx.mk hn
  clear hn
  go_enter Tryd.func6, Tryd.ntmps6
  go_wp2_with (guard_target =~ wpList _ _ _ (⟨some 14, _, _, _, _, _⟩ :: _) _ _; refine wpList_build_c (by simp [Region.wanted, yielded]) 76 #[(0, .tmp 11), (1, .tmp 12), (2, .tmp 13)] rfl #[.int .i64 (n : Int), .map (some w.heap.size), .slice (some ⟨w.heap.size + 1, 0, none⟩) 1 1, .slice none 0 0] (by simp only [List.map_toArray, List.map_cons, List.map_nil]; exact builtCT _ _ _ _ _) ?_)
  go_ret2
  obtain ⟨w1, hw1⟩ : ∃ w1, w1 = w.alloc (.map #[] 0) := ⟨_, rfl⟩
  have s1 : w1.heap.size = w.heap.size + 1 := by rw [hw1]; simp
  have b1 : Below w.heap.size w w1 := by rw [hw1]; exact er_al (Below.refl _ _) _
  have m1 : w1.ownsMap Tryd.prog 30 (plainElem Tryd.prog 3) w.heap.size 0 (.map [] : DataW Unit) := by rw [hw1]; exact World.ownsMap_made _ _ _ _
  obtain ⟨w2, hw2⟩ : ∃ w2, w2 = w1.alloc (.cells zeroT 82) := ⟨_, rfl⟩
  have s2 : w2.heap.size = w.heap.size + 2 := by rw [hw2]; simp [s1]
  have b2 : Below w1.heap.size w1 w2 := by rw [hw2]; exact er_al (Below.refl _ _) _
  have g2 : w2.heap[w.heap.size + 1]? = some (.cells zeroT 82 (0, 0)) := by rw [hw2, ← s1]; exact heap_alloc_new _ _
  have m2 := ownsMap_belowz m1 b2
  obtain ⟨w3, hw3⟩ : ∃ w3, w3 = w2.alloc (.cells #[.int .i64 (n : Int), .map (some w.heap.size), .slice (some ⟨w.heap.size + 1, 0, none⟩) 1 1, .slice none 0 0] 76) := ⟨_, rfl⟩
  have b3 : Below w2.heap.size w2 w3 := by rw [hw3]; exact er_al (Below.refl _ _) _
  have g3 : w3.heap[w.heap.size + 2]? = some (.cells #[.int .i64 (n : Int), .map (some w.heap.size), .slice (some ⟨w.heap.size + 1, 0, none⟩) 1 1, .slice none 0 0] 76 (0, 0)) := by rw [hw3, ← s2]; exact heap_alloc_new _ _
  have g4 := (b3.block _ (Array.getElem?_eq_some_iff.1 g2).1).trans g2
  have m3 := ownsMap_belowz m2 b3
  have hall : Below w.heap.size w w3 := (b1.trans (b2.mono b1.size)).trans (b3.mono (Nat.le_trans b1.size b2.size))
  have hM : CaMT w.heap.size w3 (w.heap.size + 2) w.heap.size n [⟨⟨0, 0, 0⟩, zH, 0, 0⟩] (w.heap.size + 1) 1 1 zeroT [] (.slice none 0 0) (.map []) :=
    ⟨g3, by omega, Nat.le_refl _, rfl, ⟨g4, by omega, Nat.le_refl _, by decide, by rfl, by rw [zeroT_list]; rfl, by rfl⟩, World.ownsRow_nil _ _ _ _, ownsMap_tight m3, fun x hx => by rw [List.mem_singleton.1 hx]; exact ⟨rfl, rfl⟩⟩
  have hfin : ((w.alloc (.map #[] 0)).alloc (.cells zeroT 82)).alloc (.cells #[.int .i64 (n : Int), .map (some w.heap.size), .slice (some ⟨w.heap.size + 1, 0, none⟩) 1 1, .slice none 0 0] 76) = w3 := by rw [hw3, hw2, hw1]
  refine ⟨w.heap.size + 2, ?_, fun k => CaBzT (w.heap.size + 2) w.heap.size (w.heap.size + 1) (.slice none 0 0) k, ?_, fun k hk => ?_, ?_⟩
  · simp
  · first | rw [hfin] | skip
    exact ⟨H1024.out, w.heap.size, _, _, _, _, _, _, _, [], hM, CaV.new klT kwT n ⟨⟨0, 0, 0⟩, zH, 0, 0⟩ rfl rfl, fun k => Iff.rfl⟩
  · rcases hk with rfl | rfl | rfl | h
    · omega
    · exact Nat.le_refl _
    · omega
    · cases h
  · first | rw [hfin] | skip
    exact hall
end Go.Proofs.YtdepmjgibenejaaDoor
