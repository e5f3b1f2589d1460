/- Slices of one and of two hashes, built. -/
import Derived.Test.YtmlpldkgennmkaaDoorVo
import Derived.Great.BuildSlice
namespace Go.Proofs.YtmlpldkgennmkaaDoor
set_option maxRecDepth 100000
open Go.RowKit
theorem bs_two (w : World) (a b : List UInt8) (ha : a.length = 32) (hb : b.length = 32) : (Instr.buildSlice 25 2 #[(0, .agg (ocells a)), (1, .agg (ocells b))]).run Tryd.prog w = .ok (.slice (some ⟨w.heap.size, 0, none⟩) 2 2) (w.alloc (.cells (ocells a ++ ocells b) 24)) := by
  obtain ⟨ie, z, hie, hz, hs⟩ := infoHz
  refine run_buildSlice w _ _ 2 _ (ocells a ++ ocells b) ie z underHs hie hz (by rw [hs]; decide) (by rw [hs]; decide) ?_
  rw [hs]
  exact fill_two _ _ (by simp) rfl rfl _ _ (by rw [ocells_size, ha]) (by rw [ocells_size, hb])
theorem wpList_bs_two {ops : Array Oper} {rest : List Oper} {o : Oper} {a : Act} {w : World} {Q : Exit → Act → World → Prop} (hw : Region.wanted o (yielded ops a.tmps) = true) (x y : Operand) (ho : o.op = .buildSlice 25 2 #[(0, x), (1, y)]) (p q : List UInt8) (hp : p.length = 32) (hq : q.length = 32)
    (hx : a.eval x = .agg (ocells p)) (hy : a.eval y = .agg (ocells q)) (h : wpList Tryd.prog ops Q rest (a.put o.dst (.slice (some ⟨w.heap.size, 0, none⟩) 2 2)) (w.alloc (.cells (ocells p ++ ocells q) 24))) : wpList Tryd.prog ops Q (o :: rest) a w :=
  wpList_step fun K hK => by
    rw [if_pos hw]
    have hr := bs_two w p q hp hq
    unfold Oper.wp execOp
    simp only [ho, List.map_toArray, List.map_cons, List.map_nil, hx, hy, Sem.run_bind, hr, Result.andThen_ok]
    exact hK _ _ h
/-- a slice of the walk's own that holds these hashes -/
def HssN (w : World) (v : Value) (l : List (List UInt8)) : Prop := ∃ B, v = .slice (some ⟨B, 0, none⟩) l.length l.length ∧ Hss w (.slice (some ⟨B, 0, none⟩) l.length l.length) l
theorem HssN.below {w w' : World} {v : Value} {l : List (List UInt8)} (h : HssN w v l) (k : Below w.heap.size w w') : HssN w' v l := by
  obtain ⟨B, h1, h2⟩ := h
  exact ⟨B, h1, h2.below k⟩
theorem hss_nil (w : World) : Hss w (.slice none 0 0) [] := ⟨(fun _ h => (by cases h)), none, 0, rfl, Nat.le_refl _, (by unfold maxLen; decide), fun h => absurd rfl h⟩
theorem hssN_one (w : World) (a : List UInt8) (ha : a.length = 32) : HssN (w.alloc (.cells (ocells a) 24)) (.slice (some ⟨w.heap.size, 0, none⟩) 1 1) [a] := by
  refine ⟨w.heap.size, rfl, fun x hx => by obtain rfl : x = a := by simpa using hx
                                           exact ha, _, 1, rfl, Nat.le_refl _, by unfold maxLen; decide, fun _ => ⟨w.heap.size, 0, rfl, by simp, fun i hi => ?_⟩⟩
  obtain rfl : i = 0 := by simpa using hi
  intro j v hv
  have := er_cellAt (heap_alloc_new w (.cells (ocells a) 24)) j v (by simpa [ocells] using hv)
  simpa using this
theorem hssN_two (w : World) (a b : List UInt8) (ha : a.length = 32) (hb : b.length = 32) : HssN (w.alloc (.cells (ocells a ++ ocells b) 24)) (.slice (some ⟨w.heap.size, 0, none⟩) 2 2) [a, b] := by
  have tw := Two.new (heap_alloc_new w (.cells (ocells a ++ ocells b) 24)) ha hb
  refine ⟨w.heap.size, rfl, fun x hx => ?_, _, 2, rfl, Nat.le_refl _, by unfold maxLen; decide, fun _ => ⟨w.heap.size, 0, rfl, by simp, fun i hi => ?_⟩⟩
  · rcases List.mem_cons.1 hx with rfl | hx
    · exact ha
    · obtain rfl : x = b := by simpa using hx
      exact hb
  · match i, hi with
    | 0, _ => exact tw.one
    | 1, _ => exact tw.two
    | n + 2, h => exact absurd h (by simp)
end Go.Proofs.YtmlpldkgennmkaaDoor
