/- cartulary/coord, walked: may, Span, Of, Parent, Sibling, Children. -/
import Derived.Test.YtifnmidecjmmnaaGreatDoorCoQ
import Derived.Test.YtifnmidecjmmnaaGreatDoorTail
import Derived.Test.YtifnmidecjmmnaaGreatDoorProg
import Derived.Test.YtifnmidecjmmnaaGreatDoorRows
import Derived.WalkKit
import Derived.WalkLawsBesides
import Derived.BigQuiet
import Derived.BigRegion
import Derived.Laws.Rows
import Derived.Deep.DeepCutAuto
import Derived.Deep.CutBlock
namespace Go.Proofs.YtifnmidecjmmnaaGreatDoor
open Go.RowKit
def cv (L I : Nat) : Value := .agg #[.int .u8 (L : Int), .int .u64 (I : Int)]
def sv (B E : Nat) : Value := .agg #[.int .u64 (B : Int), .int .u64 (E : Int)]
theorem two_pow63 : (9223372036854775808 : Int) = ((2 ^ 63 : Nat) : Int) := by decide
theorem may_dec {L I : Nat} (h : L ≤ 63) : decide ((I : Int) < 9223372036854775808 / 2 ^ L) = mayB L I := by
  rw [mayB_shift, decide_eq_true h, Bool.true_and, Bool.eq_iff_iff]
  simp only [decide_eq_true_eq]
  rw [two_pow63, show ((2 : Int) ^ L) = ((2 ^ L : Nat) : Int) by simp, ← Int.natCast_ediv, Int.ofNat_lt]
theorem may_not {L I : Nat} (h : ¬ L ≤ 63) : mayB L I = false := by
  rw [mayB_shift, decide_eq_false h, Bool.false_and]
theorem below_new (w : World) (o : Obj) : Below w.heap.size w (w.alloc o) := (Below.refl _ _).alloc (Nat.le_refl _) _
theorem cell_at {w : World} {g : Nat} {cs : Array Value} {T : TypeId} {fr : Nat × Nat} (h : w.heap[g]? = some (.cells cs T fr)) (j : Nat) (v : Value) (hv : cs[j]? = some v) : w.cell? ⟨g, j, none⟩ = some v := by
  simp [World.cell?, h, hv]
theorem two_new {w w1 : World} {o1 o2 : Obj} (hb : Below ((w.alloc o1).alloc o2).heap.size ((w.alloc o1).alloc o2) w1) :
    w1.heap[w.heap.size]? = some o1 ∧ w1.heap[w.heap.size + 1]? = some o2 ∧ Below w.heap.size w w1 ∧ w.heap.size + 2 ≤ w1.heap.size := by
  have hs : ((w.alloc o1).alloc o2).heap.size = w.heap.size + 2 := by simp
  refine ⟨(hb.block _ (by omega)).trans ?_, (hb.block _ (by omega)).trans ?_, ?_, by have := hb.size; omega⟩
  · rw [Below.heap_alloc _ _ _ (by simp)]; exact heap_alloc_new _ _
  · have := heap_alloc_new (w.alloc o1) o2
    simpa using this
  · exact ((below_new w o1).alloc (by simp) o2).trans (hb.mono (by omega))
/-- a block of two cells -/
theorem two_cells {w : World} {n : Nat} {a b : Value} {T : TypeId} (h : w.heap[n]? = some (.cells #[a, b] T (0, 0))) :
    w.cell? ⟨n, 0, none⟩ = some a ∧ w.cell? ⟨n, 1, none⟩ = some b ∧ w.frozen? ⟨n, 0, none⟩ = false ∧ w.frozen? ⟨n, 1, none⟩ = false := by
  refine ⟨cell_at h _ _ rfl, cell_at h _ _ rfl, ?_, ?_⟩ <;> simp [World.frozen?, h]
theorem two_setC {w : World} {n : Nat} {a b : Value} {T : TypeId} {fr : Nat × Nat} (h : w.heap[n]? = some (.cells #[a, b] T fr)) (x y : Value) :
    ((w.setCell ⟨n, 0, none⟩ x).setCell ⟨n, 1, none⟩ y).heap[n]? = some (.cells #[x, y] T fr) := by
  have hn := (Array.getElem?_eq_some_iff.1 h).1
  simp [World.setCell, Array.getElem?_modify, h]
theorem res_two {fn : Func} {p u : Tmp} {ty : TypeId} {P : Program} (h : fn.results = #[.cell p ty, .tmp u]) (tmps : Array Value) (w : World) (g : Nat) (t : TypeId) (cs : Array Value) (fr : Nat × Nat) (f : Array Field)
    (hp : tmps.getD p undef = .pointer (some ⟨g, 0, none⟩)) (hg : w.heap[g]? = some (.cells cs t fr))
    (hu : P.underlying ty = some (.struct f)) (hi : (P.info? ty).map (·.size) = some cs.size) :
    (results fn tmps).run P w = .ok (.tuple #[.agg cs, tmps.getD u undef]) w := by
  rw [results_cell_tmp h, hp]
  simp [asAddr, run_loadVar_row w g t ty cs fr (.struct f) hg hu rfl hi, Result.andThen]
theorem sizeC : (Tryz.prog.info? 59).map (·.size) = some 2 := by kernel_rfl
theorem sizeS : (Tryz.prog.info? 24).map (·.size) = some 2 := by kernel_rfl
set_option maxHeartbeats 800000 in
theorem may_any (w : World) (L I : Nat) : Calls Tryz.prog 105 #[cv L I] w fun e w' => e = .returned (.bool (mayB L I)) ∧ Below w.heap.size w w' := by
  unfold cv
  go_enter Tryz.func105, Tryz.ntmps105
  by_cases h : L ≤ 63
  · have hd := may_dec (I := I) h
    go_wp2_with fail
    go_ret
    exact ⟨rfl, below_new _ _⟩
  · rw [may_not h]
    go_wp2_with fail
    go_ret
    exact ⟨rfl, below_new _ _⟩
theorem wrap_nat {n : Nat} {x : Int} (hx : x = (n : Int)) (h : n < 2 ^ 64) : IntKind.u64.wrap x = (n : Int) := by
  subst hx
  simp [IntKind.wrap, IntKind.bits, IntKind.signed]; omega
theorem shl_fits {L I : Nat} (h : mayB L I = true) : IntKind.u64.wrap ((I : Int) * 2 ^ min L 64) = ((I * 2 ^ L : Nat) : Int) := by
  have hL := ((mayB_iff L I).1 h).1
  have := may_begin h
  have hp := Nat.two_pow_pos L
  exact wrap_nat (n := I * 2 ^ L) (by rw [Nat.min_eq_left (by omega)]; simp) (by omega)
theorem shl_fits' {L I : Nat} (h : mayB L I = true) : IntKind.u64.wrap (IntKind.u64.wrap ((I : Int) + 1) * 2 ^ min L 64) = (((I + 1) * 2 ^ L : Nat) : Int) := by
  obtain ⟨hL, hI⟩ := (mayB_iff L I).1 h
  have := may_end h
  have hp : 2 ^ (63 - L) ≤ 2 ^ 63 := Nat.pow_le_pow_right (by decide) (by omega)
  have e : IntKind.u64.wrap ((I : Int) + 1) = ((I + 1 : Nat) : Int) := wrap_nat (n := I + 1) (by simp) (by omega)
  rw [e]
  exact wrap_nat (n := (I + 1) * 2 ^ L) (by rw [Nat.min_eq_left (by omega)]; simp) (by omega)
set_option maxHeartbeats 800000 in
theorem span_any (w : World) (L I : Nat) : Calls Tryz.prog 66 #[cv L I] w fun e w' => e = .returned (.tuple #[sv (spB L I) (spE L I), .bool (mayB L I)]) ∧ Below w.heap.size w w' := by
  have hm := fun w => may_any w L I
  unfold cv at hm ⊢
  have HM := Bx.mk hm; clear hm
  go_enter Tryz.func66, Tryz.ntmps66
  go_wp2_with fail
  refine (HM.out _).mono ?_
  rintro e w1 ⟨rfl, hb⟩
  obtain ⟨h1, h2, hb1, hs1⟩ := two_new hb
  obtain ⟨a1, a2, a3, a4⟩ := two_cells h1
  obtain ⟨b1, b2, b3, b4⟩ := two_cells h2
  have HB := Bx.mk hb1; have HS := Bx.mk hs1; have H2 := Bx.mk h2
  clear hb h1 h2 hb1 hs1
  by_cases h : mayB L I = true
  · rw [h]
    go_wp2_with fail
    have hB := HB.out; have hS := HS.out
    refine bodyPost_ret (res_two rfl _ _ (w.heap.size + 1) _ _ _ _ rfl (two_setC H2.out _ _) Tryz.underlying24 sizeS) rfl ⟨?_, (hB.setCell (Nat.le_succ _) _).setCell (Nat.le_succ _) _⟩
    rw [show spB L I = I * 2 ^ L by unfold spB; rw [if_pos h], show spE L I = (I + 1) * 2 ^ L by unfold spE; rw [if_pos h]]
    have e1 := shl_fits h; have e2 := shl_fits' h
    rw [e1, e2, h]
    rfl
  · rw [Bool.eq_false_iff.2 h]
    go_wp2_with fail
    have hB := HB.out; have hS := HS.out
    refine bodyPost_ret (res_two rfl _ _ (w.heap.size + 1) _ _ _ _ rfl (two_setC H2.out _ _) Tryz.underlying24 sizeS) rfl ⟨?_, (hB.setCell (Nat.le_succ _) _).setCell (Nat.le_succ _) _⟩
    rw [show spB L I = 0 by unfold spB; rw [if_neg h], show spE L I = 0 by unfold spE; rw [if_neg h], Bool.eq_false_iff.2 h]
    rfl
end Go.Proofs.YtifnmidecjmmnaaGreatDoor
