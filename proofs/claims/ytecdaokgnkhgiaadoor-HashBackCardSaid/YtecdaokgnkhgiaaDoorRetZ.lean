/- A region that draws: 'return T{}, ErrX' with a result of several cells: a zero row is built and stored while a variable is read; whatever the order, one end. -/
import Derived.Test.YtecdaokgnkhgiaaDoorTail
import Derived.Orders
import Derived.Laws.Tables
import Derived.WalkKit
namespace Go.Proofs.YtecdaokgnkhgiaaDoor
open Go.RowKit
section
variable {P : Program} {Q : Exit → Act → World → Prop}
theorem wp_load_iface {o : Oper} {a : Act} {w : World} {K : Act → World → Prop} (ty : TypeId) (x : Operand) (ho : o.op = .load ty x)
    (g : Addr) (hx : a.eval x = .pointer (some g)) (v : Value) (hc : w.cell? g = some v) {ms : Array (String × TypeId)} (hu : P.underlying ty = some (.interface ms))
    (h : K (a.put o.dst v) w) : o.wp P a w K Q := by
  unfold Oper.wp execOp
  simp [ho, hx, Instr.loadAt, Instr.sureAddr, loadVar, isAgg, underlying, hu, hc, Result.andThen]
  exact h
/-- the orders of such a region, as one closed fact -/
def zeroOrders (ops : Array Oper) : Bool :=
  ops.size == 4 && Region.ready .any ops #[false, false, false, false] == [0, 1] && Region.ready .any ops #[true, false, false, false] == [1, 2] && Region.ready .any ops #[false, true, false, false] == [0] &&
  Region.ready .any ops #[true, true, false, false] == [2] && Region.ready .any ops #[true, false, true, false] == [1] && Region.ready .any ops #[true, true, true, false] == [3] && Region.ready .any ops #[true, true, true, true] == []
theorem wp_region_zero {id : Nat} {a : Act} {w w' : World} {o0 o1 o2 o3 : Oper} (hm : P.follows .mixedOrders = true) (hr : zeroOrders #[o0, o1, o2, o3] = true)
    (g0 : o0.guard = none) (g1 : o1.guard = none) (g2 : o2.guard = none) (g3 : o3.guard = none) (v0 v1 : Value) (hd : ∀ d, o0.dst = some d → o1.dst ≠ some d)
    (k0 : ∀ (b : Act) (K : Act → World → Prop), K (b.put o0.dst v0) { w with drawn := w.drawn + 1 } → o0.wp P b { w with drawn := w.drawn + 1 } K Q)
    (k1 : ∀ (b : Act) (u : World) (K : Act → World → Prop), (u = { w with drawn := w.drawn + 1 } ∨ u = w') → K (b.put o1.dst v1) u → o1.wp P b u K Q)
    (k2 : ∀ (b : Act) (K : Act → World → Prop), (b = a.put o0.dst v0 ∨ b = (a.put o0.dst v0).put o1.dst v1) → K b w' → o2.wp P b { w with drawn := w.drawn + 1 } K Q)
    (h : o3.wp P ((a.put o0.dst v0).put o1.dst v1) w' (fun b u => Q .normal b u) Q) : (Code.region id #[o0, o1, o2, o3] true).wp P Q a w := by
  simp only [zeroOrders, Bool.and_eq_true, beq_iff_eq] at hr
  obtain ⟨⟨⟨⟨⟨⟨⟨_, r0⟩, r1⟩, r2⟩, r3⟩, r4⟩, r5⟩, r6⟩ := hr
  have hw : ∀ (o : Oper) l, o.guard = none → Region.wanted o l = true := fun o l ho => by simp [Region.wanted, ho]
  have comm : (a.put o1.dst v1).put o0.dst v0 = (a.put o0.dst v0).put o1.dst v1 := (Act.put_comm a v0 v1 hd).symm
  -- the last: everything else is done
  have last : wpAny P .any #[o0, o1, o2, o3] Q 1 #[true, true, true, false] ((a.put o0.dst v0).put o1.dst v1) w' := by
    refine ⟨(fun he => by rw [r5] at he; cases he), fun i hi => ?_⟩
    rw [r5] at hi
    obtain rfl : i = 3 := by simpa using hi
    simp only [wpOp, List.getElem?_toArray, List.getElem?_cons_succ, List.getElem?_cons_zero, hw o3 _ g3, if_true]
    exact .inl (Oper.wp_mono (fun b u hq => ⟨r6, hq⟩) h)
  have s2 : wpAny P .any #[o0, o1, o2, o3] Q 2 #[true, true, false, false] ((a.put o0.dst v0).put o1.dst v1) { w with drawn := w.drawn + 1 } := by
    refine ⟨(fun he => by rw [r3] at he; cases he), fun i hi => ?_⟩
    rw [r3] at hi
    obtain rfl : i = 2 := by simpa using hi
    simp only [wpOp, List.getElem?_toArray, List.getElem?_cons_succ, List.getElem?_cons_zero, hw o2 _ g2, if_true]
    exact .inl (k2 _ _ (.inr rfl) last)
  have s1 : wpAny P .any #[o0, o1, o2, o3] Q 3 #[true, false, false, false] (a.put o0.dst v0) { w with drawn := w.drawn + 1 } := by
    refine ⟨(fun he => by rw [r1] at he; cases he), fun i hi => ?_⟩
    rw [r1] at hi
    rcases (by simpa using hi : i = 1 ∨ i = 2) with rfl | rfl
    · simp only [wpOp, List.getElem?_toArray, List.getElem?_cons_succ, List.getElem?_cons_zero, hw o1 _ g1, if_true]
      exact .inl (k1 _ _ _ (.inl rfl) s2)
    · simp only [wpOp, List.getElem?_toArray, List.getElem?_cons_succ, List.getElem?_cons_zero, hw o2 _ g2, if_true]
      refine .inl (k2 _ _ (.inl rfl) ⟨(fun he => by rw [show (#[true, false, false, false] : Array Bool).setIfInBounds 2 true = #[true, false, true, false] from rfl, r4] at he; cases he), fun i hi => ?_⟩)
      rw [show (#[true, false, false, false] : Array Bool).setIfInBounds 2 true = #[true, false, true, false] from rfl, r4] at hi
      obtain rfl : i = 1 := by simpa using hi
      simp only [wpOp, List.getElem?_toArray, List.getElem?_cons_succ, List.getElem?_cons_zero, hw o1 _ g1, if_true]
      exact .inl (k1 _ _ _ (.inr rfl) last)
  refine wp_region_any hm ⟨(fun he => by rw [show Array.replicate (#[o0, o1, o2, o3] : Array Oper).size false = #[false, false, false, false] from rfl, r0] at he; cases he), fun i hi => ?_⟩
  rw [show Array.replicate (#[o0, o1, o2, o3] : Array Oper).size false = #[false, false, false, false] from rfl, r0] at hi
  rcases (by simpa using hi : i = 0 ∨ i = 1) with rfl | rfl
  · simp only [wpOp, List.getElem?_toArray, List.getElem?_cons_zero, hw o0 _ g0, if_true]
    exact .inl (k0 _ _ s1)
  · simp only [wpOp, List.getElem?_toArray, List.getElem?_cons_succ, List.getElem?_cons_zero, hw o1 _ g1, if_true]
    refine .inl (k1 _ _ _ (.inl rfl) ⟨(fun he => by rw [show (Array.replicate (#[o0, o1, o2, o3] : Array Oper).size false).setIfInBounds 1 true = #[false, true, false, false] from rfl, r2] at he; cases he), fun i hi => ?_⟩)
    rw [show (Array.replicate (#[o0, o1, o2, o3] : Array Oper).size false).setIfInBounds 1 true = #[false, true, false, false] from rfl, r2] at hi
    obtain rfl : i = 0 := by simpa using hi
    simp only [wpOp, List.getElem?_toArray, List.getElem?_cons_zero, hw o0 _ g0, if_true]
    refine .inl (k0 _ _ ?_)
    rw [comm]
    exact s2
end
end Go.Proofs.YtecdaokgnkhgiaaDoor
