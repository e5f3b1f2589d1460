/- A whole item stored into the middle of a row; deletion at the end of a region (chapter 13). -/
import Derived.Test.YtdepmjgibenejaaDoorRg
import Derived.Deep.MidRow
namespace Go.Proofs.YtdepmjgibenejaaDoor
open Go.RowKit Go.Maps
/-- cells set one behind the other -/
def setList : List Value → Nat → List Value → List Value
  | xs, _, [] => xs
  | xs, o, v :: vs => setList (xs.set o v) (o + 1) vs
theorem setList_cons (y : Value) : ∀ (vs xs : List Value) (o : Nat), setList (y :: xs) (o + 1) vs = y :: setList xs o vs
  | [], _, _ => rfl
  | v :: vs, xs, o => by
    show setList ((y :: xs).set (o + 1) v) (o + 1 + 1) vs = y :: setList (xs.set o v) (o + 1) vs
    rw [List.set_cons_succ, setList_cons y vs (xs.set o v) (o + 1)]
theorem setList_app (ys : List Value) : ∀ (vs : List Value) (o : Nat) (xs : List Value), setList (ys ++ xs) (ys.length + o) vs = ys ++ setList xs o vs := by
  induction ys with
  | nil => intro vs o xs; rw [List.nil_append, List.nil_append, List.length_nil, Nat.zero_add]
  | cons y ys ih =>
    intro vs o xs
    rw [List.cons_append, List.length_cons, show ys.length + 1 + o = (ys.length + o) + 1 by omega, setList_cons, ih, List.cons_append]
theorem setList_head : ∀ (vs xs ys : List Value), xs.length = vs.length → setList (xs ++ ys) 0 vs = vs ++ ys
  | [], xs, ys, h => by
    have : xs = [] := List.length_eq_zero_iff.1 h
    subst this; rfl
  | v :: vs, x :: xs, ys, h => by
    show setList ((x :: (xs ++ ys)).set 0 v) (0 + 1) vs = v :: (vs ++ ys)
    rw [List.set_cons_zero, setList_cons, setList_head vs xs ys (by simpa using h)]
theorem setList_flat {α : Type} (f : α → List Value) (S : Nat) (x : α) (hx : (f x).length = S) : ∀ (l : List α) (j : Nat), j < l.length → (∀ y ∈ l, (f y).length = S) → setList (l.flatMap f) (j * S) (f x) = (l.set j x).flatMap f
  | y :: l, 0, _, h => by
    rw [List.flatMap_cons, Nat.zero_mul, setList_head _ _ _ (by rw [hx, h y (by simp)]), List.set_cons_zero, List.flatMap_cons]
  | y :: l, j + 1, hj, h => by
    have e : (j + 1) * S = (f y).length + j * S := by rw [h y (by simp), Nat.add_mul]; omega
    rw [List.flatMap_cons, e, setList_app, setList_flat f S x hx l j (by simpa using hj) (fun z hz => h z (by simp [hz])), List.set_cons_succ, List.flatMap_cons]
theorem RowG.setCells {base : Nat} {e : TypeId} {size g n c : Nat} : ∀ (vs : List Value) (o : Nat) {w : World} {cur : Array Value} {xs : List Value}, RowG w base e size g n c cur xs →
    ∃ cur', RowG (w.setCells g o vs) base e size g n c cur' (setList xs o vs)
  | [], _, _, cur, _, h => ⟨cur, h⟩
  | v :: vs, o, _, _, _, h => RowG.setCells vs (o + 1) (h.setW o v)
theorem keep_setCells (g : Nat) : ∀ (vs : List Value) (o : Nat) (w : World), Keep (fun j => j = g) w (w.setCells g o vs)
  | [], _, _w => Keep.refl _ _
  | v :: vs, o, w => (Keep.setCell w ⟨g, o, none⟩ v).trans (keep_setCells g vs (o + 1) _) (fun _ _ h => h)
theorem RowG.there {w : World} {base : Nat} {e : TypeId} {size g n c : Nat} {cur : Array Value} {xs : List Value} (h : RowG w base e size g n c cur xs) {o m : Nat} (hm : o + m ≤ n * size) : w.there g o m := fun j hj => by
  have hlt : o + j < xs.length := by rw [h.ln]; omega
  refine ⟨?_, frozenC h.hb _⟩
  rw [h.cell (List.getElem?_eq_getElem hlt)]; rfl
theorem last_delete {P : Program} {Q : Exit → Act → World → Prop} {o : Oper} {a : Act} {w w' : World} (m x : Operand) (t k : TypeId) (ho : o.op = Op.call { callee := Callee.builtin Builtin.delete, args := #[m, x], argTypes := #[t, k] }) (hd : o.dst = none)
    (mv xv : Value) (hm : a.eval m = mv) (hx : a.eval x = xv) (hrun : (Builtin.delete_ #[t, k] o.type #[mv, xv]).run P w = .ok (.tuple #[]) w') (h : Q .normal a w') : o.wp P a w (Q .normal) Q := by
  have e : a.put o.dst (.tuple #[]) = a := by rw [hd]; rfl
  have h2 : Q .normal (a.put o.dst (.tuple #[])) w' := by rw [e]; exact h
  unfold Oper.wp
  simp [execOp, ho, resolve, invoke, builtin, hm, hx, hrun, Result.andThen]
  exact h2
theorem RowG.shorter {w : World} {base : Nat} {e : TypeId} {size g n c : Nat} {cur : Array Value} {xs : List Value} (h : RowG w base e size g (n + 1) c cur xs) : w.ownsRow base e size (.slice (some ⟨g, 0, none⟩) n c) n (xs.take (n * size)) := by
  have hle : n * size ≤ (n + 1) * size := Nat.mul_le_mul_right _ (by omega)
  refine ⟨by rw [List.length_take, h.ln]; omega, .inr ⟨g, c, cur, rfl, h.bb, h.hb, by have := h.nc; omega, h.cm, h.sz, ?_⟩⟩
  rw [← h.tk, List.take_take, Nat.min_eq_left hle]
theorem own_shapeC {w : World} {base : Nat} {e : TypeId} {size n : Nat} {v : Value} {xs : List Value} (h : w.ownsRow base e size v n xs) : ∃ a c, v = .slice a n c := by
  rcases h.2 with ⟨rfl, rfl⟩ | ⟨g, cap, cur, rfl, _⟩
  · exact ⟨none, 0, rfl⟩
  · exact ⟨_, cap, rfl⟩
theorem wpList_build_c {P : Program} {ops : Array Oper} {rest : List Oper} {o : Oper} {a : Act} {w : World} {Q : Exit → Act → World → Prop} (hw : Region.wanted o (yielded ops a.tmps) = true) (T : TypeId) (parts : Array (Nat × Operand)) (ho : o.op = .build T parts)
    (cs : Array Value) (hb : P.built T (parts.map fun (i, x) => (i, a.eval x)).toList = some cs) (h : wpList P ops Q rest (a.put o.dst (.agg cs)) w) : wpList P ops Q (o :: rest) a w :=
  wpList_step fun K hK => by
    rw [if_pos hw]
    refine wp_build T parts ho (by rw [hb]; rfl) ?_
    rw [hb]
    exact hK _ _ h
/-- an operation whose run is known -/
theorem wpList_run_c {P : Program} {ops : Array Oper} {rest : List Oper} {o : Oper} {a : Act} {w w' : World} {Q : Exit → Act → World → Prop} (hw : Region.wanted o (yielded ops a.tmps) = true) (v : Value)
    (hr : (execOp a.eval o).run P w = .ok (.value v) w') (h : wpList P ops Q rest (a.put o.dst v) w') : wpList P ops Q (o :: rest) a w :=
  wpList_step fun K hK => by
    rw [if_pos hw]
    unfold Oper.wp
    rw [hr, Oper.upon_value]
    exact hK _ _ h
theorem mapTurned_keep {w w' : World} {b : Nat} (h : w.mapTurned w' b) : Keep (fun j => j = b) w w' :=
  ⟨h.grown.os, h.grown.tape, h.grown.output, h.grown.size, fun k hk hn => h.grown.block k hk (fun e => hn (Option.some.inj e))⟩
theorem ownsMap_tight {H : Type} {w : World} {P : Program} {k : TypeId} {R : Value → Option (DataW H × List MemPlace)} {b n : Nat} {D : DataW H} (h : w.ownsMap P k R b n D) : w.ownsMap P k R b (Maps.size D) D := by
  obtain ⟨es, clock, hb, F, hs, rfl⟩ := h
  refine ⟨es, clock, hb, F, ?_, rfl⟩
  rw [size_eq, length_read]
  exact Nat.le_refl _
end Go.Proofs.YtdepmjgibenejaaDoor
