/- An append, both ways told apart: into the room of the same block, or into a new one, and then the old block is as it was. A row in memory whose cells are set one by one. A whole item stored into the middle of a row; deletion at the end of a region (chapter 13). An append of a row that lies there already, inside a drawn region. cartularyref02.Plain, and the results of a function that tells a value and a fault. compact: a range that is not there: Root, Span, Hashes, Copy, Join. -/
import Derived.Deep.DeepAppendRoom
import Derived.ArgAppend
import Derived.Maps.AppendAt
import Derived.Test.YtgbafjmklefoiaaGreatDoorZ07
import Derived.Maps.OwnSet
import Derived.Deep.MidRow
import Derived.Test.YtgbafjmklefoiaaGreatDoorZ04
import Derived.Test.YtgbafjmklefoiaaGreatDoorZ16
section
namespace Go.Proofs.YtgbafjmklefoiaaGreatDoor
section
variable {P : Program} (w : World)
/-- what such an append leaves -/
def AppTwo (w w' : World) (base : Nat) (e : TypeId) (size : Nat) (v : Value) (n m : Nat) (ys : List Value) (v' : Value) : Prop :=
  w'.ownsRow base e size v' (n + m) ys ∧
  ((∃ g cap, v = .slice (some ⟨g, 0, none⟩) n cap ∧ v' = .slice (some ⟨g, 0, none⟩) (n + m) cap ∧ w.grownBy w' (some g)) ∨ (w.grownBy w' none ∧ ∀ k, v'.ownBlock = some k → w.heap.size ≤ k))
theorem run_append_apw (t ty : TypeId) (base : Nat) (e : TypeId) (i : TypeInfo) (z : Value) (size bytes : Nat) (ht : P.underlying t = some (.slice e)) (hi : P.info? e = some i) (hz : i.zero = some z)
    (hsize : i.size = size) (hby : i.bytes = bytes) (hzs : z.cells.size = size) (hsz : 0 < size)
    (v : Value) (n : Nat) (xs : List Value) (hown : w.ownsRow base e size v n xs)
    (ad : Addr) (m c : Nat) (news : List Value) (hl : news.length = m * size) (hnews : ∀ j u, news[j]? = some u → w.cell? (ad.add j) = some u) (h1 : ∀ u ∈ news, u.oneCell' = true)
    (h63 : n + m ≤ maxLen) (hbytes : (n + m) * bytes ≤ 140737488355328) (hbase : base ≤ w.heap.size) :
    ∃ v' w', (Builtin.append_ #[t, t] ty #[v, .slice (some ad) m c]).run P w = .ok v' w' ∧ AppTwo w w' base e size v n m (xs ++ news) v' := by
  rcases id hown.2 with ⟨h0, hn⟩ | ⟨g, cap, cur, hv, _⟩
  · obtain ⟨v', w', hr, h2, h3, _, h5⟩ := run_append_own_at (P := P) w base t ty e i z size bytes ht hi hz hsize hby hzs hsz v n xs hown ad m c news hl hnews h1 h63 hbytes hbase
    subst h0
    refine ⟨v', w', hr, h2, .inr ⟨h3, fun k hk => ?_⟩⟩
    rcases h5 with h5 | h5
    · rw [h5] at hk; cases hk
    · rw [h5] at hk; cases hk; exact Nat.le_refl _
  · subst hv
    by_cases hroom : n + m ≤ cap
    · obtain ⟨w', hr, h2, h3⟩ := run_append_own_spare (P := P) w base t ty e i size ht hi hsize g n cap xs hown ad m c news hl hnews h1 hroom
      exact ⟨_, w', hr, h2, .inl ⟨g, cap, rfl, rfl, h3⟩⟩
    · obtain ⟨v', w', hr, h2, h3⟩ := run_append_arg_grows (P := P) w t ty e i z size bytes ht hi hz hsize hby hzs hsz ⟨g, 0, none⟩ n cap xs hown.1 (hown.cells (g := g) rfl) ad m c news hl hnews (by omega) h63 hbytes
      refine ⟨v', w', hr, ⟨h2.1, ?_⟩, .inr ⟨h3, fun k hk => ?_⟩⟩
      · rcases h2.2 with h | ⟨g', c', cur', e1, e2, e3⟩
        · exact .inl h
        · exact .inr ⟨g', c', cur', e1, Nat.le_trans hbase e2, e3⟩
      · rcases h2.2 with ⟨h, _⟩ | ⟨g', c', cur', e1, e2, e3⟩
        · rw [h] at hk; cases hk
        · rw [e1] at hk
          have : g' = k := by simpa [Value.ownBlock] using hk
          omega
/-- for the walk -/
theorem wpList_append_apw {ops : Array Oper} {rest : List Oper} {o : Oper} {a : Act} {Q : Exit → Act → World → Prop} (hgd : o.guard = none) (s x : Operand) (t : TypeId)
    (ho : o.op = .call { callee := .builtin .append, args := #[s, x], argTypes := #[t, t] })
    (base : Nat) (e : TypeId) (i : TypeInfo) (z : Value) (size bytes : Nat) (ht : P.underlying t = some (.slice e)) (hi : P.info? e = some i) (hz : i.zero = some z)
    (hsize : i.size = size) (hby : i.bytes = bytes) (hzs : z.cells.size = size) (hsz : 0 < size)
    (v : Value) (n : Nat) (xs : List Value) (hs : a.eval s = v) (hown : w.ownsRow base e size v n xs)
    (ad : Addr) (m c : Nat) (news : List Value) (hx : a.eval x = .slice (some ad) m c) (hl : news.length = m * size) (hnews : ∀ j u, news[j]? = some u → w.cell? (ad.add j) = some u) (h1 : ∀ u ∈ news, u.oneCell' = true)
    (h63 : n + m ≤ maxLen) (hbytes : (n + m) * bytes ≤ 140737488355328) (hbase : base ≤ w.heap.size)
    (h : ∀ v' w', AppTwo w w' base e size v n m (xs ++ news) v' → wpList P ops Q rest (a.put o.dst v') w') : wpList P ops Q (o :: rest) a w := by
  refine wpList_plain hgd fun K hK => ?_
  obtain ⟨v', w', hr, h2⟩ := run_append_apw (P := P) w t o.type base e i z size bytes ht hi hz hsize hby hzs hsz v n xs hown ad m c news hl hnews h1 h63 hbytes hbase
  unfold Oper.wp execOp
  simp only [ho, resolve, invoke, builtin, Sem.run_bind, Sem.run_pure, Result.andThen_ok, List.map_toArray, List.map_cons, List.map_nil, hs, hx, hr]
  exact hK _ _ (h v' w' h2)
end
end Go.Proofs.YtgbafjmklefoiaaGreatDoor
end
section
namespace Go.Proofs.YtgbafjmklefoiaaGreatDoor
open Go.RowKit
theorem flat_len {α : Type} (f : α → List Value) (S : Nat) : ∀ (l : List α), (∀ x ∈ l, (f x).length = S) → (l.flatMap f).length = l.length * S
  | [], _ => by simp
  | x :: l, h => by
    rw [List.flatMap_cons, List.length_append, h x (by simp), flat_len f S l (fun y hy => h y (by simp [hy])), List.length_cons, Nat.add_mul]; omega
theorem flat_get {α : Type} (f : α → List Value) (S : Nat) : ∀ (l : List α) (j o : Nat) (hj : j < l.length), (∀ x ∈ l, (f x).length = S) → o < S → (l.flatMap f)[j * S + o]? = (f l[j])[o]?
  | x :: l, 0, o, _, h, ho => by
    rw [List.flatMap_cons, Nat.zero_mul, Nat.zero_add, List.getElem?_append_left (by rw [h x (by simp)]; exact ho)]; rfl
  | x :: l, j + 1, o, hj, h, ho => by
    rw [List.flatMap_cons, List.getElem?_append_right (by rw [h x (by simp), Nat.add_mul]; omega), h x (by simp), show (j + 1) * S + o - S = j * S + o by rw [Nat.add_mul]; omega]
    exact flat_get f S l j o (by simpa using hj) (fun y hy => h y (by simp [hy])) ho
theorem rangeB {w w' : World} {B o : Nat} {cs : List Value} (h : w.rangeAt B o cs) (hB : B < w.heap.size) (k : Below w.heap.size w w') : w'.rangeAt B o cs := fun j v hv =>
  (k.cell (p := ⟨B, o + j, none⟩) hB).trans (h j v hv)
theorem frozenC {w : World} {g : Nat} {cs : Array Value} {T : TypeId} (h : w.heap[g]? = some (.cells cs T (0, 0))) (j : Nat) : w.frozen? ⟨g, j, none⟩ = false := by
  unfold World.frozen?
  rw [h]; simp
/-- a row in block g, its whole content -/
structure RowG (w : World) (base : Nat) (e : TypeId) (size g n c : Nat) (cur : Array Value) (xs : List Value) : Prop where
  hb : w.heap[g]? = some (.cells cur e (0, 0))
  bb : base ≤ g
  nc : n ≤ c
  cm : c ≤ maxLen
  sz : cur.size = c * size
  tk : cur.toList.take (n * size) = xs
  ln : xs.length = n * size
theorem RowG.own {w : World} {base : Nat} {e : TypeId} {size g n c : Nat} {cur : Array Value} {xs : List Value} (h : RowG w base e size g n c cur xs) : w.ownsRow base e size (.slice (some ⟨g, 0, none⟩) n c) n xs :=
  ⟨h.ln, .inr ⟨g, c, cur, rfl, h.bb, h.hb, h.nc, h.cm, h.sz, h.tk⟩⟩
theorem rowG_of {w : World} {base : Nat} {e : TypeId} {size g n c : Nat} {xs : List Value} (h : w.ownsRow base e size (.slice (some ⟨g, 0, none⟩) n c) n xs) : ∃ cur, RowG w base e size g n c cur xs := by
  obtain ⟨hl, ⟨h0, _⟩ | ⟨g', c', cur, e1, h1, h2, h3, h4, h5, h6⟩⟩ := h
  · cases h0
  · cases e1
    exact ⟨cur, h2, h1, h3, h4, h5, h6, hl⟩
theorem RowG.set {w w' : World} {base : Nat} {e : TypeId} {size g n c : Nat} {cur : Array Value} {xs : List Value} (h : RowG w base e size g n c cur xs) (i : Nat) (v : Value) (hb : w'.heap[g]? = some (.cells (cur.setIfInBounds i v) e (0, 0))) :
    RowG w' base e size g n c (cur.setIfInBounds i v) (xs.set i v) :=
  ⟨hb, h.bb, h.nc, h.cm, by rw [Array.size_setIfInBounds]; exact h.sz, by rw [Array.toList_setIfInBounds, ← h.tk, List.take_set], by rw [List.length_set]; exact h.ln⟩
theorem RowG.at {w : World} {base : Nat} {e : TypeId} {size g n c : Nat} {cur : Array Value} {xs : List Value} (h : RowG w base e size g n c cur xs) {i : Nat} {v : Value} (hv : xs[i]? = some v) : cur[i]? = some v := by
  rw [← h.tk, List.getElem?_take] at hv
  split at hv
  · rwa [Array.getElem?_toList] at hv
  · cases hv
theorem RowG.cell {w : World} {base : Nat} {e : TypeId} {size g n c : Nat} {cur : Array Value} {xs : List Value} (h : RowG w base e size g n c cur xs) {i : Nat} {v : Value} (hv : xs[i]? = some v) : w.cell? ⟨g, i, none⟩ = some v := er_cellAt h.hb i v (h.at hv)
theorem RowG.kept {w w' : World} {base : Nat} {e : TypeId} {size g n c : Nat} {cur : Array Value} {xs : List Value} (h : RowG w base e size g n c cur xs) (hb : w'.heap[g]? = w.heap[g]?) : RowG w' base e size g n c cur xs := { h with hb := hb.trans h.hb }
theorem RowG.setW {w : World} {base : Nat} {e : TypeId} {size g n c : Nat} {cur : Array Value} {xs : List Value} (h : RowG w base e size g n c cur xs) (i : Nat) (v : Value) : RowG (w.setCell ⟨g, i, none⟩ v) base e size g n c (cur.setIfInBounds i v) (xs.set i v) :=
  h.set i v (by simp [World.setCell, Array.getElem?_modify, h.hb])
end Go.Proofs.YtgbafjmklefoiaaGreatDoor
end
section
namespace Go.Proofs.YtgbafjmklefoiaaGreatDoor
open Go.RowKit Go.Maps
/-- cells set one behind the other -/
def setList : List Value → Nat → List Value → List Value
  | xs, _, [] => xs
  | xs, o, v :: vs => setList (xs.set o v) (o + 1) vs
theorem setList_cons (y : Value) : ∀ (vs xs : List Value) (o : Nat), setList (y :: xs) (o + 1) vs = y :: setList xs o vs
  | [], _, _ => rfl
  | v :: vs, xs, o => by
    show setList ((y :: xs).set (o + 1) v) (o + 1 + 1) vs = y :: setList (xs.set o v) (o + 1) vs
    rw [List.set_cons_succ, setList_cons y vs (xs.set o v) (o + 1)]
theorem setList_app (ys : List Value) : ∀ (vs : List Value) (o : Nat) (xs : List Value), setList (ys ++ xs) (ys.length + o) vs = ys ++ setList xs o vs := by
  induction ys with
  | nil => intro vs o xs; rw [List.nil_append, List.nil_append, List.length_nil, Nat.zero_add]
  | cons y ys ih =>
    intro vs o xs
    rw [List.cons_append, List.length_cons, show ys.length + 1 + o = (ys.length + o) + 1 by omega, setList_cons, ih, List.cons_append]
theorem setList_head : ∀ (vs xs ys : List Value), xs.length = vs.length → setList (xs ++ ys) 0 vs = vs ++ ys
  | [], xs, ys, h => by
    have : xs = [] := List.length_eq_zero_iff.1 h
    subst this; rfl
  | v :: vs, x :: xs, ys, h => by
    show setList ((x :: (xs ++ ys)).set 0 v) (0 + 1) vs = v :: (vs ++ ys)
    rw [List.set_cons_zero, setList_cons, setList_head vs xs ys (by simpa using h)]
theorem RowG.setCells {base : Nat} {e : TypeId} {size g n c : Nat} : ∀ (vs : List Value) (o : Nat) {w : World} {cur : Array Value} {xs : List Value}, RowG w base e size g n c cur xs →
    ∃ cur', RowG (w.setCells g o vs) base e size g n c cur' (setList xs o vs)
  | [], _, _, cur, _, h => ⟨cur, h⟩
  | v :: vs, o, _, _, _, h => RowG.setCells vs (o + 1) (h.setW o v)
theorem keep_setCells (g : Nat) : ∀ (vs : List Value) (o : Nat) (w : World), Keep (fun j => j = g) w (w.setCells g o vs)
  | [], _, _w => Keep.refl _ _
  | v :: vs, o, w => (Keep.setCell w ⟨g, o, none⟩ v).trans (keep_setCells g vs (o + 1) _) (fun _ _ h => h)
theorem RowG.there {w : World} {base : Nat} {e : TypeId} {size g n c : Nat} {cur : Array Value} {xs : List Value} (h : RowG w base e size g n c cur xs) {o m : Nat} (hm : o + m ≤ n * size) : w.there g o m := fun j hj => by
  have hlt : o + j < xs.length := by rw [h.ln]; omega
  refine ⟨?_, frozenC h.hb _⟩
  rw [h.cell (List.getElem?_eq_getElem hlt)]; rfl
theorem wpList_build_c {P : Program} {ops : Array Oper} {rest : List Oper} {o : Oper} {a : Act} {w : World} {Q : Exit → Act → World → Prop} (hw : Region.wanted o (yielded ops a.tmps) = true) (T : TypeId) (parts : Array (Nat × Operand)) (ho : o.op = .build T parts)
    (cs : Array Value) (hb : P.built T (parts.map fun (i, x) => (i, a.eval x)).toList = some cs) (h : wpList P ops Q rest (a.put o.dst (.agg cs)) w) : wpList P ops Q (o :: rest) a w :=
  wpList_step fun K hK => by
    rw [if_pos hw]
    refine wp_build T parts ho (by rw [hb]; rfl) ?_
    rw [hb]
    exact hK _ _ h
/-- an operation whose run is known -/
theorem wpList_run_c {P : Program} {ops : Array Oper} {rest : List Oper} {o : Oper} {a : Act} {w w' : World} {Q : Exit → Act → World → Prop} (hw : Region.wanted o (yielded ops a.tmps) = true) (v : Value)
    (hr : (execOp a.eval o).run P w = .ok (.value v) w') (h : wpList P ops Q rest (a.put o.dst v) w') : wpList P ops Q (o :: rest) a w :=
  wpList_step fun K hK => by
    rw [if_pos hw]
    unfold Oper.wp
    rw [hr, Oper.upon_value]
    exact hK _ _ h
end Go.Proofs.YtgbafjmklefoiaaGreatDoor
end
section
namespace Go.Proofs.YtgbafjmklefoiaaGreatDoor
open Go.RowKit
theorem showsO_appendX {mk own0 own : Nat → Option Nat} {w0 w : World} {P : Program} {Q : Exit → Act → World → Prop} {V : Nat → Value → (Nat → Option Nat) → World → Prop} {i : Nat} {o : Oper} {a : Act} (hs0 : Since own0 w0 own w) (hke : ∀ k, k < w0.heap.size → own0 k = some i → w.heap[k]? = w0.heap[k]?) {d : Nat} (hd : o.dst = some d) (s x : Operand) (t : TypeId)
    (ho : o.op = .call { callee := .builtin .append, args := #[s, x], argTypes := #[t, t] })
    (base : Nat) (e : TypeId) (i' : TypeInfo) (z : Value) (size bytes : Nat) (ht : P.underlying t = some (.slice e)) (hi : P.info? e = some i') (hz : i'.zero = some z)
    (hsize : i'.size = size) (hby : i'.bytes = bytes) (hzs : z.cells.size = size) (hsz : 0 < size)
    (v : Value) (n : Nat) (xs : List Value) (hs : a.eval s = v) (hown : w0.ownsRow base e size v n xs) (how : ∀ k, v.ownBlock = some k → own0 k = some i)
    (xa : Option Addr) (m c : Nat) (news : List Value) (hx : a.eval x = .slice xa m c) (hnil : xa = none → c = 0 ∧ m = 0) (hl : news.length = m * size)
    (hnews : ∀ ad, xa = some ad → ∀ j u, news[j]? = some u → w.cell? (ad.add j) = some u) (h1 : ∀ u ∈ news, u.oneCell' = true)
    (h63 : n + m ≤ maxLen) (hbytes : (n + m) * bytes ≤ 140737488355328) (hbase : base ≤ w0.heap.size)
    (hv : ∀ v' w' own', GrownW own' w' i base e size v' (n + m) (xs ++ news) v w0.heap.size → (∀ k, v'.ownBlock = some k → v.ownBlock = some k ∨ own' k = none) → V i v' own' w') : ShowsO mk P Q V i o a own w := by
  intro K hK
  have hown' : w.ownsRow base e size v n xs := ownsRow_keep' hown fun g hg => hke g (ownsRow_lt hown g hg) (how g hg)
  cases xa with
  | none =>
    obtain ⟨rfl, rfl⟩ := hnil rfl
    have hn : news = [] := List.length_eq_zero_iff.1 (by simpa using hl)
    subst hn
    have hrun := run_append_owned_none (P := P) (w := w) base t o.type e i' size ht hi v n xs hown'
    unfold Oper.wp
    simp only [execOp, ho, resolve, invoke, builtin, hs, hx, List.map_toArray, List.map_cons, List.map_nil]
    simp [hrun, Result.andThen]
    exact hK v w own (by unfold laid; rw [hd]; exact hv v w own ⟨⟨by rw [List.append_nil]; exact hown', fun k hk => .inl ((hs0.owns k (ownsRow_lt hown k hk)).trans (how k hk))⟩, fun k hk => .inl hk⟩ (fun k hk => .inl hk)) (Rel.same mk i hs0)
  | some ad =>
    obtain ⟨v', w', hrun, g1, g2⟩ := run_append_two (P := P) (w := w) t o.type base e i' z size bytes ht hi hz hsize hby hzs hsz v n xs hown' ad m c news hl (hnews ad rfl) h1 h63 hbytes (Nat.le_trans hbase hs0.size)
    have hw : ∀ k, v'.ownBlock = some k → v.ownBlock = some k ∨ w0.heap.size ≤ k := by
      rcases g2 with ⟨g, cap, rfl, rfl, _⟩ | ⟨_, h3⟩
      · exact fun k hk => .inl hk
      · exact fun k hk => .inr (Nat.le_trans hs0.size (h3 k hk))
    have hn : ∀ k, v'.ownBlock = some k → v.ownBlock = some k ∨ own k = none := by
      rcases g2 with ⟨g, cap, rfl, rfl, _⟩ | ⟨_, h3⟩
      · exact fun k hk => .inl hk
      · exact fun k hk => .inr (hs0.top k (h3 k hk))
    obtain ⟨hr, hfr⟩ := Rel.append (mk := mk) hs0 (fun k hk => (hs0.owns k (ownsRow_lt hown k hk)).trans (how k hk)) hown' g1 g2
    unfold Oper.wp
    simp only [execOp, ho, resolve, invoke, builtin, hs, hx, List.map_toArray, List.map_cons, List.map_nil]
    simp [hrun, Result.andThen]
    exact hK v' w' own (by unfold laid; rw [hd]; exact hv v' w' own ⟨⟨g1, hfr⟩, hw⟩ hn) hr
end Go.Proofs.YtgbafjmklefoiaaGreatDoor
end
section
namespace Go.Proofs.YtgbafjmklefoiaaGreatDoor
set_option maxRecDepth 100000
open Go.RowKit
theorem plainP_any (w : World) (c : Int) (hc : c ≠ 0) : Calls Tryz.prog 84 #[.int .i64 c] w fun e w' => e = .returned (.agg #[.int .i64 c, .int .i64 (-1)]) ∧ Below w.heap.size w w' := by
  have hc' : (c == 0) = false := by simpa using hc
  clear hc
  go_enter Tryz.func84, Tryz.ntmps84
  go_wp2_with fail
  exact bodyPost_ret (results_cell_row rfl _ _ w.heap.size _ #[.int .i64 c, .int .i64 (-1)] _ _ rfl (heap_alloc_new _ _) Tryz.underlying75 rfl (by kernel_rfl)) rfl ⟨rfl, er_al (Below.refl _ _) _⟩
theorem res_tf {fn : Func} {p u : Tmp} {ty : TypeId} {P : Program} (h : fn.results = #[.tmp u, .cell p ty]) (tmps : Array Value) (w : World) (g : Nat) (t : TypeId) (cs : Array Value) (fr : Nat × Nat) (f : Array Field)
    (hp : tmps.getD p undef = .pointer (some ⟨g, 0, none⟩)) (hg : w.heap[g]? = some (.cells cs t fr))
    (hu : P.underlying ty = some (.struct f)) (hi : (P.info? ty).map (·.size) = some cs.size) :
    (results fn tmps).run P w = .ok (.tuple #[tmps.getD u undef, .agg cs]) w := by
  have hl := run_loadVar_row (P := P) w g t ty cs fr (.struct f) hg hu rfl hi
  have hp' : tmps[p]?.getD undef = .pointer (some ⟨g, 0, none⟩) := by simpa using hp
  simp [results, h, hp', asAddr, hl, Result.andThen]
end Go.Proofs.YtgbafjmklefoiaaGreatDoor
end
section
namespace Go.Proofs.YtgbafjmklefoiaaGreatDoor
set_option maxRecDepth 100000
open Go.RowKit
theorem cell_keepC {w w' : World} {T : Nat → Prop} {a : Addr} {v : Value} (k : Keep T w w') (h : w.cell? a = some v) (hn : ¬ T a.block) : w'.cell? a = some v := by
  have := k.block a.block (block_lt_of_cell h) hn
  unfold World.cell? at h ⊢
  rw [this]
  exact h
end Go.Proofs.YtgbafjmklefoiaaGreatDoor
end
