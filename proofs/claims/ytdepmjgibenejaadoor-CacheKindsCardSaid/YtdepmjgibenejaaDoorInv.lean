/- A region that draws its order, by what each operation lays in its own slot: every operation is shown once, from what it waits for; whatever the order, in the end every slot holds what was said of it. Operations may call and make memory; what was said must stay true while old blocks stay. -/
import Derived.Test.YtdepmjgibenejaaDoorTail
import Derived.Orders
import Derived.Below
import Derived.Laws.Rows
import Derived.WalkKit
namespace Go.Proofs.YtdepmjgibenejaaDoor
open Go.RowKit
section
variable {P : Program} {ops : Array Oper} {Q : Exit → Act → World → Prop}
/-- each operation writes a slot of its own; none waits for what stands behind it in the text -/
def invB (ops : Array Oper) (n : Nat) : Bool :=
  (List.range ops.size).all fun i => match ops[i]? with
    | none => false
    | some o => (match o.dst with | some d => decide (d < n) && (List.range i).all (fun j => match ops[j]? with | some oj => oj.dst != some d | none => false) | none => false) &&
      o.after.all (fun e => !Region.binds .any e || decide (e.on < i))
theorem invB_at {n i : Nat} {o : Oper} (h : invB ops n = true) (hi : ops[i]? = some o) :
    (∃ d, o.dst = some d ∧ d < n ∧ ∀ j oj, j < i → ops[j]? = some oj → oj.dst ≠ some d) ∧ ∀ e ∈ o.after, Region.binds .any e = true → e.on < i := by
  have hlt : i < ops.size := (Array.getElem?_eq_some_iff.1 hi).1
  have h1 := List.all_eq_true.1 h i (List.mem_range.2 hlt)
  simp only [hi, Bool.and_eq_true] at h1
  obtain ⟨h2, h3⟩ := h1
  constructor
  · cases hd : o.dst with
    | none => simp [hd] at h2
    | some d =>
      simp only [hd, Bool.and_eq_true, decide_eq_true_eq] at h2
      refine ⟨d, rfl, h2.1, fun j oj hj ho => ?_⟩
      have := List.all_eq_true.1 h2.2 j (List.mem_range.2 hj)
      simpa [ho] using this
  · intro e he hb
    have := Array.all_eq_true_iff_forall_mem.1 h3 e he
    simpa [hb] using this
/-- the frame but for the region's slots -/
structure Same (ops : Array Oper) (a0 a : Act) : Prop where
  defers : a.defers = a0.defers
  size : a.tmps.size = a0.tmps.size
  slot : ∀ s : Nat, (∀ (i : Nat) o, ops[i]? = some o → o.dst ≠ some s) → a.tmps.getD s undef = a0.tmps.getD s undef
/-- what is done holds -/
def Done (ops : Array Oper) (V : Nat → Value → World → Prop) (b : Array Bool) (a : Act) (w : World) : Prop :=
  ∀ (i : Nat) o d, ops[i]? = some o → b.getD i false = true → o.dst = some d → V d (a.tmps.getD d undef) w
theorem cnt_le (l : List Nat) (p q : Nat → Bool) (h : ∀ x, q x = true → p x = true) : l.countP q ≤ l.countP p := by
  induction l with
  | nil => simp
  | cons x l ih =>
    rw [List.countP_cons, List.countP_cons]
    by_cases hq : q x = true
    · simp [hq, h x hq, ih]
    · simp only [hq, if_false, Bool.false_eq_true]
      split <;> omega
theorem cnt_lt (l : List Nat) (i : Nat) (hi : i ∈ l) (p q : Nat → Bool) (h : ∀ x, q x = true → p x = true) (hp : p i = true) (hq : q i = false) : l.countP q < l.countP p := by
  induction l with
  | nil => cases hi
  | cons x l ih =>
    rw [List.countP_cons, List.countP_cons]
    by_cases hx : x = i
    · subst hx
      have := cnt_le l p q h
      simp [hp, hq]; omega
    · have := ih (by simpa [Ne.symm hx] using hi)
      by_cases hqx : q x = true
      · simp [hqx, h x hqx]; omega
      · simp only [hqx, if_false, Bool.false_eq_true]
        split <;> omega
theorem getD_of_lt {b : Array Bool} {i : Nat} (h : i < b.size) (x y : Bool) : b.getD i x = b.getD i y := by simp [h]
theorem wpAny_inv {n : Nat} {a0 : Act} {w0 : World} {V : Nat → Value → World → Prop} (hB : invB ops n = true) (hn : a0.tmps.size = n)
    (hV : ∀ s v w w', V s v w → Below w.heap.size w w' → V s v w')
    (step : ∀ (i : Nat) o, ops[i]? = some o → ∀ (a : Act) (w : World), Same ops a0 a → Below w0.heap.size w0 w →
      (∀ e ∈ o.after, Region.binds .any e = true → ∀ oj d, ops[e.on]? = some oj → oj.dst = some d → V d (a.tmps.getD d undef) w) →
      Region.wanted o (yielded ops a.tmps) = true ∧ ∀ K : Act → World → Prop, (∀ v w', (∀ d, o.dst = some d → V d v w') → Below w.heap.size w w' → K (a.put o.dst v) w') → o.wp P a w K Q)
    (fin : ∀ (a : Act) (w : World), Same ops a0 a → Below w0.heap.size w0 w → (∀ (i : Nat) o d, ops[i]? = some o → o.dst = some d → V d (a.tmps.getD d undef) w) → Q .normal a w) :
    ∀ (fuel : Nat) (b : Array Bool) (a : Act) (w : World), b.size = ops.size → ((List.range ops.size).countP fun i => !b.getD i true) ≤ fuel → Same ops a0 a → Below w0.heap.size w0 w → Done ops V b a w → wpAny P .any ops Q fuel b a w := by
  -- where something is left, something may come
  have prog : ∀ b : Array Bool, b.size = ops.size → Region.ready .any ops b = [] → ∀ i, i < ops.size → b.getD i true = true := by
    intro b hb hr i
    induction i using Nat.strongRecOn with
    | _ i ih =>
      intro hi
      cases hbi : b.getD i true with
      | true => rfl
      | false =>
        exfalso
        have : i ∈ Region.ready .any ops b := mem_ready.2 ⟨hbi, ops[i], by simp [hi], fun e he hbe => by
          have hlt := (invB_at hB (i := i) (o := ops[i]) (by simp [hi])).2 e he hbe
          rw [getD_of_lt (by omega) false true]
          exact ih _ hlt (by omega)⟩
        rw [hr] at this
        cases this
  have finish : ∀ b a w, b.size = ops.size → Region.ready .any ops b = [] → Same ops a0 a → Below w0.heap.size w0 w → Done ops V b a w → Q .normal a w := by
    intro b a w hb hr hs hbw hd
    refine fin a w hs hbw fun i o d ho hdst => hd i o d ho ?_ hdst
    have hlt : i < ops.size := (Array.getElem?_eq_some_iff.1 ho).1
    rw [getD_of_lt (by omega) false true]
    exact prog b hb hr i hlt
  intro fuel
  induction fuel with
  | zero =>
    intro b a w hb hc hs hbw hd
    have hall : ∀ i, i < ops.size → b.getD i true = true := by
      intro i hi
      cases hbi : b.getD i true with
      | true => rfl
      | false =>
        exfalso
        have : 0 < (List.range ops.size).countP fun i => !b.getD i true := List.countP_pos_iff.2 ⟨i, List.mem_range.2 hi, by simp only [hbi]; rfl⟩
        omega
    have hr : Region.ready .any ops b = [] := by
      rw [List.eq_nil_iff_forall_not_mem]
      intro j hj
      obtain ⟨h1, o, ho, _⟩ := mem_ready.1 hj
      rw [hall j (Array.getElem?_eq_some_iff.1 ho).1] at h1
      cases h1
    exact ⟨hr, finish b a w hb hr hs hbw hd⟩
  | succ fuel ih =>
    intro b a w hb hc hs hbw hd
    refine ⟨fun hr => finish b a w hb hr hs hbw hd, fun i hi => ?_⟩
    obtain ⟨h1, o, ho, hall⟩ := mem_ready.1 hi
    have hlt : i < ops.size := (Array.getElem?_eq_some_iff.1 ho).1
    obtain ⟨⟨d, hdst, hdn, hdist⟩, _⟩ := invB_at hB ho
    obtain ⟨hw, hK⟩ := step i o ho a w hs hbw (fun e he hbe oj dj hoj hdj => hd _ oj dj hoj (hall e he hbe) hdj)
    unfold wpOp
    simp only [ho, hw, if_true]
    refine .inl (hK _ fun v w' hv hb' => ?_)
    have hslot : ∀ s, s ≠ d → (a.put o.dst v).tmps.getD s undef = a.tmps.getD s undef := fun s hs => by
      simp [hdst, Act.put, Array.getD_eq_getD_getElem?, Array.getElem?_setIfInBounds_ne (Ne.symm hs)]
    refine ih (b.setIfInBounds i true) (a.put o.dst v) w' (by simpa using hb) ?_ ⟨?_, ?_, fun s hsd => ?_⟩ (hbw.trans (hb'.mono hbw.size)) ?_
    · have := cnt_lt (List.range ops.size) i (List.mem_range.2 hlt) (fun j => !b.getD j true) (fun j => !(b.setIfInBounds i true).getD j true) (fun x hx => by
        by_cases hxi : x = i
        · subst hxi; simp [h1]
        · rwa [getD_set_ne true (Ne.symm hxi)] at hx) (by simp only [h1]; rfl) (by simp [hb ▸ hlt])
      omega
    · simp [hdst, Act.put, hs.defers]
    · simp [hdst, Act.put, hs.size]
    · rw [hslot s (fun e => hsd i o ho (e ▸ hdst))]
      exact hs.slot s hsd
    · intro j oj dj hoj hbj hdj
      by_cases hji : j = i
      · subst hji
        rw [ho] at hoj
        cases hoj
        rw [hdst] at hdj
        cases hdj
        have : (a.put o.dst v).tmps.getD d undef = v := by simp [hdst, Act.put, hs.size, hn, hdn]
        rw [this]
        exact hv d hdst
      · have hne : dj ≠ d := by
          intro e
          subst e
          rcases Nat.lt_or_ge j i with h | h
          · exact hdist j oj h hoj hdj
          · obtain ⟨⟨d', hd', _, hdist'⟩, _⟩ := invB_at hB hoj
            rw [hdj] at hd'
            cases hd'
            exact hdist' i o (by omega) ho hdst
        rw [hslot dj hne]
        refine hV _ _ _ _ (hd j oj dj hoj ?_ hdj) hb'
        rwa [getD_set_ne false (Ne.symm hji)] at hbj
/-- THE LAW -/
theorem wp_region_inv {id n : Nat} {a0 : Act} {w0 : World} (V : Nat → Value → World → Prop) (hm : P.follows .mixedOrders = true) (hB : invB ops n = true) (hn : a0.tmps.size = n)
    (hV : ∀ s v w w', V s v w → Below w.heap.size w w' → V s v w')
    (step : ∀ (i : Nat) o, ops[i]? = some o → ∀ (a : Act) (w : World), Same ops a0 a → Below w0.heap.size w0 w →
      (∀ e ∈ o.after, Region.binds .any e = true → ∀ oj d, ops[e.on]? = some oj → oj.dst = some d → V d (a.tmps.getD d undef) w) →
      Region.wanted o (yielded ops a.tmps) = true ∧ ∀ K : Act → World → Prop, (∀ v w', (∀ d, o.dst = some d → V d v w') → Below w.heap.size w w' → K (a.put o.dst v) w') → o.wp P a w K Q)
    (fin : ∀ (a : Act) (w : World), Same ops a0 a → Below w0.heap.size w0 w → (∀ (i : Nat) o d, ops[i]? = some o → o.dst = some d → V d (a.tmps.getD d undef) w) → Q .normal a w) :
    (Code.region id ops true).wp P Q a0 w0 := by
  refine wp_region_any hm (wpAny_inv hB hn hV step fin ops.size _ a0 _ (by simp) ?_ ⟨rfl, rfl, fun _ _ => rfl⟩ ⟨rfl, rfl, rfl, Nat.le_refl _, fun _ _ => rfl⟩ ?_)
  · exact Nat.le_trans (List.countP_le_length) (by simp)
  · intro i o d ho hb
    have hlt : i < ops.size := (Array.getElem?_eq_some_iff.1 ho).1
    simp [hlt] at hb
/-! one operation, from what it waits for -/
theorem dep_of {V : Nat → Value → World → Prop} {o : Oper} {a : Act} {w : World}
    (h : ∀ e ∈ o.after, Region.binds .any e = true → ∀ oj d, ops[e.on]? = some oj → oj.dst = some d → V d (a.tmps.getD d undef) w) (j d : Nat)
    (hj : (o.after.any fun e => e.on == j && Region.binds .any e) = true) (hjd : (ops[j]?).bind (·.dst) = some d) : V d (a.tmps.getD d undef) w := by
  obtain ⟨oj, ho, hd⟩ := Option.bind_eq_some_iff.1 hjd
  obtain ⟨i, hi, h1⟩ := Array.any_eq_true.1 hj
  simp only [Bool.and_eq_true, beq_iff_eq] at h1
  obtain ⟨h0, h2⟩ := h1
  exact h _ (Array.getElem_mem hi) h2 oj d (h0 ▸ ho) hd
theorem wanted_none {o : Oper} {y : Nat → Option Bool} (h : o.guard = none) : Region.wanted o y = true := by simp [Region.wanted, h]
theorem wanted_of {o : Oper} {a : Act} (j : Nat) {d : Nat} {t : Bool} (hg : o.guard = some (j, t)) (e : a.tmps.getD d undef = .bool t) (hjd : (ops[j]?).bind (·.dst) = some d) : Region.wanted o (yielded ops a.tmps) = true := by
  obtain ⟨oj, hj, hd⟩ := Option.bind_eq_some_iff.1 hjd
  have h1 : a.tmps[d]? = some (.bool t) := by
    rw [Array.getD_eq_getD_getElem?] at e
    cases h : a.tmps[d]? with
    | none => rw [h] at e; cases e
    | some x => rw [h] at e; simp at e; rw [e]
  simp [Region.wanted, hg, yielded, hj, hd, h1]
/-- what an operation must show -/
def Shows (P : Program) (Q : Exit → Act → World → Prop) (V : Nat → Value → World → Prop) (o : Oper) (a : Act) (w : World) : Prop :=
  ∀ K : Act → World → Prop, (∀ v w', (∀ d, o.dst = some d → V d v w') → Below w.heap.size w w' → K (a.put o.dst v) w') → o.wp P a w K Q
theorem shows_run {V : Nat → Value → World → Prop} {o : Oper} {a : Act} {w w' : World} {d : Nat} (hd : o.dst = some d) (v : Value) (hr : (execOp a.eval o).run P w = .ok (.value v) w') (hb : Below w.heap.size w w') (hv : V d v w') : Shows P Q V o a w := by
  intro K hK
  unfold Oper.wp
  rw [hr, Oper.upon_value]
  exact hK v w' (fun d' h => by rw [hd] at h; cases h; exact hv) hb
theorem shows_move {V : Nat → Value → World → Prop} {o : Oper} {a : Act} {w : World} {d : Nat} (hd : o.dst = some d) (x : Operand) (ho : o.op = .move x) (hv : V d (a.eval x) w) : Shows P Q V o a w :=
  shows_run hd (a.eval x) (by simp [execOp, ho]) (Below.refl _ _) hv
theorem shows_assign {V : Nat → Value → World → Prop} {o : Oper} {a : Act} {w : World} {d : Nat} (hd : o.dst = some d) (x : Operand) (ho : o.op = .assign x) (hv : V d (a.eval x) w) : Shows P Q V o a w :=
  shows_run hd (a.eval x) (by simp [execOp, ho]) (Below.refl _ _) hv
theorem shows_row {V : Nat → Value → World → Prop} {o : Oper} {a : Act} {w : World} {d' : Nat} (hdst : o.dst = some d') (ty : TypeId) (x : Operand) (ho : o.op = .load ty x)
    (g : Nat) (hx : a.eval x = .pointer (some ⟨g, 0, none⟩)) (cs : Array Value) {t : TypeId} {fr : Nat × Nat} {d : TypeDesc} (hg : w.heap[g]? = some (.cells cs t fr))
    (hu : P.underlying ty = some d) (hd : (match d with | .struct _ | .array _ _ => true | _ => false) = true) (hi : (P.info? ty).map (·.size) = some cs.size) (hv : V d' (.agg cs) w) : Shows P Q V o a w := by
  intro K hK
  exact wp_load_row ty x ho g hx t cs fr d hg hu hd hi (hK _ _ (fun d'' h => by rw [hdst] at h; cases h; exact hv) (Below.refl _ _))
theorem shows_call {V : Nat → Value → World → Prop} {o : Oper} {a : Act} {w : World} {d : Nat} (hdst : o.dst = some d) (f : FuncId) (vs : Array Value)
    (hr : (execOp a.eval o).run P w = .ok (.enter f vs) w) {v : Value} (hc : Calls P f vs w fun e w' => e = .returned v ∧ Below w.heap.size w w') (hv : ∀ w', V d v w') : Shows P Q V o a w := by
  intro K hK
  unfold Oper.wp
  rw [hr, Oper.upon_enter]
  refine hc.mono ?_
  rintro e w' ⟨rfl, hb⟩
  exact hK v w' (fun d'' h => by rw [hdst] at h; cases h; exact hv w') hb
/-- a slot that no operation of the region writes -/
theorem invB_not {n : Nat} (_h : invB ops n = true) (s : Nat) (hs : (ops.all fun o => o.dst != some s) = true) {i : Nat} {o : Oper} (hi : ops[i]? = some o) : o.dst ≠ some s := by
  have hm : o ∈ ops := Array.mem_of_getElem? hi
  have := Array.all_eq_true_iff_forall_mem.1 hs o hm
  simpa using this
end
end Go.Proofs.YtdepmjgibenejaaDoor
