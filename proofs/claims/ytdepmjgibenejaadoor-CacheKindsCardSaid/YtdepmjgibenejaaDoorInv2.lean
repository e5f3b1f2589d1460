/- XInv's law for regions in which some operations write no slot (stores that leave what lies there). -/
import Derived.Test.YtdepmjgibenejaaDoorInv
namespace Go.Proofs.YtdepmjgibenejaaDoor
open Go.RowKit
section
variable {P : Program} {ops : Array Oper} {Q : Exit → Act → World → Prop}
/-- each operation that writes a slot writes one of its own; none waits for what stands behind it in the text -/
def invB2 (ops : Array Oper) (n : Nat) : Bool :=
  (List.range ops.size).all fun i => match ops[i]? with
    | none => false
    | some o => (match o.dst with | some d => decide (d < n) && (List.range i).all (fun j => match ops[j]? with | some oj => oj.dst != some d | none => false) | none => true) &&
      o.after.all (fun e => !Region.binds .any e || decide (e.on < i))
theorem invB2_at {n i : Nat} {o : Oper} (h : invB2 ops n = true) (hi : ops[i]? = some o) :
    (∀ d, o.dst = some d → d < n ∧ ∀ j oj, j < i → ops[j]? = some oj → oj.dst ≠ some d) ∧ ∀ e ∈ o.after, Region.binds .any e = true → e.on < i := by
  have hlt : i < ops.size := (Array.getElem?_eq_some_iff.1 hi).1
  have h1 := List.all_eq_true.1 h i (List.mem_range.2 hlt)
  simp only [hi, Bool.and_eq_true] at h1
  obtain ⟨h2, h3⟩ := h1
  constructor
  · intro d hd
    simp only [hd, Bool.and_eq_true, decide_eq_true_eq] at h2
    refine ⟨h2.1, fun j oj hj ho => ?_⟩
    have := List.all_eq_true.1 h2.2 j (List.mem_range.2 hj)
    simpa [ho] using this
  · intro e he hb
    have := Array.all_eq_true_iff_forall_mem.1 h3 e he
    simpa [hb] using this
theorem wpAny_inv2 {n : Nat} {a0 : Act} {w0 : World} {V : Nat → Value → World → Prop} (hB : invB2 ops n = true) (hn : a0.tmps.size = n)
    (hV : ∀ s v w w', V s v w → Below w.heap.size w w' → V s v w')
    (step : ∀ (i : Nat) o, ops[i]? = some o → ∀ (a : Act) (w : World), Same ops a0 a → Below w0.heap.size w0 w →
      (∀ e ∈ o.after, Region.binds .any e = true → ∀ oj d, ops[e.on]? = some oj → oj.dst = some d → V d (a.tmps.getD d undef) w) →
      Region.wanted o (yielded ops a.tmps) = true ∧ ∀ K : Act → World → Prop, (∀ v w', (∀ d, o.dst = some d → V d v w') → Below w.heap.size w w' → K (a.put o.dst v) w') → o.wp P a w K Q)
    (fin : ∀ (a : Act) (w : World), Same ops a0 a → Below w0.heap.size w0 w → (∀ (i : Nat) o d, ops[i]? = some o → o.dst = some d → V d (a.tmps.getD d undef) w) → Q .normal a w) :
    ∀ (fuel : Nat) (b : Array Bool) (a : Act) (w : World), b.size = ops.size → ((List.range ops.size).countP fun i => !b.getD i true) ≤ fuel → Same ops a0 a → Below w0.heap.size w0 w → Done ops V b a w → wpAny P .any ops Q fuel b a w := by
  -- where something is left, something may come
  have prog : ∀ b : Array Bool, b.size = ops.size → Region.ready .any ops b = [] → ∀ i, i < ops.size → b.getD i true = true := by
    intro b hb hr i
    induction i using Nat.strongRecOn with
    | _ i ih =>
      intro hi
      cases hbi : b.getD i true with
      | true => rfl
      | false =>
        exfalso
        have : i ∈ Region.ready .any ops b := mem_ready.2 ⟨hbi, ops[i], by simp [hi], fun e he hbe => by
          have hlt := (invB2_at hB (i := i) (o := ops[i]) (by simp [hi])).2 e he hbe
          rw [getD_of_lt (by omega) false true]
          exact ih _ hlt (by omega)⟩
        rw [hr] at this
        cases this
  have finish : ∀ b a w, b.size = ops.size → Region.ready .any ops b = [] → Same ops a0 a → Below w0.heap.size w0 w → Done ops V b a w → Q .normal a w := by
    intro b a w hb hr hs hbw hd
    refine fin a w hs hbw fun i o d ho hdst => hd i o d ho ?_ hdst
    have hlt : i < ops.size := (Array.getElem?_eq_some_iff.1 ho).1
    rw [getD_of_lt (by omega) false true]
    exact prog b hb hr i hlt
  intro fuel
  induction fuel with
  | zero =>
    intro b a w hb hc hs hbw hd
    have hall : ∀ i, i < ops.size → b.getD i true = true := by
      intro i hi
      cases hbi : b.getD i true with
      | true => rfl
      | false =>
        exfalso
        have : 0 < (List.range ops.size).countP fun i => !b.getD i true := List.countP_pos_iff.2 ⟨i, List.mem_range.2 hi, by simp only [hbi]; rfl⟩
        omega
    have hr : Region.ready .any ops b = [] := by
      rw [List.eq_nil_iff_forall_not_mem]
      intro j hj
      obtain ⟨h1, o, ho, _⟩ := mem_ready.1 hj
      rw [hall j (Array.getElem?_eq_some_iff.1 ho).1] at h1
      cases h1
    exact ⟨hr, finish b a w hb hr hs hbw hd⟩
  | succ fuel ih =>
    intro b a w hb hc hs hbw hd
    refine ⟨fun hr => finish b a w hb hr hs hbw hd, fun i hi => ?_⟩
    obtain ⟨h1, o, ho, hall⟩ := mem_ready.1 hi
    have hlt : i < ops.size := (Array.getElem?_eq_some_iff.1 ho).1
    have hD := (invB2_at hB ho).1
    obtain ⟨hw, hK⟩ := step i o ho a w hs hbw (fun e he hbe oj dj hoj hdj => hd _ oj dj hoj (hall e he hbe) hdj)
    unfold wpOp
    simp only [ho, hw, if_true]
    refine .inl (hK _ fun v w' hv hb' => ?_)
    have hslot : ∀ s, o.dst ≠ some s → (a.put o.dst v).tmps.getD s undef = a.tmps.getD s undef := fun s hs => by
      cases hdst : o.dst with
      | none => rfl
      | some d =>
        have hsd : d ≠ s := fun e => hs (by rw [hdst, e])
        simp [Act.put, Array.getD_eq_getD_getElem?, Array.getElem?_setIfInBounds_ne hsd]
    have hps : (a.put o.dst v).tmps.size = a.tmps.size := by cases hdst : o.dst <;> simp [Act.put]
    have hpd : (a.put o.dst v).defers = a.defers := by cases hdst : o.dst <;> simp [Act.put]
    refine ih (b.setIfInBounds i true) (a.put o.dst v) w' (by simpa using hb) ?_ ⟨hpd.trans hs.defers, hps.trans hs.size, fun s hsd => ?_⟩ (hbw.trans (hb'.mono hbw.size)) ?_
    · have := cnt_lt (List.range ops.size) i (List.mem_range.2 hlt) (fun j => !b.getD j true) (fun j => !(b.setIfInBounds i true).getD j true) (fun x hx => by
        by_cases hxi : x = i
        · subst hxi; simp [h1]
        · rwa [getD_set_ne true (Ne.symm hxi)] at hx) (by simp only [h1]; rfl) (by simp [hb ▸ hlt])
      omega
    · rw [hslot s (hsd i o ho)]
      exact hs.slot s hsd
    · intro j oj dj hoj hbj hdj
      by_cases hji : j = i
      · subst hji
        rw [ho] at hoj
        cases hoj
        have hdn := (hD dj hdj).1
        have : (a.put o.dst v).tmps.getD dj undef = v := by simp [hdj, Act.put, hs.size, hn, hdn]
        rw [this]
        exact hv dj hdj
      · have hne : o.dst ≠ some dj := by
          intro e
          rcases Nat.lt_or_ge j i with h | h
          · exact (hD dj e).2 j oj h hoj hdj
          · exact ((invB2_at hB hoj).1 dj hdj).2 i o (by omega) ho e
        rw [hslot dj hne]
        refine hV _ _ _ _ (hd j oj dj hoj ?_ hdj) hb'
        rwa [getD_set_ne false (Ne.symm hji)] at hbj
/-- THE LAW -/
theorem wp_region_inv2 {id n : Nat} {a0 : Act} {w0 : World} (V : Nat → Value → World → Prop) (hm : P.follows .mixedOrders = true) (hB : invB2 ops n = true) (hn : a0.tmps.size = n)
    (hV : ∀ s v w w', V s v w → Below w.heap.size w w' → V s v w')
    (step : ∀ (i : Nat) o, ops[i]? = some o → ∀ (a : Act) (w : World), Same ops a0 a → Below w0.heap.size w0 w →
      (∀ e ∈ o.after, Region.binds .any e = true → ∀ oj d, ops[e.on]? = some oj → oj.dst = some d → V d (a.tmps.getD d undef) w) →
      Region.wanted o (yielded ops a.tmps) = true ∧ ∀ K : Act → World → Prop, (∀ v w', (∀ d, o.dst = some d → V d v w') → Below w.heap.size w w' → K (a.put o.dst v) w') → o.wp P a w K Q)
    (fin : ∀ (a : Act) (w : World), Same ops a0 a → Below w0.heap.size w0 w → (∀ (i : Nat) o d, ops[i]? = some o → o.dst = some d → V d (a.tmps.getD d undef) w) → Q .normal a w) :
    (Code.region id ops true).wp P Q a0 w0 := by
  refine wp_region_any hm (wpAny_inv2 hB hn hV step fin ops.size _ a0 _ (by simp) ?_ ⟨rfl, rfl, fun _ _ => rfl⟩ ⟨rfl, rfl, rfl, Nat.le_refl _, fun _ _ => rfl⟩ ?_)
  · exact Nat.le_trans (List.countP_le_length) (by simp)
  · intro i o d ho hb
    have hlt : i < ops.size := (Array.getElem?_eq_some_iff.1 ho).1
    simp [hlt] at hb
end
theorem invB2_not {ops : Array Oper} (s : Nat) (hs : (ops.all fun o => o.dst != some s) = true) {i : Nat} {o : Oper} (hi : ops[i]? = some o) : o.dst ≠ some s := by
  have := Array.all_eq_true_iff_forall_mem.1 hs o (Array.mem_of_getElem? hi)
  simpa using this
/-- a row written over with what it holds -/
theorem below_same {w : World} {g : Nat} {cs : Array Value} {T : TypeId} (h : w.heap[g]? = some (.cells cs T (0, 0))) : Below w.heap.size w (w.setRow g cs) := by
  refine ⟨rfl, rfl, rfl, by simp [World.setRow], fun k hk => ?_⟩
  by_cases hkg : k = g
  · subst hkg
    simp [World.setRow, Array.getElem?_modify, h]
  · simp [World.setRow, Array.getElem?_modify, Ne.symm hkg]
end Go.Proofs.YtdepmjgibenejaaDoor
