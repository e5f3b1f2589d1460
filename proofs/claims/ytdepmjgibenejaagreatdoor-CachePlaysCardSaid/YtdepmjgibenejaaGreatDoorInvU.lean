/- XInv's law for regions of whose operations some are not wanted. -/
import Derived.Test.YtdepmjgibenejaaGreatDoorInv
namespace Go.Proofs.YtdepmjgibenejaaGreatDoor
open Go.RowKit
section
variable {P : Program} {ops : Array Oper} {Q : Exit → Act → World → Prop}
theorem wpAny_invU {n : Nat} {a0 : Act} {w0 : World} {V : Nat → Value → World → Prop} (hB : invB ops n = true) (hn : a0.tmps.size = n)
    (hV : ∀ s v w w', V s v w → Below w.heap.size w w' → V s v w')
    (step : ∀ (i : Nat) o, ops[i]? = some o → ∀ (a : Act) (w : World), Same ops a0 a → Below w0.heap.size w0 w →
      (∀ e ∈ o.after, Region.binds .any e = true → ∀ oj d, ops[e.on]? = some oj → oj.dst = some d → V d (a.tmps.getD d undef) w) →
      (Region.wanted o (yielded ops a.tmps) = true ∧ ∀ K : Act → World → Prop, (∀ v w', (∀ d, o.dst = some d → V d v w') → Below w.heap.size w w' → K (a.put o.dst v) w') → o.wp P a w K Q) ∨ (Region.wanted o (yielded ops a.tmps) = false ∧ ∀ d, o.dst = some d → V d undef w))
    (fin : ∀ (a : Act) (w : World), Same ops a0 a → Below w0.heap.size w0 w → (∀ (i : Nat) o d, ops[i]? = some o → o.dst = some d → V d (a.tmps.getD d undef) w) → Q .normal a w) :
    ∀ (fuel : Nat) (b : Array Bool) (a : Act) (w : World), b.size = ops.size → ((List.range ops.size).countP fun i => !b.getD i true) ≤ fuel → Same ops a0 a → Below w0.heap.size w0 w → Done ops V b a w → wpAny P .any ops Q fuel b a w := by
  -- where something is left, something may come
  have prog : ∀ b : Array Bool, b.size = ops.size → Region.ready .any ops b = [] → ∀ i, i < ops.size → b.getD i true = true := by
    intro b hb hr i
    induction i using Nat.strongRecOn with
    | _ i ih =>
      intro hi
      cases hbi : b.getD i true with
      | true => rfl
      | false =>
        exfalso
        have : i ∈ Region.ready .any ops b := mem_ready.2 ⟨hbi, ops[i], by simp [hi], fun e he hbe => by
          have hlt := (invB_at hB (i := i) (o := ops[i]) (by simp [hi])).2 e he hbe
          rw [getD_of_lt (by omega) false true]
          exact ih _ hlt (by omega)⟩
        rw [hr] at this
        cases this
  have finish : ∀ b a w, b.size = ops.size → Region.ready .any ops b = [] → Same ops a0 a → Below w0.heap.size w0 w → Done ops V b a w → Q .normal a w := by
    intro b a w hb hr hs hbw hd
    refine fin a w hs hbw fun i o d ho hdst => hd i o d ho ?_ hdst
    have hlt : i < ops.size := (Array.getElem?_eq_some_iff.1 ho).1
    rw [getD_of_lt (by omega) false true]
    exact prog b hb hr i hlt
  intro fuel
  induction fuel with
  | zero =>
    intro b a w hb hc hs hbw hd
    have hall : ∀ i, i < ops.size → b.getD i true = true := by
      intro i hi
      cases hbi : b.getD i true with
      | true => rfl
      | false =>
        exfalso
        have : 0 < (List.range ops.size).countP fun i => !b.getD i true := List.countP_pos_iff.2 ⟨i, List.mem_range.2 hi, by simp only [hbi]; rfl⟩
        omega
    have hr : Region.ready .any ops b = [] := by
      rw [List.eq_nil_iff_forall_not_mem]
      intro j hj
      obtain ⟨h1, o, ho, _⟩ := mem_ready.1 hj
      rw [hall j (Array.getElem?_eq_some_iff.1 ho).1] at h1
      cases h1
    exact ⟨hr, finish b a w hb hr hs hbw hd⟩
  | succ fuel ih =>
    intro b a w hb hc hs hbw hd
    refine ⟨fun hr => finish b a w hb hr hs hbw hd, fun i hi => ?_⟩
    obtain ⟨h1, o, ho, hall⟩ := mem_ready.1 hi
    have hlt : i < ops.size := (Array.getElem?_eq_some_iff.1 ho).1
    obtain ⟨⟨d, hdst, hdn, hdist⟩, _⟩ := invB_at hB ho
    have hst := step i o ho a w hs hbw (fun e he hbe oj dj hoj hdj => hd _ oj dj hoj (hall e he hbe) hdj)
    have cont : ∀ v w', (∀ d, o.dst = some d → V d v w') → Below w.heap.size w w' → wpAny P .any ops Q fuel (b.setIfInBounds i true) (a.put o.dst v) w' := ?_
    · unfold wpOp
      rcases hst with ⟨hw, hK⟩ | ⟨hw, hv⟩
      · simp only [ho, hw, if_true]
        exact .inl (hK _ cont)
      · simp only [ho, hw, Bool.false_eq_true, if_false]
        exact cont undef w hv (Below.refl _ _)
    intro v w' hv hb'
    have hslot : ∀ s, s ≠ d → (a.put o.dst v).tmps.getD s undef = a.tmps.getD s undef := fun s hs => by
      simp [hdst, Act.put, Array.getD_eq_getD_getElem?, Array.getElem?_setIfInBounds_ne (Ne.symm hs)]
    refine ih (b.setIfInBounds i true) (a.put o.dst v) w' (by simpa using hb) ?_ ⟨?_, ?_, fun s hsd => ?_⟩ (hbw.trans (hb'.mono hbw.size)) ?_
    · have := cnt_lt (List.range ops.size) i (List.mem_range.2 hlt) (fun j => !b.getD j true) (fun j => !(b.setIfInBounds i true).getD j true) (fun x hx => by
        by_cases hxi : x = i
        · subst hxi; simp [h1]
        · rwa [getD_set_ne true (Ne.symm hxi)] at hx) (by simp only [h1]; rfl) (by simp [hb ▸ hlt])
      omega
    · simp [hdst, Act.put, hs.defers]
    · simp [hdst, Act.put, hs.size]
    · rw [hslot s (fun e => hsd i o ho (e ▸ hdst))]
      exact hs.slot s hsd
    · intro j oj dj hoj hbj hdj
      by_cases hji : j = i
      · subst hji
        rw [ho] at hoj
        cases hoj
        rw [hdst] at hdj
        cases hdj
        have : (a.put o.dst v).tmps.getD d undef = v := by simp [hdst, Act.put, hs.size, hn, hdn]
        rw [this]
        exact hv d hdst
      · have hne : dj ≠ d := by
          intro e
          subst e
          rcases Nat.lt_or_ge j i with h | h
          · exact hdist j oj h hoj hdj
          · obtain ⟨⟨d', hd', _, hdist'⟩, _⟩ := invB_at hB hoj
            rw [hdj] at hd'
            cases hd'
            exact hdist' i o (by omega) ho hdst
        rw [hslot dj hne]
        refine hV _ _ _ _ (hd j oj dj hoj ?_ hdj) hb'
        rwa [getD_set_ne false (Ne.symm hji)] at hbj
/-- THE LAW -/
theorem wp_region_invU {id n : Nat} {a0 : Act} {w0 : World} (V : Nat → Value → World → Prop) (hm : P.follows .mixedOrders = true) (hB : invB ops n = true) (hn : a0.tmps.size = n)
    (hV : ∀ s v w w', V s v w → Below w.heap.size w w' → V s v w')
    (step : ∀ (i : Nat) o, ops[i]? = some o → ∀ (a : Act) (w : World), Same ops a0 a → Below w0.heap.size w0 w →
      (∀ e ∈ o.after, Region.binds .any e = true → ∀ oj d, ops[e.on]? = some oj → oj.dst = some d → V d (a.tmps.getD d undef) w) →
      (Region.wanted o (yielded ops a.tmps) = true ∧ ∀ K : Act → World → Prop, (∀ v w', (∀ d, o.dst = some d → V d v w') → Below w.heap.size w w' → K (a.put o.dst v) w') → o.wp P a w K Q) ∨ (Region.wanted o (yielded ops a.tmps) = false ∧ ∀ d, o.dst = some d → V d undef w))
    (fin : ∀ (a : Act) (w : World), Same ops a0 a → Below w0.heap.size w0 w → (∀ (i : Nat) o d, ops[i]? = some o → o.dst = some d → V d (a.tmps.getD d undef) w) → Q .normal a w) :
    (Code.region id ops true).wp P Q a0 w0 := by
  refine wp_region_any hm (wpAny_invU hB hn hV step fin ops.size _ a0 _ (by simp) ?_ ⟨rfl, rfl, fun _ _ => rfl⟩ ⟨rfl, rfl, rfl, Nat.le_refl _, fun _ _ => rfl⟩ ?_)
  · exact Nat.le_trans (List.countP_le_length) (by simp)
  · intro i o d ho hb
    have hlt : i < ops.size := (Array.getElem?_eq_some_iff.1 ho).1
    simp [hlt] at hb

theorem unwanted_of {o : Oper} {a : Act} (j : Nat) {d : Nat} {t t' : Bool} (hg : o.guard = some (j, t)) (e : a.tmps.getD d undef = .bool t') (hjd : (ops[j]?).bind (·.dst) = some d) (hne : t' ≠ t) : Region.wanted o (yielded ops a.tmps) = false := by
  obtain ⟨oj, hj, hd⟩ := Option.bind_eq_some_iff.1 hjd
  have h1 : a.tmps[d]? = some (.bool t') := by
    rw [Array.getD_eq_getD_getElem?] at e
    cases h : a.tmps[d]? with
    | none => rw [h] at e; cases e
    | some x => rw [h] at e; simp at e; rw [e]
  cases t <;> cases t' <;> simp_all [Region.wanted, yielded]
end
end Go.Proofs.YtdepmjgibenejaaGreatDoor
