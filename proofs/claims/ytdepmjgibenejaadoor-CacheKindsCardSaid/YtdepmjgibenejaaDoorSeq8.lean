/- The law of XOwn8 for a region that keeps the order of its text: at each operation all that stand ahead of it are done. -/
import Derived.Test.YtdepmjgibenejaaDoorOwn8
namespace Go.Proofs.YtdepmjgibenejaaDoor
open Go.RowKit
/-- does an operation ahead of i write the slot? -/
def earlyB (ops : Array Oper) (s i : Nat) : Bool := (List.range i).any fun j => (ops[j]?).bind (·.dst) == some s
section
variable {P : Program} {ops : Array Oper} {Q : Exit → Act → World → Prop}
theorem wpOps_seq8 {n : Nat} {a0 : Act} {w0 : World} {mk own0 : Nat → Option Nat} {V : Nat → Value → (Nat → Option Nat) → World → Prop} (hB : invB2 ops n = true) (hn : a0.tmps.size = n)
    (hV : ∀ i j v own w own' w', j < i → V j v own w → Rel mk i own w own' w' → V j v own' w')
    (step : ∀ (i : Nat) o, ops[i]? = some o → ∀ (a : Act) (w : World) (own : Nat → Option Nat), Same ops a0 a → Since own0 w0 own w → (∀ j, mk j = some i → ∀ k, own k ≠ some j) →
      (∀ s : Nat, (∀ (j : Nat) oj, j < i → ops[j]? = some oj → oj.dst ≠ some s) → a.tmps.getD s undef = a0.tmps.getD s undef) →
      (∀ j, i ≤ j → ∀ k, k < w0.heap.size → own0 k = some j → w.heap[k]? = w0.heap[k]?) →
      (∀ (j : Nat) oj, j < i → ops[j]? = some oj → V j (slotOf oj a) own w) →
      (Region.wanted o (yielded ops a.tmps) = true ∧ ∀ K : Act → World → Prop, (∀ v w' own', V i (laid o v) own' w' → Rel mk i own w own' w' → K (a.put o.dst v) w') → o.wp P a w K Q) ∨ (Region.wanted o (yielded ops a.tmps) = false ∧ V i undef own w))
    (fin : ∀ (a : Act) (w : World) own, Same ops a0 a → Since own0 w0 own w → (∀ (i : Nat) o, ops[i]? = some o → V i (slotOf o a) own w) → Q .normal a w) :
    ∀ (m i : Nat) (a : Act) (w : World) own, i + m = ops.size → Same ops a0 a → Since own0 w0 own w → (∀ j i', mk j = some i' → i ≤ i' → ∀ k, own k ≠ some j) →
      (∀ s : Nat, (∀ (j : Nat) oj, j < i → ops[j]? = some oj → oj.dst ≠ some s) → a.tmps.getD s undef = a0.tmps.getD s undef) →
      (∀ j, i ≤ j → ∀ k, k < w0.heap.size → own0 k = some j → w.heap[k]? = w0.heap[k]?) →
      (∀ (j : Nat) oj, j < i → ops[j]? = some oj → V j (slotOf oj a) own w) → wpOps P ops Q (List.range' i m) a w := by
  intro m
  induction m with
  | zero =>
    intro i a w own hi hs hbw hfr hla hke hd
    exact fin a w own hs hbw fun j o ho => hd j o (by have := (Array.getElem?_eq_some_iff.1 ho).1; omega) ho
  | succ m ih =>
    intro i a w own hi hs hbw hfr hla hke hd
    have hlt : i < ops.size := by omega
    obtain ⟨o, ho⟩ : ∃ o, ops[i]? = some o := ⟨ops[i], by simp [hlt]⟩
    have hD := (invB2_at hB ho).1
    rw [List.range'_succ, wpOps_cons]
    have hst := step i o ho a w own hs hbw (fun j hj => hfr j i hj (Nat.le_refl _)) hla hke hd
    have cont : ∀ v w' own', V i (laid o v) own' w' → Rel mk i own w own' w' → wpOps P ops Q (List.range' (i + 1) m) (a.put o.dst v) w' := ?_
    · unfold wpOp
      rcases hst with ⟨hw, hK⟩ | ⟨hw, hv⟩
      · simp only [ho, hw, if_true]
        exact .inl (hK _ cont)
      · simp only [ho, hw, Bool.false_eq_true, if_false]
        exact cont undef w own (by unfold laid; cases o.dst <;> exact hv) (Rel.same mk i hbw)
    intro v w' own' hv hr'
    have hslot : ∀ s, o.dst ≠ some s → (a.put o.dst v).tmps.getD s undef = a.tmps.getD s undef := fun s hs => by
      cases hdst : o.dst with
      | none => rfl
      | some d =>
        have hsd : d ≠ s := fun e => hs (by rw [hdst, e])
        simp [Act.put, Array.getD_eq_getD_getElem?, Array.getElem?_setIfInBounds_ne hsd]
    have hps : (a.put o.dst v).tmps.size = a.tmps.size := by cases hdst : o.dst <;> simp [Act.put]
    have hpd : (a.put o.dst v).defers = a.defers := by cases hdst : o.dst <;> simp [Act.put]
    refine ih (i + 1) (a.put o.dst v) w' own' (by omega) ⟨hpd.trans hs.defers, hps.trans hs.size, fun s hsd => ?_⟩ (hbw.step hr') ?_ ?_ ?_ ?_
    · rw [hslot s (hsd i o ho)]
      exact hs.slot s hsd
    · intro j i' hj hii k hk
      rcases Nat.lt_or_ge k w.heap.size with hkw | hkw
      · exact hfr j i' hj (by omega) k ((hr'.owns k hkw).symm.trans hk)
      · have := Option.some.inj (hj.symm.trans (hr'.fresh k j hkw hk)); omega
    · intro s hs'
      rw [hslot s (hs' i o (by omega) ho)]
      exact hla s fun j oj hj hoj => hs' j oj (by omega) hoj
    · intro j hj k hk hok
      rw [hr'.keep k (Nat.lt_of_lt_of_le hk hbw.size) (by rw [hbw.owns k hk, hok]; intro e; have := Option.some.inj e; omega)]
      exact hke j (by omega) k hk hok
    · intro j oj hj hoj
      by_cases hji : j = i
      · subst hji
        rw [ho] at hoj
        cases hoj
        have : slotOf o (a.put o.dst v) = laid o v := by
          unfold slotOf laid
          cases hdst : o.dst with
          | none => rfl
          | some d =>
            have hdn := (hD d hdst).1
            simp [Act.put, hs.size, hn, hdn]
        rw [this]
        exact hv
      · have hsl : slotOf oj (a.put o.dst v) = slotOf oj a := by
          unfold slotOf
          cases hdj : oj.dst with
          | none => rfl
          | some dj =>
            refine hslot dj (fun e => ?_)
            exact (hD dj e).2 j oj (by omega) hoj hdj
        rw [hsl]
        exact hV i j _ _ _ _ _ (by omega) (hd j oj (by omega) hoj) hr'
/-- THE LAW -/
theorem wp_region_seq8 {id n : Nat} {a0 : Act} {w0 : World} (mk own0 : Nat → Option Nat) (V : Nat → Value → (Nat → Option Nat) → World → Prop) (hB : invB2 ops n = true) (hn : a0.tmps.size = n) (htop : ∀ k, w0.heap.size ≤ k → own0 k = none) (hmk : ∀ j i, mk j = some i → ∀ k, own0 k ≠ some j)
    (hV : ∀ i j v own w own' w', j < i → V j v own w → Rel mk i own w own' w' → V j v own' w')
    (step : ∀ (i : Nat) o, ops[i]? = some o → ∀ (a : Act) (w : World) (own : Nat → Option Nat), Same ops a0 a → Since own0 w0 own w → (∀ j, mk j = some i → ∀ k, own k ≠ some j) →
      (∀ s : Nat, (∀ (j : Nat) oj, j < i → ops[j]? = some oj → oj.dst ≠ some s) → a.tmps.getD s undef = a0.tmps.getD s undef) →
      (∀ j, i ≤ j → ∀ k, k < w0.heap.size → own0 k = some j → w.heap[k]? = w0.heap[k]?) →
      (∀ (j : Nat) oj, j < i → ops[j]? = some oj → V j (slotOf oj a) own w) →
      (Region.wanted o (yielded ops a.tmps) = true ∧ ∀ K : Act → World → Prop, (∀ v w' own', V i (laid o v) own' w' → Rel mk i own w own' w' → K (a.put o.dst v) w') → o.wp P a w K Q) ∨ (Region.wanted o (yielded ops a.tmps) = false ∧ V i undef own w))
    (fin : ∀ (a : Act) (w : World) own, Same ops a0 a → Since own0 w0 own w → (∀ (i : Nat) o, ops[i]? = some o → V i (slotOf o a) own w) → Q .normal a w) :
    (Code.region id ops false).wp P Q a0 w0 := by
  refine wp_region ?_
  rw [List.range_eq_range']
  exact wpOps_seq8 hB hn hV step fin ops.size 0 a0 w0 own0 (by omega) ⟨rfl, rfl, fun _ _ => rfl⟩ ⟨rfl, rfl, rfl, Nat.le_refl _, fun _ _ => rfl, fun _ _ _ => rfl, fun _ c _ _ h => ⟨c, h, rfl⟩, htop⟩ (fun j i hj _ => hmk j i hj) (fun _ _ => rfl) (fun _ _ _ _ _ => rfl) (fun j _ hj => absurd hj (by omega))
theorem depS {V : Nat → Value → (Nat → Option Nat) → World → Prop} {a : Act} {own : Nat → Option Nat} {w : World} {i : Nat}
    (h : ∀ (j : Nat) oj, j < i → ops[j]? = some oj → V j (slotOf oj a) own w) (j d : Nat) (hj : j < i) (hjd : (ops[j]?).bind (·.dst) = some d) : V j (a.tmps.getD d undef) own w := by
  obtain ⟨oj, ho, hd⟩ := Option.bind_eq_some_iff.1 hjd
  have := h j oj hj ho
  unfold slotOf at this
  rwa [hd] at this
theorem depSN {V : Nat → Value → (Nat → Option Nat) → World → Prop} {a : Act} {own : Nat → Option Nat} {w : World} {i : Nat}
    (h : ∀ (j : Nat) oj, j < i → ops[j]? = some oj → V j (slotOf oj a) own w) (j : Nat) (hj : j < i) (hjd : (ops[j]?).map (·.dst) = some none) : V j undef own w := by
  obtain ⟨oj, ho, hd⟩ := Option.map_eq_some_iff.1 hjd
  have := h j oj hj ho
  unfold slotOf at this
  rwa [hd] at this
/-- a slot that nothing ahead of i writes -/
theorem earlyS {i s : Nat} (hB : earlyB ops s i = false) : ∀ (j : Nat) oj, j < i → ops[j]? = some oj → oj.dst ≠ some s := by
  intro j oj hj hoj e
  unfold earlyB at hB
  rw [Bool.eq_false_iff] at hB
  exact hB (List.any_eq_true.2 ⟨j, List.mem_range.2 hj, by simp [hoj, e]⟩)
end
end Go.Proofs.YtdepmjgibenejaaDoor
