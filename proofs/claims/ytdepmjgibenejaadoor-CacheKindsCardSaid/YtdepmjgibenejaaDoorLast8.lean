/- A region that draws its order, whose last operation waits for all the others and may write what it likes (a call that writes). -/
import Derived.Test.YtdepmjgibenejaaDoorOwn8
namespace Go.Proofs.YtdepmjgibenejaaDoor
open Go.RowKit
/-- each operation ahead of m has one behind it, up to m, that waits for it -/
def coverB (ops : Array Oper) (m : Nat) : Bool := (List.range m).all fun j => (List.range (m + 1)).any fun i => decide (j < i) && depB ops i j
section
variable {P : Program} {ops : Array Oper} {Q : Exit → Act → World → Prop}
theorem depB_edge {i j : Nat} {o : Oper} (ho : ops[i]? = some o) (h : depB ops i j = true) : ∃ e ∈ o.after, e.on = j ∧ Region.binds .any e = true := by
  unfold depB at h
  rw [ho] at h
  obtain ⟨q, hq, h3⟩ := Array.any_eq_true.1 h
  simp only [Bool.and_eq_true, beq_iff_eq] at h3
  exact ⟨_, Array.getElem_mem hq, h3.1, h3.2⟩
theorem wpAny_last {n m : Nat} {a0 : Act} {w0 : World} {mk own0 : Nat → Option Nat} {V : Nat → Value → (Nat → Option Nat) → World → Prop} (hB : invB2 ops n = true) (hn : a0.tmps.size = n) (hM : ops.size = m + 1) (hcov : coverB ops m = true)
    (hV : ∀ i j v own w own' w', i ≠ j → depB ops j i = false → V j v own w → Rel mk i own w own' w' → V j v own' w')
    (step : ∀ (i : Nat) o, i < m → ops[i]? = some o → ∀ (a : Act) (w : World) (own : Nat → Option Nat), Same ops a0 a → Since own0 w0 own w → (∀ j, mk j = some i → ∀ k, own k ≠ some j) →
      (∀ s : Nat, (∀ (j : Nat) oj, ops[j]? = some oj → oj.dst = some s → (oj.after.any fun e => e.on == i && Region.binds .any e) = true) → a.tmps.getD s undef = a0.tmps.getD s undef) →
      (∀ j, j = i ∨ depB ops j i = true → ∀ k, k < w0.heap.size → own0 k = some j → w.heap[k]? = w0.heap[k]?) →
      (∀ e ∈ o.after, Region.binds .any e = true → ∀ oj, ops[e.on]? = some oj → V e.on (slotOf oj a) own w) →
      (Region.wanted o (yielded ops a.tmps) = true ∧ ∀ K : Act → World → Prop, (∀ v w' own', V i (laid o v) own' w' → Rel mk i own w own' w' → K (a.put o.dst v) w') → o.wp P a w K Q) ∨ (Region.wanted o (yielded ops a.tmps) = false ∧ V i undef own w))
    (last : ∀ o, ops[m]? = some o → ∀ (a : Act) (w : World) (own : Nat → Option Nat), Same ops a0 a → Since own0 w0 own w →
      (∀ s : Nat, (∀ (j : Nat) oj, j < m → ops[j]? = some oj → oj.dst ≠ some s) → a.tmps.getD s undef = a0.tmps.getD s undef) →
      (∀ (j : Nat) oj, j < m → ops[j]? = some oj → V j (slotOf oj a) own w) → Region.wanted o (yielded ops a.tmps) = true ∧ o.wp P a w (Q .normal) Q) :
    ∀ (fuel : Nat) (b : Array Bool) (a : Act) (w : World) own, b.size = ops.size → b.getD m false = false → ((List.range ops.size).countP fun i => !b.getD i true) ≤ fuel → Same ops a0 a → Since own0 w0 own w → (∀ j i, mk j = some i → b.getD i false = false → ∀ k, own k ≠ some j) → (∀ (j : Nat) oj, ops[j]? = some oj → b.getD j false = true → ∀ e ∈ oj.after, Region.binds .any e = true → b.getD e.on true = true) → (∀ s : Nat, (∀ (j : Nat) oj, ops[j]? = some oj → oj.dst = some s → b.getD j false = false) → a.tmps.getD s undef = a0.tmps.getD s undef) → (∀ j, b.getD j false = false → ∀ k, k < w0.heap.size → own0 k = some j → w.heap[k]? = w0.heap[k]?) → DoneO ops V b a own w → wpAny P .any ops Q fuel b a w := by
  have prog : ∀ b : Array Bool, b.size = ops.size → Region.ready .any ops b = [] → ∀ i, i < ops.size → b.getD i true = true := by
    intro b hb hr i
    induction i using Nat.strongRecOn with
    | _ i ih =>
      intro hi
      cases hbi : b.getD i true with
      | true => rfl
      | false =>
        exfalso
        have : i ∈ Region.ready .any ops b := mem_ready.2 ⟨hbi, ops[i], by simp [hi], fun e he hbe => by
          have hlt := (invB2_at hB (i := i) (o := ops[i]) (by simp [hi])).2 e he hbe
          rw [getD_of_lt (by omega) false true]
          exact ih _ hlt (by omega)⟩
        rw [hr] at this
        cases this
  intro fuel
  induction fuel with
  | zero =>
    intro b a w own hb hm0 hc hs hbw hfr hcl hla hke hd
    have hall : ∀ i, i < ops.size → b.getD i true = true := by
      intro i hi
      cases hbi : b.getD i true with
      | true => rfl
      | false =>
        exfalso
        have : 0 < (List.range ops.size).countP fun i => !b.getD i true := List.countP_pos_iff.2 ⟨i, List.mem_range.2 hi, by simp only [hbi]; rfl⟩
        omega
    exfalso
    have h1 := hall m (by omega)
    rw [getD_of_lt (by omega) true false, hm0] at h1
    cases h1
  | succ fuel ih =>
    intro b a w own hb hm0 hc hs hbw hfr hcl hla hke hd
    refine ⟨fun hr => absurd (prog b hb hr m (by omega)) (by rw [getD_of_lt (by omega) true false, hm0]; decide), fun i hi => ?_⟩
    obtain ⟨h1, o, ho, hall⟩ := mem_ready.1 hi
    have hlt : i < ops.size := (Array.getElem?_eq_some_iff.1 ho).1
    by_cases him : i = m
    · subst him
      have hdone : ∀ (k j : Nat), i - j ≤ k → j < i → b.getD j false = true := by
        intro k
        induction k with
        | zero => intro j h2 h3; omega
        | succ k ihk =>
          intro j h2 h3
          unfold coverB at hcov
          have h4 := List.all_eq_true.1 hcov j (List.mem_range.2 h3)
          obtain ⟨i', h5, h6⟩ := List.any_eq_true.1 h4
          simp only [Bool.and_eq_true, decide_eq_true_eq] at h6
          have h7 := List.mem_range.1 h5
          have hsz : i' < ops.size := by omega
          have ho' : ops[i']? = some ops[i'] := by simp [hsz]
          obtain ⟨e, he, he1, he2⟩ := depB_edge ho' h6.2
          by_cases hi' : i' = i
          · subst hi'
            rw [ho] at ho'
            have := Option.some.inj ho'
            have h8 := hall e (by rw [this]; exact he) he2
            rwa [he1] at h8
          · have h8 := hcl i' _ ho' (ihk i' (by omega) (by omega)) e he he2
            rw [he1, getD_of_lt (by omega) true false] at h8
            exact h8
      obtain ⟨hw, hwp⟩ := last o ho a w own hs hbw (fun s hs' => hla s fun j oj hoj hdj => by
        have hjs := (Array.getElem?_eq_some_iff.1 hoj).1
        by_cases hjm : j = i
        · rw [hjm]; exact hm0
        · exact absurd hdj (hs' j oj (by omega) hoj)) (fun j oj hj hoj => hd j oj hoj (hdone _ j (Nat.le_refl _) hj))
      have hr2 : Region.ready .any ops (b.setIfInBounds i true) = [] := by
        rw [List.eq_nil_iff_forall_not_mem]
        intro j hj
        obtain ⟨h2, o2, ho2, _⟩ := mem_ready.1 hj
        have hjs := (Array.getElem?_eq_some_iff.1 ho2).1
        by_cases hjm : j = i
        · subst hjm
          rw [show (b.setIfInBounds j true).getD j true = true by simp [hb ▸ hlt]] at h2
          cases h2
        · rw [getD_set_ne true (Ne.symm hjm), getD_of_lt (by omega) true false, hdone _ j (Nat.le_refl _) (by omega)] at h2
          cases h2
      unfold wpOp
      simp only [ho, hw, if_true]
      refine .inl (Oper.wp_mono (fun a' w' hq => ?_) hwp)
      cases fuel with
      | zero => exact ⟨hr2, hq⟩
      | succ fuel => exact ⟨fun _ => hq, fun i' hi' => by rw [hr2] at hi'; cases hi'⟩
    have hD := (invB2_at hB ho).1
    have hst := step i o (by omega) ho a w own hs hbw (fun j hj => hfr j i hj (by rw [getD_of_lt (by omega) false true]; exact h1)) (fun s hs' => hla s fun j oj hoj hdj => by
      cases hbj : b.getD j false with
      | false => rfl
      | true =>
        obtain ⟨q, hq, h3⟩ := Array.any_eq_true.1 (hs' j oj hoj hdj)
        simp only [Bool.and_eq_true, beq_iff_eq] at h3
        have := hcl j oj hoj hbj _ (Array.getElem_mem hq) h3.2
        rw [h3.1, h1] at this
        cases this) (fun j hj => hke j (by
        rcases hj with rfl | hj
        · rw [getD_of_lt (by omega) false true]; exact h1
        · cases hbj : b.getD j false with
          | false => rfl
          | true =>
            unfold depB at hj
            split at hj
            · rename_i oj hoj
              obtain ⟨q, hq, h3⟩ := Array.any_eq_true.1 hj
              simp only [Bool.and_eq_true, beq_iff_eq] at h3
              have := hcl j oj hoj hbj _ (Array.getElem_mem hq) h3.2
              rw [h3.1, h1] at this
              cases this
            · cases hj)) (fun e he hbe oj hoj => hd _ oj hoj (hall e he hbe))
    have cont : ∀ v w' own', V i (laid o v) own' w' → Rel mk i own w own' w' → wpAny P .any ops Q fuel (b.setIfInBounds i true) (a.put o.dst v) w' := ?_
    · unfold wpOp
      rcases hst with ⟨hw, hK⟩ | ⟨hw, hv⟩
      · simp only [ho, hw, if_true]
        exact .inl (hK _ cont)
      · simp only [ho, hw, Bool.false_eq_true, if_false]
        exact cont undef w own (by unfold laid; cases o.dst <;> exact hv) (Rel.same mk i hbw)
    intro v w' own' hv hr'
    have hslot : ∀ s, o.dst ≠ some s → (a.put o.dst v).tmps.getD s undef = a.tmps.getD s undef := fun s hs => by
      cases hdst : o.dst with
      | none => rfl
      | some d =>
        have hsd : d ≠ s := fun e => hs (by rw [hdst, e])
        simp [Act.put, Array.getD_eq_getD_getElem?, Array.getElem?_setIfInBounds_ne hsd]
    have hps : (a.put o.dst v).tmps.size = a.tmps.size := by cases hdst : o.dst <;> simp [Act.put]
    have hpd : (a.put o.dst v).defers = a.defers := by cases hdst : o.dst <;> simp [Act.put]
    refine ih (b.setIfInBounds i true) (a.put o.dst v) w' own' (by simpa using hb) (by rw [getD_set_ne false him]; exact hm0) ?_ ⟨hpd.trans hs.defers, hps.trans hs.size, fun s hsd => ?_⟩ (hbw.step hr') ?_ ?_ ?_ ?_ ?_
    · have := cnt_lt (List.range ops.size) i (List.mem_range.2 hlt) (fun j => !b.getD j true) (fun j => !(b.setIfInBounds i true).getD j true) (fun x hx => by
        by_cases hxi : x = i
        · subst hxi; simp [h1]
        · rwa [getD_set_ne true (Ne.symm hxi)] at hx) (by simp only [h1]; rfl) (by simp [hb ▸ hlt])
      omega
    · rw [hslot s (hsd i o ho)]
      exact hs.slot s hsd
    · intro j i' hj hbi k ho
      by_cases hii : i' = i
      · subst hii
        rw [show (b.setIfInBounds i' true).getD i' false = true by simp [hb ▸ hlt]] at hbi
        cases hbi
      · rcases Nat.lt_or_ge k w.heap.size with hk | hk
        · exact hfr j i' hj (by rwa [getD_set_ne false (Ne.symm hii)] at hbi) k ((hr'.owns k hk).symm.trans ho)
        · exact hii (Option.some.inj (hj.symm.trans (hr'.fresh k j hk ho)))
    · intro j oj hoj hbj e he hbe
      by_cases hji : j = i
      · subst hji
        rw [ho] at hoj
        cases hoj
        have h5 := hall e he hbe
        have h6 : e.on ≠ j := fun h => by
          have := (invB2_at hB ho).2 e he hbe
          omega
        rw [getD_set_ne true (Ne.symm h6)]
        rcases Nat.lt_or_ge e.on b.size with h | h
        · rw [getD_of_lt h true false]; exact h5
        · simp [h]
      · rw [getD_set_ne false (Ne.symm hji)] at hbj
        have h5 := hcl j oj hoj hbj e he hbe
        by_cases h6 : e.on = i
        · rw [h6]; simp [hb ▸ hlt]
        · rw [getD_set_ne true (Ne.symm h6)]; exact h5
    · intro s hs'
      have h5 : o.dst ≠ some s := fun h => by
        have := hs' i o ho h
        rw [show (b.setIfInBounds i true).getD i false = true by simp [hb ▸ hlt]] at this
        cases this
      rw [hslot s h5]
      refine hla s fun j oj hoj hdj => ?_
      have h6 := hs' j oj hoj hdj
      have h7 : j ≠ i := fun h => by
        subst h
        rw [ho] at hoj
        cases hoj
        exact h5 hdj
      rwa [getD_set_ne false (Ne.symm h7)] at h6
    · intro j hbj k hk hok
      by_cases hji : j = i
      · subst hji
        rw [show (b.setIfInBounds j true).getD j false = true by simp [hb ▸ hlt]] at hbj
        cases hbj
      · rw [getD_set_ne false (Ne.symm hji)] at hbj
        rw [hr'.keep k (Nat.lt_of_lt_of_le hk hbw.size) (by rw [hbw.owns k hk, hok]; intro e; exact hji (Option.some.inj e))]
        exact hke j hbj k hk hok
    · intro j oj hoj hbj
      by_cases hji : j = i
      · subst hji
        rw [ho] at hoj
        cases hoj
        have : slotOf o (a.put o.dst v) = laid o v := by
          unfold slotOf laid
          cases hdst : o.dst with
          | none => rfl
          | some d =>
            have hdn := (hD d hdst).1
            simp [Act.put, hs.size, hn, hdn]
        rw [this]
        exact hv
      · have hsl : slotOf oj (a.put o.dst v) = slotOf oj a := by
          unfold slotOf
          cases hdj : oj.dst with
          | none => rfl
          | some dj =>
            refine hslot dj (fun e => ?_)
            rcases Nat.lt_or_ge j i with h | h
            · exact (hD dj e).2 j oj h hoj hdj
            · exact ((invB2_at hB hoj).1 dj hdj).2 i o (by omega) ho e
        rw [hsl]
        have hbj' : b.getD j false = true := by rwa [getD_set_ne false (Ne.symm hji)] at hbj
        refine hV i j _ _ _ _ _ (Ne.symm hji) ?_ (hd j oj hoj hbj') hr'
        unfold depB
        rw [hoj, Bool.eq_false_iff]
        intro hx
        obtain ⟨q, hq, h3⟩ := Array.any_eq_true.1 hx
        simp only [Bool.and_eq_true, beq_iff_eq] at h3
        have := hcl j oj hoj hbj' _ (Array.getElem_mem hq) h3.2
        rw [h3.1, h1] at this
        cases this
/-- THE LAW -/
theorem wp_region_last {id n m : Nat} {a0 : Act} {w0 : World} (mk own0 : Nat → Option Nat) (V : Nat → Value → (Nat → Option Nat) → World → Prop) (hm : P.follows .mixedOrders = true) (hB : invB2 ops n = true) (hn : a0.tmps.size = n) (hM : ops.size = m + 1) (hcov : coverB ops m = true) (htop : ∀ k, w0.heap.size ≤ k → own0 k = none) (hmk : ∀ j i, mk j = some i → ∀ k, own0 k ≠ some j)
    (hV : ∀ i j v own w own' w', i ≠ j → depB ops j i = false → V j v own w → Rel mk i own w own' w' → V j v own' w')
    (step : ∀ (i : Nat) o, i < m → ops[i]? = some o → ∀ (a : Act) (w : World) (own : Nat → Option Nat), Same ops a0 a → Since own0 w0 own w → (∀ j, mk j = some i → ∀ k, own k ≠ some j) →
      (∀ s : Nat, (∀ (j : Nat) oj, ops[j]? = some oj → oj.dst = some s → (oj.after.any fun e => e.on == i && Region.binds .any e) = true) → a.tmps.getD s undef = a0.tmps.getD s undef) →
      (∀ j, j = i ∨ depB ops j i = true → ∀ k, k < w0.heap.size → own0 k = some j → w.heap[k]? = w0.heap[k]?) →
      (∀ e ∈ o.after, Region.binds .any e = true → ∀ oj, ops[e.on]? = some oj → V e.on (slotOf oj a) own w) →
      (Region.wanted o (yielded ops a.tmps) = true ∧ ∀ K : Act → World → Prop, (∀ v w' own', V i (laid o v) own' w' → Rel mk i own w own' w' → K (a.put o.dst v) w') → o.wp P a w K Q) ∨ (Region.wanted o (yielded ops a.tmps) = false ∧ V i undef own w))
    (last : ∀ o, ops[m]? = some o → ∀ (a : Act) (w : World) (own : Nat → Option Nat), Same ops a0 a → Since own0 w0 own w →
      (∀ s : Nat, (∀ (j : Nat) oj, j < m → ops[j]? = some oj → oj.dst ≠ some s) → a.tmps.getD s undef = a0.tmps.getD s undef) →
      (∀ (j : Nat) oj, j < m → ops[j]? = some oj → V j (slotOf oj a) own w) → Region.wanted o (yielded ops a.tmps) = true ∧ o.wp P a w (Q .normal) Q) :
    (Code.region id ops true).wp P Q a0 w0 := by
  refine wp_region_any hm (wpAny_last hB hn hM hcov hV step last ops.size _ a0 _ own0 (by simp) (by simp [hM]) ?_ ⟨rfl, rfl, fun _ _ => rfl⟩ ⟨rfl, rfl, rfl, Nat.le_refl _, fun _ _ => rfl, fun _ _ _ => rfl, fun _ c _ _ h => ⟨c, h, rfl⟩, htop⟩ (fun j i hj _ => hmk j i hj) (fun j oj hoj hbj => ?_) (fun _ _ => rfl) (fun _ _ _ _ _ => rfl) ?_)
  · exact Nat.le_trans (List.countP_le_length) (by simp)
  · have hlt : j < ops.size := (Array.getElem?_eq_some_iff.1 hoj).1
    simp [hlt] at hbj
  · intro i o ho hb
    have hlt : i < ops.size := (Array.getElem?_eq_some_iff.1 ho).1
    simp [hlt] at hb
theorem finL {V : Nat → Value → (Nat → Option Nat) → World → Prop} {a : Act} {own : Nat → Option Nat} {w : World} {m : Nat} (h : ∀ (j : Nat) oj, j < m → ops[j]? = some oj → V j (slotOf oj a) own w) (j d : Nat) (hj : j < m) (hjd : (ops[j]?).bind (·.dst) = some d) : V j (a.tmps.getD d undef) own w := by
  obtain ⟨oj, ho, hd⟩ := Option.bind_eq_some_iff.1 hjd
  have := h j oj hj ho
  unfold slotOf at this
  rwa [hd] at this
theorem finLN {V : Nat → Value → (Nat → Option Nat) → World → Prop} {a : Act} {own : Nat → Option Nat} {w : World} {m : Nat} (h : ∀ (j : Nat) oj, j < m → ops[j]? = some oj → V j (slotOf oj a) own w) (j : Nat) (hj : j < m) (hjd : (ops[j]?).map (·.dst) = some none) : V j undef own w := by
  obtain ⟨oj, ho, hd⟩ := Option.map_eq_some_iff.1 hjd
  have := h j oj hj ho
  unfold slotOf at this
  rwa [hd] at this
theorem last_call {o : Oper} {a : Act} {w : World} (f : FuncId) (vs : Array Value) (hr : (execOp a.eval o).run P w = .ok (.enter f vs) w) (hc : Calls P f vs w fun e w' => ∃ v, e = .returned v ∧ Q .normal (a.put o.dst v) w') : o.wp P a w (Q .normal) Q := by
  unfold Oper.wp
  rw [hr, Oper.upon_enter]
  refine hc.mono ?_
  rintro e w' ⟨v, rfl, h⟩
  exact h
end
end Go.Proofs.YtdepmjgibenejaaDoor
