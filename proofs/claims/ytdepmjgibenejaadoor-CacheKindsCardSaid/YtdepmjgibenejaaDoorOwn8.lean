/- The law of XOwn4, where whatever an operation that waits for another one owns stands till that one comes: cells are read and one is written in one region. -/
import Derived.Test.YtdepmjgibenejaaDoorOwn4
namespace Go.Proofs.YtdepmjgibenejaaDoor
open Go.RowKit
section
variable {P : Program} {ops : Array Oper} {Q : Exit → Act → World → Prop}
theorem wpAny_own8 {n : Nat} {a0 : Act} {w0 : World} {mk own0 : Nat → Option Nat} {V : Nat → Value → (Nat → Option Nat) → World → Prop} (hB : invB2 ops n = true) (hn : a0.tmps.size = n)
    (hV : ∀ i j v own w own' w', i ≠ j → depB ops j i = false → V j v own w → Rel mk i own w own' w' → V j v own' w')
    (step : ∀ (i : Nat) o, ops[i]? = some o → ∀ (a : Act) (w : World) (own : Nat → Option Nat), Same ops a0 a → Since own0 w0 own w → (∀ j, mk j = some i → ∀ k, own k ≠ some j) →
      (∀ s : Nat, (∀ (j : Nat) oj, ops[j]? = some oj → oj.dst = some s → (oj.after.any fun e => e.on == i && Region.binds .any e) = true) → a.tmps.getD s undef = a0.tmps.getD s undef) →
      (∀ j, j = i ∨ depB ops j i = true → ∀ k, k < w0.heap.size → own0 k = some j → w.heap[k]? = w0.heap[k]?) →
      (∀ e ∈ o.after, Region.binds .any e = true → ∀ oj, ops[e.on]? = some oj → V e.on (slotOf oj a) own w) →
      (Region.wanted o (yielded ops a.tmps) = true ∧ ∀ K : Act → World → Prop, (∀ v w' own', V i (laid o v) own' w' → Rel mk i own w own' w' → K (a.put o.dst v) w') → o.wp P a w K Q) ∨ (Region.wanted o (yielded ops a.tmps) = false ∧ V i undef own w))
    (fin : ∀ (a : Act) (w : World) own, Same ops a0 a → Since own0 w0 own w → (∀ (i : Nat) o, ops[i]? = some o → V i (slotOf o a) own w) → Q .normal a w) :
    ∀ (fuel : Nat) (b : Array Bool) (a : Act) (w : World) own, b.size = ops.size → ((List.range ops.size).countP fun i => !b.getD i true) ≤ fuel → Same ops a0 a → Since own0 w0 own w → (∀ j i, mk j = some i → b.getD i false = false → ∀ k, own k ≠ some j) → (∀ (j : Nat) oj, ops[j]? = some oj → b.getD j false = true → ∀ e ∈ oj.after, Region.binds .any e = true → b.getD e.on true = true) → (∀ s : Nat, (∀ (j : Nat) oj, ops[j]? = some oj → oj.dst = some s → b.getD j false = false) → a.tmps.getD s undef = a0.tmps.getD s undef) → (∀ j, b.getD j false = false → ∀ k, k < w0.heap.size → own0 k = some j → w.heap[k]? = w0.heap[k]?) → DoneO ops V b a own w → wpAny P .any ops Q fuel b a w := by
  have prog : ∀ b : Array Bool, b.size = ops.size → Region.ready .any ops b = [] → ∀ i, i < ops.size → b.getD i true = true := by
    intro b hb hr i
    induction i using Nat.strongRecOn with
    | _ i ih =>
      intro hi
      cases hbi : b.getD i true with
      | true => rfl
      | false =>
        exfalso
        have : i ∈ Region.ready .any ops b := mem_ready.2 ⟨hbi, ops[i], by simp [hi], fun e he hbe => by
          have hlt := (invB2_at hB (i := i) (o := ops[i]) (by simp [hi])).2 e he hbe
          rw [getD_of_lt (by omega) false true]
          exact ih _ hlt (by omega)⟩
        rw [hr] at this
        cases this
  have finish : ∀ b a w own, b.size = ops.size → Region.ready .any ops b = [] → Same ops a0 a → Since own0 w0 own w → DoneO ops V b a own w → Q .normal a w := by
    intro b a w own hb hr hs hbw hd
    refine fin a w own hs hbw fun i o ho => hd i o ho ?_
    have hlt : i < ops.size := (Array.getElem?_eq_some_iff.1 ho).1
    rw [getD_of_lt (by omega) false true]
    exact prog b hb hr i hlt
  intro fuel
  induction fuel with
  | zero =>
    intro b a w own hb hc hs hbw hfr hcl hla hke hd
    have hall : ∀ i, i < ops.size → b.getD i true = true := by
      intro i hi
      cases hbi : b.getD i true with
      | true => rfl
      | false =>
        exfalso
        have : 0 < (List.range ops.size).countP fun i => !b.getD i true := List.countP_pos_iff.2 ⟨i, List.mem_range.2 hi, by simp only [hbi]; rfl⟩
        omega
    have hr : Region.ready .any ops b = [] := by
      rw [List.eq_nil_iff_forall_not_mem]
      intro j hj
      obtain ⟨h1, o, ho, _⟩ := mem_ready.1 hj
      rw [hall j (Array.getElem?_eq_some_iff.1 ho).1] at h1
      cases h1
    exact ⟨hr, finish b a w own hb hr hs hbw hd⟩
  | succ fuel ih =>
    intro b a w own hb hc hs hbw hfr hcl hla hke hd
    refine ⟨fun hr => finish b a w own hb hr hs hbw hd, fun i hi => ?_⟩
    obtain ⟨h1, o, ho, hall⟩ := mem_ready.1 hi
    have hlt : i < ops.size := (Array.getElem?_eq_some_iff.1 ho).1
    have hD := (invB2_at hB ho).1
    have hst := step i o ho a w own hs hbw (fun j hj => hfr j i hj (by rw [getD_of_lt (by omega) false true]; exact h1)) (fun s hs' => hla s fun j oj hoj hdj => by
      cases hbj : b.getD j false with
      | false => rfl
      | true =>
        obtain ⟨q, hq, h3⟩ := Array.any_eq_true.1 (hs' j oj hoj hdj)
        simp only [Bool.and_eq_true, beq_iff_eq] at h3
        have := hcl j oj hoj hbj _ (Array.getElem_mem hq) h3.2
        rw [h3.1, h1] at this
        cases this) (fun j hj => hke j (by
        rcases hj with rfl | hj
        · rw [getD_of_lt (by omega) false true]; exact h1
        · cases hbj : b.getD j false with
          | false => rfl
          | true =>
            unfold depB at hj
            split at hj
            · rename_i oj hoj
              obtain ⟨q, hq, h3⟩ := Array.any_eq_true.1 hj
              simp only [Bool.and_eq_true, beq_iff_eq] at h3
              have := hcl j oj hoj hbj _ (Array.getElem_mem hq) h3.2
              rw [h3.1, h1] at this
              cases this
            · cases hj)) (fun e he hbe oj hoj => hd _ oj hoj (hall e he hbe))
    have cont : ∀ v w' own', V i (laid o v) own' w' → Rel mk i own w own' w' → wpAny P .any ops Q fuel (b.setIfInBounds i true) (a.put o.dst v) w' := ?_
    · unfold wpOp
      rcases hst with ⟨hw, hK⟩ | ⟨hw, hv⟩
      · simp only [ho, hw, if_true]
        exact .inl (hK _ cont)
      · simp only [ho, hw, Bool.false_eq_true, if_false]
        exact cont undef w own (by unfold laid; cases o.dst <;> exact hv) (Rel.same mk i hbw)
    intro v w' own' hv hr'
    have hslot : ∀ s, o.dst ≠ some s → (a.put o.dst v).tmps.getD s undef = a.tmps.getD s undef := fun s hs => by
      cases hdst : o.dst with
      | none => rfl
      | some d =>
        have hsd : d ≠ s := fun e => hs (by rw [hdst, e])
        simp [Act.put, Array.getD_eq_getD_getElem?, Array.getElem?_setIfInBounds_ne hsd]
    have hps : (a.put o.dst v).tmps.size = a.tmps.size := by cases hdst : o.dst <;> simp [Act.put]
    have hpd : (a.put o.dst v).defers = a.defers := by cases hdst : o.dst <;> simp [Act.put]
    refine ih (b.setIfInBounds i true) (a.put o.dst v) w' own' (by simpa using hb) ?_ ⟨hpd.trans hs.defers, hps.trans hs.size, fun s hsd => ?_⟩ (hbw.step hr') ?_ ?_ ?_ ?_ ?_
    · have := cnt_lt (List.range ops.size) i (List.mem_range.2 hlt) (fun j => !b.getD j true) (fun j => !(b.setIfInBounds i true).getD j true) (fun x hx => by
        by_cases hxi : x = i
        · subst hxi; simp [h1]
        · rwa [getD_set_ne true (Ne.symm hxi)] at hx) (by simp only [h1]; rfl) (by simp [hb ▸ hlt])
      omega
    · rw [hslot s (hsd i o ho)]
      exact hs.slot s hsd
    · intro j i' hj hbi k ho
      by_cases hii : i' = i
      · subst hii
        rw [show (b.setIfInBounds i' true).getD i' false = true by simp [hb ▸ hlt]] at hbi
        cases hbi
      · rcases Nat.lt_or_ge k w.heap.size with hk | hk
        · exact hfr j i' hj (by rwa [getD_set_ne false (Ne.symm hii)] at hbi) k ((hr'.owns k hk).symm.trans ho)
        · exact hii (Option.some.inj (hj.symm.trans (hr'.fresh k j hk ho)))
    · intro j oj hoj hbj e he hbe
      by_cases hji : j = i
      · subst hji
        rw [ho] at hoj
        cases hoj
        have h5 := hall e he hbe
        have h6 : e.on ≠ j := fun h => by
          have := (invB2_at hB ho).2 e he hbe
          omega
        rw [getD_set_ne true (Ne.symm h6)]
        rcases Nat.lt_or_ge e.on b.size with h | h
        · rw [getD_of_lt h true false]; exact h5
        · simp [h]
      · rw [getD_set_ne false (Ne.symm hji)] at hbj
        have h5 := hcl j oj hoj hbj e he hbe
        by_cases h6 : e.on = i
        · rw [h6]; simp [hb ▸ hlt]
        · rw [getD_set_ne true (Ne.symm h6)]; exact h5
    · intro s hs'
      have h5 : o.dst ≠ some s := fun h => by
        have := hs' i o ho h
        rw [show (b.setIfInBounds i true).getD i false = true by simp [hb ▸ hlt]] at this
        cases this
      rw [hslot s h5]
      refine hla s fun j oj hoj hdj => ?_
      have h6 := hs' j oj hoj hdj
      have h7 : j ≠ i := fun h => by
        subst h
        rw [ho] at hoj
        cases hoj
        exact h5 hdj
      rwa [getD_set_ne false (Ne.symm h7)] at h6
    · intro j hbj k hk hok
      by_cases hji : j = i
      · subst hji
        rw [show (b.setIfInBounds j true).getD j false = true by simp [hb ▸ hlt]] at hbj
        cases hbj
      · rw [getD_set_ne false (Ne.symm hji)] at hbj
        rw [hr'.keep k (Nat.lt_of_lt_of_le hk hbw.size) (by rw [hbw.owns k hk, hok]; intro e; exact hji (Option.some.inj e))]
        exact hke j hbj k hk hok
    · intro j oj hoj hbj
      by_cases hji : j = i
      · subst hji
        rw [ho] at hoj
        cases hoj
        have : slotOf o (a.put o.dst v) = laid o v := by
          unfold slotOf laid
          cases hdst : o.dst with
          | none => rfl
          | some d =>
            have hdn := (hD d hdst).1
            simp [Act.put, hs.size, hn, hdn]
        rw [this]
        exact hv
      · have hsl : slotOf oj (a.put o.dst v) = slotOf oj a := by
          unfold slotOf
          cases hdj : oj.dst with
          | none => rfl
          | some dj =>
            refine hslot dj (fun e => ?_)
            rcases Nat.lt_or_ge j i with h | h
            · exact (hD dj e).2 j oj h hoj hdj
            · exact ((invB2_at hB hoj).1 dj hdj).2 i o (by omega) ho e
        rw [hsl]
        have hbj' : b.getD j false = true := by rwa [getD_set_ne false (Ne.symm hji)] at hbj
        refine hV i j _ _ _ _ _ (Ne.symm hji) ?_ (hd j oj hoj hbj') hr'
        unfold depB
        rw [hoj, Bool.eq_false_iff]
        intro hx
        obtain ⟨q, hq, h3⟩ := Array.any_eq_true.1 hx
        simp only [Bool.and_eq_true, beq_iff_eq] at h3
        have := hcl j oj hoj hbj' _ (Array.getElem_mem hq) h3.2
        rw [h3.1, h1] at this
        cases this
/-- THE LAW -/
theorem wp_region_own8 {id n : Nat} {a0 : Act} {w0 : World} (mk own0 : Nat → Option Nat) (V : Nat → Value → (Nat → Option Nat) → World → Prop) (hm : P.follows .mixedOrders = true) (hB : invB2 ops n = true) (hn : a0.tmps.size = n) (htop : ∀ k, w0.heap.size ≤ k → own0 k = none) (hmk : ∀ j i, mk j = some i → ∀ k, own0 k ≠ some j)
    (hV : ∀ i j v own w own' w', i ≠ j → depB ops j i = false → V j v own w → Rel mk i own w own' w' → V j v own' w')
    (step : ∀ (i : Nat) o, ops[i]? = some o → ∀ (a : Act) (w : World) (own : Nat → Option Nat), Same ops a0 a → Since own0 w0 own w → (∀ j, mk j = some i → ∀ k, own k ≠ some j) →
      (∀ s : Nat, (∀ (j : Nat) oj, ops[j]? = some oj → oj.dst = some s → (oj.after.any fun e => e.on == i && Region.binds .any e) = true) → a.tmps.getD s undef = a0.tmps.getD s undef) →
      (∀ j, j = i ∨ depB ops j i = true → ∀ k, k < w0.heap.size → own0 k = some j → w.heap[k]? = w0.heap[k]?) →
      (∀ e ∈ o.after, Region.binds .any e = true → ∀ oj, ops[e.on]? = some oj → V e.on (slotOf oj a) own w) →
      (Region.wanted o (yielded ops a.tmps) = true ∧ ∀ K : Act → World → Prop, (∀ v w' own', V i (laid o v) own' w' → Rel mk i own w own' w' → K (a.put o.dst v) w') → o.wp P a w K Q) ∨ (Region.wanted o (yielded ops a.tmps) = false ∧ V i undef own w))
    (fin : ∀ (a : Act) (w : World) own, Same ops a0 a → Since own0 w0 own w → (∀ (i : Nat) o, ops[i]? = some o → V i (slotOf o a) own w) → Q .normal a w) :
    (Code.region id ops true).wp P Q a0 w0 := by
  refine wp_region_any hm (wpAny_own8 hB hn hV step fin ops.size _ a0 _ own0 (by simp) ?_ ⟨rfl, rfl, fun _ _ => rfl⟩ ⟨rfl, rfl, rfl, Nat.le_refl _, fun _ _ => rfl, fun _ _ _ => rfl, fun _ c _ _ h => ⟨c, h, rfl⟩, htop⟩ (fun j i hj _ => hmk j i hj) (fun j oj hoj hbj => ?_) (fun _ _ => rfl) (fun _ _ _ _ _ => rfl) ?_)
  · exact Nat.le_trans (List.countP_le_length) (by simp)
  · have hlt : j < ops.size := (Array.getElem?_eq_some_iff.1 hoj).1
    simp [hlt] at hbj
  · intro i o ho hb
    have hlt : i < ops.size := (Array.getElem?_eq_some_iff.1 ho).1
    simp [hlt] at hb
end
/-- a store of one cell into a block that the operation owns -/
theorem showsO_store_cell {mk own0 own : Nat → Option Nat} {w0 w : World} {P : Program} {Q : Exit → Act → World → Prop} {V : Nat → Value → (Nat → Option Nat) → World → Prop} {i : Nat} {o : Oper} {a : Act} (hs0 : Since own0 w0 own w)
    {ops : Array Oper} (hke : ∀ j, j = i ∨ depB ops j i = true → ∀ k, k < w0.heap.size → own0 k = some j → w.heap[k]? = w0.heap[k]?) (hd : o.dst = none) (g off : Nat) (cs : Array Value) (T : TypeId) (hg : w0.heap[g]? = some (.cells cs T (0, 0))) (how : own0 g = some i) (v : Value)
    (hr : (execOp a.eval o).run P w = .ok .skip (w.setCell ⟨g, off, none⟩ v))
    (hv : OutV own (w.setCell ⟨g, off, none⟩ v) g i T (cs.setIfInBounds off v) → V i undef own (w.setCell ⟨g, off, none⟩ v)) : ShowsO mk P Q V i o a own w := by
  intro K hK
  have hlt := (Array.getElem?_eq_some_iff.1 hg).1
  have hgw : w.heap[g]? = some (.cells cs T (0, 0)) := (hke i (.inl rfl) g hlt how).trans hg
  have how' : own g = some i := (hs0.owns g hlt).trans how
  have hset : (w.setCell ⟨g, off, none⟩ v).heap[g]? = some (.cells (cs.setIfInBounds off v) T (0, 0)) := by simp [World.setCell, Array.getElem?_modify, hgw]
  unfold Oper.wp
  rw [hr]
  refine hK undef _ own (by unfold laid; rw [hd]; exact hv ⟨how', hset⟩) ⟨rfl, rfl, rfl, by simp [World.setCell], fun _ _ => rfl, fun k hk hn => ?_, fun k c t fr hc => ?_, fun k j hk hj => ?_, fun k hk => hs0.top k (by simpa [World.setCell] using hk)⟩
  · have hkg : k ≠ g := fun e => hn (e ▸ how')
    simp [World.setCell, Array.getElem?_modify, Ne.symm hkg]
  · by_cases hkg : k = g
    · subst hkg
      rw [hgw] at hc
      cases hc
      exact ⟨_, hset, by simp⟩
    · exact ⟨c, by simpa [World.setCell, Array.getElem?_modify, Ne.symm hkg] using hc, rfl⟩
  · rw [hs0.top k hk] at hj; cases hj
end Go.Proofs.YtdepmjgibenejaaDoor
