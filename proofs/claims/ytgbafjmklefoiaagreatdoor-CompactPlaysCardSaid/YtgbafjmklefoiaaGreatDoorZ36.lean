/- The law of XOwn8 for regions in which calls write: nothing is said of what a block is made of. cartularylaw09.does: what a region leaves in which the two ranges are written. cartularylaw01.LeftHashes; cartularyref18.Root, Inclusion; verify.Inclusion. cartularylaw01: TwinHashes and LeftHashes of as many hashes as a call can be handed. -/
import Derived.Test.YtgbafjmklefoiaaGreatDoorZ07
import Derived.Test.YtgbafjmklefoiaaGreatDoorZ35
import Derived.Test.YtgbafjmklefoiaaGreatDoorZ09
import Derived.Test.YtgbafjmklefoiaaGreatDoorZ02
import Derived.Test.YtgbafjmklefoiaaGreatDoorZ08
import Derived.Test.YtgbafjmklefoiaaGreatDoorZ30
section
namespace Go.Proofs.YtgbafjmklefoiaaGreatDoor.K2
open Go.RowKit
structure Rel (mk : Nat → Option Nat) (i : Nat) (own : Nat → Option Nat) (w : World) (own' : Nat → Option Nat) (w' : World) : Prop where
  os : w'.os = w.os
  tape : w'.tape = w.tape
  output : w'.output = w.output
  size : w.heap.size ≤ w'.heap.size
  owns : ∀ k, k < w.heap.size → own' k = own k
  keep : ∀ k, k < w.heap.size → own k ≠ some i → w'.heap[k]? = w.heap[k]?
  kind : ∀ (k : Nat) (c : Array Value) t fr j, own k = some j → (mk j).isSome = true → w.heap[k]? = some (Obj.cells c t fr) → ∃ c' : Array Value, w'.heap[k]? = some (Obj.cells c' t fr) ∧ c'.size = c.size
  fresh : ∀ k j, w.heap.size ≤ k → own' k = some j → mk j = some i
  top : ∀ k, w'.heap.size ≤ k → own' k = none
structure Since (own0 : Nat → Option Nat) (w0 : World) (own : Nat → Option Nat) (w : World) : Prop where
  os : w.os = w0.os
  tape : w.tape = w0.tape
  output : w.output = w0.output
  size : w0.heap.size ≤ w.heap.size
  owns : ∀ k, k < w0.heap.size → own k = own0 k
  keep : ∀ k, k < w0.heap.size → own0 k = none → w.heap[k]? = w0.heap[k]?
  top : ∀ k, w.heap.size ≤ k → own k = none
theorem Since.step {mk own0 own own' : Nat → Option Nat} {w0 w w' : World} {i : Nat} (h : Since own0 w0 own w) (r : Rel mk i own w own' w') : Since own0 w0 own' w' where
  os := r.os.trans h.os
  tape := r.tape.trans h.tape
  output := r.output.trans h.output
  size := Nat.le_trans h.size r.size
  owns k hk := (r.owns k (Nat.lt_of_lt_of_le hk h.size)).trans (h.owns k hk)
  keep k hk ho := (r.keep k (Nat.lt_of_lt_of_le hk h.size) (by rw [h.owns k hk, ho]; simp)).trans (h.keep k hk ho)
  top := r.top
theorem Rel.same (mk : Nat → Option Nat) (i : Nat) {own0 own : Nat → Option Nat} {w0 w : World} (h : Since own0 w0 own w) : Rel mk i own w own w :=
  ⟨rfl, rfl, rfl, Nat.le_refl _, fun _ _ => rfl, fun _ _ _ => rfl, fun _ c _ _ _ _ _ h => ⟨c, h, rfl⟩, fun k j hk ho => (by rw [h.top k hk] at ho; cases ho), h.top⟩
theorem Rel.below (mk : Nat → Option Nat) (i : Nat) {own0 own : Nat → Option Nat} {w0 w w' : World} (hs : Since own0 w0 own w) (h : Below w.heap.size w w') : Rel mk i own w own w' :=
  ⟨h.os, h.tape, h.output, h.size, fun _ _ => rfl, fun k hk _ => h.block k hk, fun k c _ _ _ _ _ hc => ⟨c, (h.block k (Array.getElem?_eq_some_iff.1 hc).1).trans hc, rfl⟩,
    fun k j hk ho => (by rw [hs.top k hk] at ho; cases ho), fun k hk => hs.top k (Nat.le_trans h.size hk)⟩
theorem Since.below {own0 own : Nat → Option Nat} {w0 w : World} (h : Since own0 w0 own w) {B : Nat} (hB : ∀ k, k < B → own0 k = none) (hs : B ≤ w0.heap.size) : Below B w0 w :=
  ⟨h.os, h.tape, h.output, h.size, fun k hk => h.keep k (Nat.lt_of_lt_of_le hk hs) (hB k hk)⟩
section
variable {P : Program} {ops : Array Oper} {Q : Exit → Act → World → Prop}
theorem wpAny_ownL {n : Nat} {a0 : Act} {w0 : World} {mk own0 : Nat → Option Nat} {V : Nat → Value → (Nat → Option Nat) → World → Prop} (hB : invB2 ops n = true) (hn : a0.tmps.size = n)
    (hV : ∀ i j v own w own' w', i ≠ j → depB ops j i = false → V j v own w → Rel mk i own w own' w' → V j v own' w')
    (step : ∀ (i : Nat) o, ops[i]? = some o → ∀ (a : Act) (w : World) (own : Nat → Option Nat), Same ops a0 a → Since own0 w0 own w → (∀ j, mk j = some i → ∀ k, own k ≠ some j) →
      (∀ s : Nat, (∀ (j : Nat) oj, ops[j]? = some oj → oj.dst = some s → (oj.after.any fun e => e.on == i && Region.binds .any e) = true) → a.tmps.getD s undef = a0.tmps.getD s undef) →
      (∀ j, j = i ∨ depB ops j i = true → ∀ k, k < w0.heap.size → own0 k = some j → w.heap[k]? = w0.heap[k]?) →
      (∀ e ∈ o.after, Region.binds .any e = true → ∀ oj, ops[e.on]? = some oj → V e.on (slotOf oj a) own w) →
      (Region.wanted o (yielded ops a.tmps) = true ∧ ∀ K : Act → World → Prop, (∀ v w' own', V i (laid o v) own' w' → Rel mk i own w own' w' → K (a.put o.dst v) w') → o.wp P a w K Q) ∨ (Region.wanted o (yielded ops a.tmps) = false ∧ V i undef own w))
    (fin : ∀ (a : Act) (w : World) own, Same ops a0 a → Since own0 w0 own w → (∀ (i : Nat) o, ops[i]? = some o → V i (slotOf o a) own w) → Q .normal a w) :
    ∀ (fuel : Nat) (b : Array Bool) (a : Act) (w : World) own, b.size = ops.size → ((List.range ops.size).countP fun i => !b.getD i true) ≤ fuel → Same ops a0 a → Since own0 w0 own w → (∀ j i, mk j = some i → b.getD i false = false → ∀ k, own k ≠ some j) → (∀ (j : Nat) oj, ops[j]? = some oj → b.getD j false = true → ∀ e ∈ oj.after, Region.binds .any e = true → b.getD e.on true = true) → (∀ s : Nat, (∀ (j : Nat) oj, ops[j]? = some oj → oj.dst = some s → b.getD j false = false) → a.tmps.getD s undef = a0.tmps.getD s undef) → (∀ j, b.getD j false = false → ∀ k, k < w0.heap.size → own0 k = some j → w.heap[k]? = w0.heap[k]?) → DoneO ops V b a own w → wpAny P .any ops Q fuel b a w := by
  have prog : ∀ b : Array Bool, b.size = ops.size → Region.ready .any ops b = [] → ∀ i, i < ops.size → b.getD i true = true := by
    intro b hb hr i
    induction i using Nat.strongRecOn with
    | _ i ih =>
      intro hi
      cases hbi : b.getD i true with
      | true => rfl
      | false =>
        exfalso
        have : i ∈ Region.ready .any ops b := mem_ready.2 ⟨hbi, ops[i], by simp [hi], fun e he hbe => by
          have hlt := (invB2_at hB (i := i) (o := ops[i]) (by simp [hi])).2 e he hbe
          rw [getD_of_lt (by omega) false true]
          exact ih _ hlt (by omega)⟩
        rw [hr] at this
        cases this
  have finish : ∀ b a w own, b.size = ops.size → Region.ready .any ops b = [] → Same ops a0 a → Since own0 w0 own w → DoneO ops V b a own w → Q .normal a w := by
    intro b a w own hb hr hs hbw hd
    refine fin a w own hs hbw fun i o ho => hd i o ho ?_
    have hlt : i < ops.size := (Array.getElem?_eq_some_iff.1 ho).1
    rw [getD_of_lt (by omega) false true]
    exact prog b hb hr i hlt
  intro fuel
  induction fuel with
  | zero =>
    intro b a w own hb hc hs hbw hfr hcl hla hke hd
    have hall : ∀ i, i < ops.size → b.getD i true = true := by
      intro i hi
      cases hbi : b.getD i true with
      | true => rfl
      | false =>
        exfalso
        have : 0 < (List.range ops.size).countP fun i => !b.getD i true := List.countP_pos_iff.2 ⟨i, List.mem_range.2 hi, by simp only [hbi]; rfl⟩
        omega
    have hr : Region.ready .any ops b = [] := by
      rw [List.eq_nil_iff_forall_not_mem]
      intro j hj
      obtain ⟨h1, o, ho, _⟩ := mem_ready.1 hj
      rw [hall j (Array.getElem?_eq_some_iff.1 ho).1] at h1
      cases h1
    exact ⟨hr, finish b a w own hb hr hs hbw hd⟩
  | succ fuel ih =>
    intro b a w own hb hc hs hbw hfr hcl hla hke hd
    refine ⟨fun hr => finish b a w own hb hr hs hbw hd, fun i hi => ?_⟩
    obtain ⟨h1, o, ho, hall⟩ := mem_ready.1 hi
    have hlt : i < ops.size := (Array.getElem?_eq_some_iff.1 ho).1
    have hD := (invB2_at hB ho).1
    have hst := step i o ho a w own hs hbw (fun j hj => hfr j i hj (by rw [getD_of_lt (by omega) false true]; exact h1)) (fun s hs' => hla s fun j oj hoj hdj => by
      cases hbj : b.getD j false with
      | false => rfl
      | true =>
        obtain ⟨q, hq, h3⟩ := Array.any_eq_true.1 (hs' j oj hoj hdj)
        simp only [Bool.and_eq_true, beq_iff_eq] at h3
        have := hcl j oj hoj hbj _ (Array.getElem_mem hq) h3.2
        rw [h3.1, h1] at this
        cases this) (fun j hj => hke j (by
        rcases hj with rfl | hj
        · rw [getD_of_lt (by omega) false true]; exact h1
        · cases hbj : b.getD j false with
          | false => rfl
          | true =>
            unfold depB at hj
            split at hj
            · rename_i oj hoj
              obtain ⟨q, hq, h3⟩ := Array.any_eq_true.1 hj
              simp only [Bool.and_eq_true, beq_iff_eq] at h3
              have := hcl j oj hoj hbj _ (Array.getElem_mem hq) h3.2
              rw [h3.1, h1] at this
              cases this
            · cases hj)) (fun e he hbe oj hoj => hd _ oj hoj (hall e he hbe))
    have cont : ∀ v w' own', V i (laid o v) own' w' → Rel mk i own w own' w' → wpAny P .any ops Q fuel (b.setIfInBounds i true) (a.put o.dst v) w' := ?_
    · unfold wpOp
      rcases hst with ⟨hw, hK⟩ | ⟨hw, hv⟩
      · simp only [ho, hw, if_true]
        exact .inl (hK _ cont)
      · simp only [ho, hw, Bool.false_eq_true, if_false]
        exact cont undef w own (by unfold laid; cases o.dst <;> exact hv) (Rel.same mk i hbw)
    intro v w' own' hv hr'
    have hslot : ∀ s, o.dst ≠ some s → (a.put o.dst v).tmps.getD s undef = a.tmps.getD s undef := fun s hs => by
      cases hdst : o.dst with
      | none => rfl
      | some d =>
        have hsd : d ≠ s := fun e => hs (by rw [hdst, e])
        simp [Act.put, Array.getD_eq_getD_getElem?, Array.getElem?_setIfInBounds_ne hsd]
    have hps : (a.put o.dst v).tmps.size = a.tmps.size := by cases hdst : o.dst <;> simp [Act.put]
    have hpd : (a.put o.dst v).defers = a.defers := by cases hdst : o.dst <;> simp [Act.put]
    refine ih (b.setIfInBounds i true) (a.put o.dst v) w' own' (by simpa using hb) ?_ ⟨hpd.trans hs.defers, hps.trans hs.size, fun s hsd => ?_⟩ (hbw.step hr') ?_ ?_ ?_ ?_ ?_
    · have := cnt_lt (List.range ops.size) i (List.mem_range.2 hlt) (fun j => !b.getD j true) (fun j => !(b.setIfInBounds i true).getD j true) (fun x hx => by
        by_cases hxi : x = i
        · subst hxi; simp [h1]
        · rwa [getD_set_ne true (Ne.symm hxi)] at hx) (by simp only [h1]; rfl) (by simp [hb ▸ hlt])
      omega
    · rw [hslot s (hsd i o ho)]
      exact hs.slot s hsd
    · intro j i' hj hbi k ho
      by_cases hii : i' = i
      · subst hii
        rw [show (b.setIfInBounds i' true).getD i' false = true by simp [hb ▸ hlt]] at hbi
        cases hbi
      · rcases Nat.lt_or_ge k w.heap.size with hk | hk
        · exact hfr j i' hj (by rwa [getD_set_ne false (Ne.symm hii)] at hbi) k ((hr'.owns k hk).symm.trans ho)
        · exact hii (Option.some.inj (hj.symm.trans (hr'.fresh k j hk ho)))
    · intro j oj hoj hbj e he hbe
      by_cases hji : j = i
      · subst hji
        rw [ho] at hoj
        cases hoj
        have h5 := hall e he hbe
        have h6 : e.on ≠ j := fun h => by
          have := (invB2_at hB ho).2 e he hbe
          omega
        rw [getD_set_ne true (Ne.symm h6)]
        rcases Nat.lt_or_ge e.on b.size with h | h
        · rw [getD_of_lt h true false]; exact h5
        · simp [h]
      · rw [getD_set_ne false (Ne.symm hji)] at hbj
        have h5 := hcl j oj hoj hbj e he hbe
        by_cases h6 : e.on = i
        · rw [h6]; simp [hb ▸ hlt]
        · rw [getD_set_ne true (Ne.symm h6)]; exact h5
    · intro s hs'
      have h5 : o.dst ≠ some s := fun h => by
        have := hs' i o ho h
        rw [show (b.setIfInBounds i true).getD i false = true by simp [hb ▸ hlt]] at this
        cases this
      rw [hslot s h5]
      refine hla s fun j oj hoj hdj => ?_
      have h6 := hs' j oj hoj hdj
      have h7 : j ≠ i := fun h => by
        subst h
        rw [ho] at hoj
        cases hoj
        exact h5 hdj
      rwa [getD_set_ne false (Ne.symm h7)] at h6
    · intro j hbj k hk hok
      by_cases hji : j = i
      · subst hji
        rw [show (b.setIfInBounds j true).getD j false = true by simp [hb ▸ hlt]] at hbj
        cases hbj
      · rw [getD_set_ne false (Ne.symm hji)] at hbj
        rw [hr'.keep k (Nat.lt_of_lt_of_le hk hbw.size) (by rw [hbw.owns k hk, hok]; intro e; exact hji (Option.some.inj e))]
        exact hke j hbj k hk hok
    · intro j oj hoj hbj
      by_cases hji : j = i
      · subst hji
        rw [ho] at hoj
        cases hoj
        have : slotOf o (a.put o.dst v) = laid o v := by
          unfold slotOf laid
          cases hdst : o.dst with
          | none => rfl
          | some d =>
            have hdn := (hD d hdst).1
            simp [Act.put, hs.size, hn, hdn]
        rw [this]
        exact hv
      · have hsl : slotOf oj (a.put o.dst v) = slotOf oj a := by
          unfold slotOf
          cases hdj : oj.dst with
          | none => rfl
          | some dj =>
            refine hslot dj (fun e => ?_)
            rcases Nat.lt_or_ge j i with h | h
            · exact (hD dj e).2 j oj h hoj hdj
            · exact ((invB2_at hB hoj).1 dj hdj).2 i o (by omega) ho e
        rw [hsl]
        have hbj' : b.getD j false = true := by rwa [getD_set_ne false (Ne.symm hji)] at hbj
        refine hV i j _ _ _ _ _ (Ne.symm hji) ?_ (hd j oj hoj hbj') hr'
        unfold depB
        rw [hoj, Bool.eq_false_iff]
        intro hx
        obtain ⟨q, hq, h3⟩ := Array.any_eq_true.1 hx
        simp only [Bool.and_eq_true, beq_iff_eq] at h3
        have := hcl j oj hoj hbj' _ (Array.getElem_mem hq) h3.2
        rw [h3.1, h1] at this
        cases this

/-- THE LAW -/
theorem wp_region_ownL {id n : Nat} {a0 : Act} {w0 : World} (mk own0 : Nat → Option Nat) (V : Nat → Value → (Nat → Option Nat) → World → Prop) (hm : P.follows .mixedOrders = true) (hB : invB2 ops n = true) (hn : a0.tmps.size = n) (htop : ∀ k, w0.heap.size ≤ k → own0 k = none) (hmk : ∀ j i, mk j = some i → ∀ k, own0 k ≠ some j)
    (hV : ∀ i j v own w own' w', i ≠ j → depB ops j i = false → V j v own w → Rel mk i own w own' w' → V j v own' w')
    (step : ∀ (i : Nat) o, ops[i]? = some o → ∀ (a : Act) (w : World) (own : Nat → Option Nat), Same ops a0 a → Since own0 w0 own w → (∀ j, mk j = some i → ∀ k, own k ≠ some j) →
      (∀ s : Nat, (∀ (j : Nat) oj, ops[j]? = some oj → oj.dst = some s → (oj.after.any fun e => e.on == i && Region.binds .any e) = true) → a.tmps.getD s undef = a0.tmps.getD s undef) →
      (∀ j, j = i ∨ depB ops j i = true → ∀ k, k < w0.heap.size → own0 k = some j → w.heap[k]? = w0.heap[k]?) →
      (∀ e ∈ o.after, Region.binds .any e = true → ∀ oj, ops[e.on]? = some oj → V e.on (slotOf oj a) own w) →
      (Region.wanted o (yielded ops a.tmps) = true ∧ ∀ K : Act → World → Prop, (∀ v w' own', V i (laid o v) own' w' → Rel mk i own w own' w' → K (a.put o.dst v) w') → o.wp P a w K Q) ∨ (Region.wanted o (yielded ops a.tmps) = false ∧ V i undef own w))
    (fin : ∀ (a : Act) (w : World) own, Same ops a0 a → Since own0 w0 own w → (∀ (i : Nat) o, ops[i]? = some o → V i (slotOf o a) own w) → Q .normal a w) :
    (Code.region id ops true).wp P Q a0 w0 := by
  refine wp_region_any hm (wpAny_ownL hB hn hV step fin ops.size _ a0 _ own0 (by simp) ?_ ⟨rfl, rfl, fun _ _ => rfl⟩ ⟨rfl, rfl, rfl, Nat.le_refl _, fun _ _ => rfl, fun _ _ _ => rfl, htop⟩ (fun j i hj _ => hmk j i hj) (fun j oj hoj hbj => ?_) (fun _ _ => rfl) (fun _ _ _ _ _ => rfl) ?_)
  · exact Nat.le_trans (List.countP_le_length) (by simp)
  · have hlt : j < ops.size := (Array.getElem?_eq_some_iff.1 hoj).1
    simp [hlt] at hbj
  · intro i o ho hb
    have hlt : i < ops.size := (Array.getElem?_eq_some_iff.1 ho).1
    simp [hlt] at hb
end
section
variable {mk own0 own : Nat → Option Nat} {w0 w : World} {P : Program} {Q : Exit → Act → World → Prop} {V : Nat → Value → (Nat → Option Nat) → World → Prop} {i : Nat} {o : Oper} {a : Act}
def ShowsO (mk : Nat → Option Nat) (P : Program) (Q : Exit → Act → World → Prop) (V : Nat → Value → (Nat → Option Nat) → World → Prop) (i : Nat) (o : Oper) (a : Act) (own : Nat → Option Nat) (w : World) : Prop :=
  ∀ K : Act → World → Prop, (∀ v w' own', V i (laid o v) own' w' → Rel mk i own w own' w' → K (a.put o.dst v) w') → o.wp P a w K Q
theorem showsO_run {w' : World} {d : Nat} (hd : o.dst = some d) (v : Value) (hr : (execOp a.eval o).run P w = .ok (.value v) w') (own' : Nat → Option Nat) (hb : Rel mk i own w own' w') (hv : V i v own' w') : ShowsO mk P Q V i o a own w := by
  intro K hK
  unfold Oper.wp
  rw [hr, Oper.upon_value]
  exact hK v w' own' (by unfold laid; rw [hd]; exact hv) hb
theorem showsO_pure (hs : Since own0 w0 own w) {d : Nat} (hd : o.dst = some d) (v : Value) (hr : (execOp a.eval o).run P w = .ok (.value v) w) (hv : V i v own w) : ShowsO mk P Q V i o a own w := showsO_run hd v hr own (Rel.same mk i hs) hv
theorem showsO_move (hs : Since own0 w0 own w) {d : Nat} (hd : o.dst = some d) (x : Operand) (ho : o.op = .move x) (hv : V i (a.eval x) own w) : ShowsO mk P Q V i o a own w :=
  showsO_pure hs hd (a.eval x) (by simp [execOp, ho]) hv
theorem showsO_assign (hs : Since own0 w0 own w) {d : Nat} (hd : o.dst = some d) (x : Operand) (ho : o.op = .assign x) (hv : V i (a.eval x) own w) : ShowsO mk P Q V i o a own w :=
  showsO_pure hs hd (a.eval x) (by simp [execOp, ho]) hv
theorem showsO_row (hs : Since own0 w0 own w) {d' : Nat} (hdst : o.dst = some d') (ty : TypeId) (x : Operand) (ho : o.op = .load ty x)
    (g : Nat) (hx : a.eval x = .pointer (some ⟨g, 0, none⟩)) (cs : Array Value) {t : TypeId} {fr : Nat × Nat} {d : TypeDesc} (hg : w.heap[g]? = some (.cells cs t fr))
    (hu : P.underlying ty = some d) (hd : (match d with | .struct _ | .array _ _ => true | _ => false) = true) (hi : (P.info? ty).map (·.size) = some cs.size) (hv : V i (.agg cs) own w) : ShowsO mk P Q V i o a own w := by
  intro K hK
  exact wp_load_row ty x ho g hx t cs fr d hg hu hd hi (hK _ _ own (by unfold laid; rw [hdst]; exact hv) (Rel.same mk i hs))
theorem showsO_mid (hs : Since own0 w0 own w) {d' : Nat} (hdst : o.dst = some d') (ty : TypeId) (x : Operand) (ho : o.op = .load ty x)
    (g q : Nat) (hx : a.eval x = .pointer (some ⟨g, q, none⟩)) (cs : List Value) {d : TypeDesc} (hg : w.rangeAt g q cs)
    (hu : P.underlying ty = some d) (hd : d.isRow = true) (hi : (P.info? ty).map (·.size) = some cs.length) (hv : V i (.agg cs.toArray) own w) : ShowsO mk P Q V i o a own w := by
  intro K hK
  exact wp_load_mid ty x ho g q hx cs d hg hu hd hi (hK _ _ own (by unfold laid; rw [hdst]; exact hv) (Rel.same mk i hs))
theorem showsO_call (hs : Since own0 w0 own w) {d : Nat} (hdst : o.dst = some d) (f : FuncId) (vs : Array Value)
    (hr : (execOp a.eval o).run P w = .ok (.enter f vs) w) {R : Value → World → Prop} (hc : Calls P f vs w fun e w' => ∃ v, e = .returned v ∧ R v w' ∧ Below w.heap.size w w') (hv : ∀ v w', R v w' → Below w.heap.size w w' → V i v own w') : ShowsO mk P Q V i o a own w := by
  intro K hK
  unfold Oper.wp
  rw [hr, Oper.upon_enter]
  refine hc.mono ?_
  rintro e w' ⟨v, rfl, h1, hb⟩
  exact hK v w' own (by unfold laid; rw [hdst]; exact hv v w' h1 hb) (Rel.below mk i hs hb)
theorem showsO_call1 (hs : Since own0 w0 own w) {d : Nat} (hdst : o.dst = some d) (f : FuncId) (vs : Array Value)
    (hr : (execOp a.eval o).run P w = .ok (.enter f vs) w) {v : Value} (hc : Calls P f vs w fun e w' => e = .returned v ∧ Below w.heap.size w w') (hv : ∀ w', V i v own w') : ShowsO mk P Q V i o a own w :=
  showsO_call (R := fun u _ => u = v) hs hdst f vs hr (hc.mono fun e w' ⟨h1, h2⟩ => ⟨v, h1, rfl, h2⟩) (fun u w' h _ => by subst h; exact hv w')
theorem showsO_build (hs : Since own0 w0 own w) {d : Nat} (hd : o.dst = some d) (t : TypeId) (parts : Array (Nat × Operand)) (ho : o.op = .build t parts) (cs : Array Value)
    (hf : P.built t (parts.map fun (i, x) => (i, a.eval x)).toList = some cs) (hv : V i (.agg cs) own w) : ShowsO mk P Q V i o a own w := by
  intro K hK
  refine wp_build t parts ho (by rw [hf]; rfl) ?_
  rw [hf]
  exact hK _ _ own (by unfold laid; rw [hd]; exact hv) (Rel.same mk i hs)
end
def ownNew (own : Nat → Option Nat) (n j : Nat) : Nat → Option Nat := fun k => if k = n then some j else own k
theorem ownNew_at (own : Nat → Option Nat) (n j : Nat) : ownNew own n j n = some j := by simp [ownNew]
theorem Rel.alloc {mk : Nat → Option Nat} {i : Nat} {own0 own : Nat → Option Nat} {w0 w : World} (hs : Since own0 w0 own w) (o : Obj) (j : Nat) (hj : mk j = some i) : Rel mk i own w (ownNew own w.heap.size j) (w.alloc o) :=
  ⟨rfl, rfl, rfl, by simp, fun k hk => by simp [ownNew, Nat.ne_of_lt hk], fun k hk _ => Below.heap_alloc _ _ _ hk, fun k c t fr _ _ _ hc => ⟨c, (Below.heap_alloc _ _ _ (Array.getElem?_eq_some_iff.1 hc).1).trans hc, rfl⟩,
    fun k j' hk ho => (by
      unfold ownNew at ho
      split at ho
      · cases ho; exact hj
      · rw [hs.top k hk] at ho; cases ho),
    fun k hk => by
      have hk' : w.heap.size + 1 ≤ k := by simpa using hk
      unfold ownNew
      rw [if_neg (by omega)]
      exact hs.top k (by omega)⟩
theorem Rel.row (mk : Nat → Option Nat) {i : Nat} {own0 own : Nat → Option Nat} {w0 w : World} (hs0 : Since own0 w0 own w) {g : Nat} {cs cs' : Array Value} {T : TypeId} (hg : w.heap[g]? = some (.cells cs T (0, 0))) (ho : own g = some i) (hs : cs'.size = cs.size) : Rel mk i own w own (w.setRow g cs') := by
  refine ⟨rfl, rfl, rfl, by simp, fun _ _ => rfl, fun k _ hn => setRow_other _ _ _ _ (fun e => hn (e ▸ ho)), fun k c t fr _ _ _ hc => ?_, fun k j hk ho => (by rw [hs0.top k hk] at ho; cases ho), fun k hk => hs0.top k (by simpa using hk)⟩
  by_cases hk : k = g
  · subst hk
    rw [hg] at hc
    cases hc
    exact ⟨cs', setRow_heap _ _ _ _ _ _ hg, hs⟩
  · exact ⟨c, (setRow_other _ _ _ _ hk).trans hc, rfl⟩
section
variable {mk own0 own : Nat → Option Nat} {w0 w : World} {P : Program} {Q : Exit → Act → World → Prop} {V : Nat → Value → (Nat → Option Nat) → World → Prop} {i : Nat} {o : Oper} {a : Act}
theorem showsO_store_row (hs0 : Since own0 w0 own w) (hd : o.dst = none) (ty : TypeId) (x y : Operand) (ho : o.op = .store ty x y) (g : Nat) (cs' : Array Value) (hx : a.eval x = .pointer (some ⟨g, 0, none⟩)) (hy : a.eval y = .agg cs')
    {T : TypeId} {cs : Array Value} (hg : w.heap[g]? = some (.cells cs T (0, 0))) (hi : (P.info? ty).map (·.size) = some cs'.size) (hs : cs.size = cs'.size) (h1 : cs'.all (·.oneCell') = true) (hown : own g = some i)
    (hv : V i undef own (w.setRow g cs')) : ShowsO mk P Q V i o a own w := by
  intro K hK
  refine wp_store_row ty x y ho g cs' hx hy T cs hg hi hs h1 ?_
  exact hK _ _ own (by unfold laid; rw [hd]; exact hv) (Rel.row mk hs0 hg hown hs.symm)
end
section
variable {mk own own' : Nat → Option Nat} {w w' : World} {i : Nat}
def AllocV (own : Nat → Option Nat) (w : World) (v : Value) (j : Nat) (T : TypeId) (n : Nat) : Prop :=
  ∃ g, v = .pointer (some ⟨g, 0, none⟩) ∧ own g = some j ∧ (∀ k, own k = some j → k = g) ∧ ∃ cs : Array Value, w.heap[g]? = some (.cells cs T (0, 0)) ∧ cs.size = n
theorem AllocV.stable {v : Value} {j j0 : Nat} {T : TypeId} {n : Nat} (h : AllocV own w v j T n) (r : Rel mk i own w own' w') (hmk : mk j = some j0) (hi : i ≠ j0) : AllocV own' w' v j T n := by
  obtain ⟨g, rfl, h1, h2, cs, h3, h4⟩ := h
  have hg := (Array.getElem?_eq_some_iff.1 h3).1
  obtain ⟨cs', k1, k2⟩ := r.kind _ _ _ _ _ h1 (by rw [hmk]; rfl) h3
  refine ⟨g, rfl, (r.owns g hg).trans h1, fun k hk => ?_, cs', k1, k2.trans h4⟩
  rcases Nat.lt_or_ge k w.heap.size with hlt | hge
  · exact h2 k ((r.owns k hlt).symm.trans hk)
  · exact absurd (Option.some.inj (hmk.symm.trans (r.fresh k j hge hk))).symm hi
def StoredV (own : Nat → Option Nat) (w : World) (j : Nat) (T : TypeId) (X : Array Value) : Prop := ∃ g, own g = some j ∧ w.heap[g]? = some (.cells X T (0, 0))
theorem StoredV.stable {j : Nat} {T : TypeId} {X : Array Value} (h : StoredV own w j T X) (r : Rel mk i own w own' w') (hi : i ≠ j) : StoredV own' w' j T X := by
  obtain ⟨g, h1, h3⟩ := h
  have hg := (Array.getElem?_eq_some_iff.1 h3).1
  exact ⟨g, (r.owns g hg).trans h1, (r.keep g hg (by rw [h1]; intro e; exact hi (Option.some.inj e).symm)).trans h3⟩
theorem AllocV.stored {v : Value} {j : Nat} {T T' : TypeId} {n : Nat} {X : Array Value} (h : AllocV own w v j T n) (h' : StoredV own w j T' X) : ∃ g, v = .pointer (some ⟨g, 0, none⟩) ∧ own g = some j ∧ w.heap[g]? = some (.cells X T' (0, 0)) := by
  obtain ⟨g, rfl, _, h2, _⟩ := h
  obtain ⟨g', k1, k2⟩ := h'
  obtain rfl := h2 g' k1
  exact ⟨_, rfl, k1, k2⟩
def OutV (own : Nat → Option Nat) (w : World) (g j : Nat) (T : TypeId) (X : Array Value) : Prop := own g = some j ∧ w.heap[g]? = some (.cells X T (0, 0))
theorem OutV.stable {g j : Nat} {T : TypeId} {X : Array Value} (h : OutV own w g j T X) (r : Rel mk i own w own' w') (hi : i ≠ j) : OutV own' w' g j T X := by
  obtain ⟨h1, h3⟩ := h
  have hg := (Array.getElem?_eq_some_iff.1 h3).1
  exact ⟨(r.owns g hg).trans h1, (r.keep g hg (by rw [h1]; intro e; exact hi (Option.some.inj e).symm)).trans h3⟩
def FreeV (own : Nat → Option Nat) (w : World) (v : Value) (T : TypeId) (X : Array Value) : Prop := ∃ g, v = .pointer (some ⟨g, 0, none⟩) ∧ own g = none ∧ w.heap[g]? = some (.cells X T (0, 0))
theorem FreeV.stable {v : Value} {T : TypeId} {X : Array Value} (h : FreeV own w v T X) (r : Rel mk i own w own' w') : FreeV own' w' v T X := by
  obtain ⟨g, rfl, h1, h3⟩ := h
  have hg := (Array.getElem?_eq_some_iff.1 h3).1
  exact ⟨g, rfl, (r.owns g hg).trans h1, (r.keep g hg (by rw [h1]; simp)).trans h3⟩
end
theorem showsO_alloc {mk own0 own : Nat → Option Nat} {w0 w : World} {P : Program} {Q : Exit → Act → World → Prop} {V : Nat → Value → (Nat → Option Nat) → World → Prop} {i : Nat} {o : Oper} {a : Act} (hs : Since own0 w0 own w) (hfr : ∀ j, mk j = some i → ∀ k, own k ≠ some j) {d : Nat} (hd : o.dst = some d)
    (cs : Array Value) (T : TypeId) (j : Nat) (hj : mk j = some i) (hr : (execOp a.eval o).run P w = .ok (.value (.pointer (some ⟨w.heap.size, 0, none⟩))) (w.alloc (.cells cs T)))
    (hv : AllocV (ownNew own w.heap.size j) (w.alloc (.cells cs T)) (.pointer (some ⟨w.heap.size, 0, none⟩)) j T cs.size → V i (.pointer (some ⟨w.heap.size, 0, none⟩)) (ownNew own w.heap.size j) (w.alloc (.cells cs T))) : ShowsO mk P Q V i o a own w := by
  refine showsO_run hd _ hr (ownNew own w.heap.size j) (Rel.alloc hs _ j hj) (hv ⟨_, rfl, ownNew_at _ _ _, fun k hk => ?_, cs, heap_alloc_new _ _, rfl⟩)
  unfold ownNew at hk
  split at hk
  · assumption
  · exact absurd hk (hfr j hj k)
theorem showsO_store_alloc {mk own0 own : Nat → Option Nat} {w0 w : World} {P : Program} {Q : Exit → Act → World → Prop} {V : Nat → Value → (Nat → Option Nat) → World → Prop} {i : Nat} {o : Oper} {a : Act} (hs0 : Since own0 w0 own w) (hd : o.dst = none) (ty : TypeId) (x y : Operand) (ho : o.op = .store ty x y)
    {T : TypeId} {n : Nat} (hx : AllocV own w (a.eval x) i T n) (cs' : Array Value) (hy : a.eval y = .agg cs') (hi : (P.info? ty).map (·.size) = some cs'.size) (hs : n = cs'.size) (h1 : cs'.all (·.oneCell') = true)
    (hv : ∀ w', StoredV own w' i T cs' → V i undef own w') : ShowsO mk P Q V i o a own w := by
  obtain ⟨g, e, h2, _, cs, h3, h4⟩ := hx
  exact showsO_store_row hs0 hd ty x y ho g cs' e hy h3 hi (h4.trans hs) h1 h2 (hv _ ⟨g, h2, setRow_heap _ _ _ _ _ _ h3⟩)
theorem showsO_store_out {mk own0 own : Nat → Option Nat} {w0 w : World} {P : Program} {Q : Exit → Act → World → Prop} {V : Nat → Value → (Nat → Option Nat) → World → Prop} {i : Nat} {o : Oper} {a : Act} (hs0 : Since own0 w0 own w) (hd : o.dst = none) (ty : TypeId) (x y : Operand) (ho : o.op = .store ty x y)
    (g : Nat) (hke : w.heap[g]? = w0.heap[g]?) (hx : a.eval x = .pointer (some ⟨g, 0, none⟩)) {T : TypeId} {cs : Array Value} (hg : w0.heap[g]? = some (.cells cs T (0, 0))) (how : own0 g = some i) (cs' : Array Value) (hy : a.eval y = .agg cs') (hi : (P.info? ty).map (·.size) = some cs'.size) (hs : cs.size = cs'.size) (h1 : cs'.all (·.oneCell') = true)
    (hv : ∀ w', OutV own w' g i T cs' → V i undef own w') : ShowsO mk P Q V i o a own w := by
  have k1 := hke.trans hg
  have h2 : own g = some i := (hs0.owns g (Array.getElem?_eq_some_iff.1 hg).1).trans how
  exact showsO_store_row hs0 hd ty x y ho g cs' hx hy k1 hi hs h1 h2 (hv _ ⟨h2, setRow_heap _ _ _ _ _ _ k1⟩)
end Go.Proofs.YtgbafjmklefoiaaGreatDoor.K2
end
section
namespace Go.Proofs.YtgbafjmklefoiaaGreatDoor
set_option maxRecDepth 100000
open Go.RowKit
theorem there_kept {w w' : World} {B o n : Nat} (h : w.there B o n) (k : w'.heap[B]? = w.heap[B]?) : w'.there B o n := fun j hj => by
  have := h j hj
  simp only [World.cell?, World.frozen?, k] at this ⊢
  exact this
theorem there_part {w : World} {B n o m : Nat} (h : w.there B 0 n) (hm : o + m ≤ n) : w.there B o m := fun j hj => by
  have := h (o + j) (by omega)
  rw [Nat.zero_add] at this
  exact this
def m77 : List UInt8 := [77, 0, 0, 0, 0, 0, 0, 0, 0, 0, 0, 0, 0, 0, 0, 0, 0, 0, 0, 0, 0, 0, 0, 0, 0, 0, 0, 0, 0, 0, 0, 0]
theorem built_77 : Tryz.prog.built 81 [(0, .int .u8 77)] = some (ocells m77) := by kernel_rfl
theorem cell_setCell_ne (w : World) (g a b : Nat) (v : Value) (h : a ≠ b) : (w.setCell ⟨g, a, none⟩ v).cell? ⟨g, b, none⟩ = w.cell? ⟨g, b, none⟩ := by
  unfold World.setCell World.cell?
  simp only [Array.getElem?_modify, if_true]
  cases hg : w.heap[g]? with
  | none => rfl
  | some o => cases o <;> simp [h]
theorem frozen_setCell_ne (w : World) (g a b : Nat) (v : Value) : (w.setCell ⟨g, a, none⟩ v).frozen? ⟨g, b, none⟩ = w.frozen? ⟨g, b, none⟩ := by
  unfold World.setCell World.frozen?
  simp only [Array.getElem?_modify, if_true]
  cases hg : w.heap[g]? with
  | none => rfl
  | some o => cases o <;> rfl
theorem same_kd9 (A : Nat → Addr) (q : Nat) (hq : q < 16) {ev : Value} {fc fa : Int} (h : (ev = .nilIface ∧ fc = 0 ∧ fa = 0) ∨ (ev = .iface 282 (.pointer (some (A q))) ∧ fc = (q : Int) + 1 ∧ fa = -1)) (u : World) (hE : Errs u A) :
    Calls Tryz.prog 15 #[ev, .agg #[.int .i64 fc, .int .i64 fa]] u fun e w' => e = .returned (.bool true) ∧ Below u.heap.size u w' := by
  rcases h with ⟨rfl, rfl, rfl⟩ | ⟨rfl, rfl, rfl⟩
  · exact same_err hE ErrV.no 0 0
  · exact (same_err hE (ErrV.plain q hq) ((q : Int) + 1) (-1)).mono fun e w' h => ⟨by rw [h.1]; simp, h.2⟩
theorem CD.put_self (D : CD) {i : Nat} (hi : i < 4) (B' E' : Nat) (l' : List (Nat × Nat × List UInt8)) (s' t' : Value) : (D.put i (D.r i) (D.d i) B' E' l' s' t').cells = D.cells := by
  rcases (show i = 0 ∨ i = 1 ∨ i = 2 ∨ i = 3 by omega) with rfl | rfl | rfl | rfl <;> rfl
theorem CD.getR (D : CD) {k : Nat} (hk : k < 4) : D.cells[k]? = some (.pointer (some ⟨D.r k, 0, none⟩)) := by
  rcases (show k = 0 ∨ k = 1 ∨ k = 2 ∨ k = 3 by omega) with rfl | rfl | rfl | rfl <;> rfl
theorem CD.getM (D : CD) {k : Nat} (hk : k < 4) : D.cells[4 + k]? = some (.pointer (some ⟨D.d k, 0, none⟩)) := by
  rcases (show k = 0 ∨ k = 1 ∨ k = 2 ∨ k = 3 by omega) with rfl | rfl | rfl | rfl <;> rfl
theorem CD.cells_put (D : CD) {i : Nat} (hi : i < 4) (r' d' B' E' : Nat) (l' : List (Nat × Nat × List UInt8)) (s' t' : Value) : (D.cells.setIfInBounds i (.pointer (some ⟨r', 0, none⟩))).setIfInBounds (4 + i) (.pointer (some ⟨d', 0, none⟩)) = (D.put i r' d' B' E' l' s' t').cells := by
  rcases (show i = 0 ∨ i = 1 ∨ i = 2 ∨ i = 3 by omega) with rfl | rfl | rfl | rfl <;> rfl
theorem setCell_cellsC {w : World} {g k : Nat} {v : Value} {cs : Array Value} {T : TypeId} {fr : Nat × Nat} (h : w.heap[g]? = some (.cells cs T fr)) : (w.setCell ⟨g, k, none⟩ v).heap[g]? = some (.cells (cs.setIfInBounds k v) T fr) := by
  simp [World.setCell, Array.getElem?_modify, h]
/-- two new ranges take a place -/
theorem CW.store {base : Nat} {w wr : World} {wb : Nat} {D : CD} (h : CW base w wb D) (kw : Below w.heap.size w wr) {i : Nat} (hi : i < 4) {b r B E : Nat} {l : List (Nat × Nat × List UInt8)} {s t : Value}
    (hR : RaP base wr b B E l s) (hM : RmP base wr r B E l t) (hS : StC B E l) (hE : E < 2 ^ 64) (f1 : ∀ j, RaS b s j → w.heap.size ≤ j) (f2 : ∀ j, RmS r t j → w.heap.size ≤ j) (f3 : ∀ j, RaS b s j → ¬ RmS r t j) :
    ∃ D', CW base ((wr.setCell ⟨wb, i, none⟩ (.pointer (some ⟨b, 0, none⟩))).setCell ⟨wb, 4 + i, none⟩ (.pointer (some ⟨r, 0, none⟩))) wb D' ∧ Keep (D.F wb) w ((wr.setCell ⟨wb, i, none⟩ (.pointer (some ⟨b, 0, none⟩))).setCell ⟨wb, 4 + i, none⟩ (.pointer (some ⟨r, 0, none⟩))) ∧ (∀ k, D'.F wb k → D.F wb k ∨ w.heap.size ≤ k) ∧
      ((wr.setCell ⟨wb, i, none⟩ (.pointer (some ⟨b, 0, none⟩))).setCell ⟨wb, 4 + i, none⟩ (.pointer (some ⟨r, 0, none⟩))).cell? ⟨wb, i, none⟩ = some (.pointer (some ⟨b, 0, none⟩)) := by
  have hw := h.below kw
  have kk : Keep (fun j => j = wb) wr ((wr.setCell ⟨wb, i, none⟩ (.pointer (some ⟨b, 0, none⟩))).setCell ⟨wb, 4 + i, none⟩ (.pointer (some ⟨r, 0, none⟩))) := (Keep.setCell wr ⟨wb, i, none⟩ _).trans (Keep.setCell _ ⟨wb, 4 + i, none⟩ _) (fun _ _ h => h)
  have hwl := h.wblt
  have hb : ((wr.setCell ⟨wb, i, none⟩ (.pointer (some ⟨b, 0, none⟩))).setCell ⟨wb, 4 + i, none⟩ (.pointer (some ⟨r, 0, none⟩))).heap[wb]? = some (.cells (D.put i b r B E l s t).cells 30 (0, 0)) := by
    rw [← D.cells_put hi]; exact setCell_cellsC (setCell_cellsC hw.hb)
  have kw2 : Keep (fun j => j = wb) w ((wr.setCell ⟨wb, i, none⟩ (.pointer (some ⟨b, 0, none⟩))).setCell ⟨wb, 4 + i, none⟩ (.pointer (some ⟨r, 0, none⟩))) := (Keep.of_below kw _).trans kk (fun _ _ h => h)
  obtain ⟨c1, c2⟩ := h.put hi (kw2.mono (fun j _ e => .inl e)) hb (hR.kept kk (fun j hj e => by have := f1 j hj; have e : j = wb := e; omega)) (hM.kept kk (fun j hj e => by have := f2 j hj; have e : j = wb := e; omega)) hS hE (fun j hj => .inr (f1 j hj)) (fun j hj => .inr (f2 j hj)) f3
  refine ⟨_, c1, kw2.mono (fun j _ e => .inl e), c2, ?_⟩
  have := c1.cR hi
  rw [show (D.put i b r B E l s t).r i = b from updC_at _ _ _] at this
  exact this
theorem join_both9 (A : Nat → Addr) (base : Nat) (w : World) (wb : Nat) (D : CD) (h : CW base w wb D) {i k : Nat} (hi : i < 4) (hk : k < 4) :
    ∃ (E' : Nat) (l' : List (Nat × Nat × List UInt8)) (ev : Value) (fc fa : Int), StC (D.B i) E' l' ∧ E' < 2 ^ 64 ∧ ((ev = .nilIface ∧ fc = 0 ∧ fa = 0) ∨ (ev = .iface 282 (.pointer (some (A 1))) ∧ fc = 2 ∧ fa = -1)) ∧
      (∀ u, RaP base u (D.r i) (D.B i) (D.E i) (D.l i) (D.sv i) → RaP base u (D.r k) (D.B k) (D.E k) (D.l k) (D.sv k) → base ≤ u.heap.size → Errs u A → (∀ u', Below base u u' → TabS u') → Calls Tryz.prog 20 #[.pointer (some ⟨D.r i, 0, none⟩), .pointer (some ⟨D.r k, 0, none⟩)] u (AppG base u (D.r i) (D.B i) E' l' (D.sv i) ev)) ∧
      (∀ u, RmP base u (D.d i) (D.B i) (D.E i) (D.l i) (D.dv i) → RmP base u (D.d k) (D.B k) (D.E k) (D.l k) (D.dv k) → base ≤ u.heap.size → Calls Tryz.prog 21 #[.pointer (some ⟨D.d i, 0, none⟩), .pointer (some ⟨D.d k, 0, none⟩)] u (RAppG base u (D.d i) (D.B i) E' l' (D.dv i) fc fa)) := by
  by_cases e : i = k
  · subst e
    obtain ⟨E', l', ev, fc, fa, h1, h2, h3, h4, h5⟩ := join_self9 A base (D.r i) (D.d i) (D.B i) (D.E i) (D.l i) (D.sv i) (D.dv i) (h.st i hi) (h.e64 i hi)
    exact ⟨E', l', ev, fc, fa, h1, h2, h3, fun u hu _ hb hE _ => h4 u hu hb hE, fun u hu _ hb => h5 u hu hb⟩
  · obtain ⟨E', l', ev, fc, fa, h1, h2, h3, h4, h5⟩ := join_sep9 A base (D.r i) (D.d i) (D.r k) (D.d k) (D.B i) (D.E i) (D.B k) (D.E k) (D.l i) (D.l k) (D.sv i) (D.dv i) (D.sv k) (D.dv k) (h.st i hi) (h.st k hk) (h.e64 i hi) (h.e64 k hk)
    exact ⟨E', l', ev, fc, fa, h1, h2, h3, fun u hu hq hb hE hT => h4 u hu hq (h.rr i k hi hk e) hb hE hT, fun u hu hq hb => h5 u hu hq (h.mm k i hk hi (fun e' => e e'.symm)) hb⟩
/-- who writes what -/
def own9 (D : CD) (i a b : Nat) : Nat → Option Nat := fun j => if j = D.r i ∨ (D.sv i).ownBlock = some j then some a else if j = D.d i ∨ (D.dv i).ownBlock = some j then some b else none
theorem own9_R {D : CD} {i a b j : Nat} (h : D.R i j) : own9 D i a b j = some a := if_pos h
theorem own9_M {D : CD} {i a b j : Nat} (h : D.M i j) (hn : ¬ D.R i j) : own9 D i a b j = some b := (if_neg hn).trans (if_pos h)
theorem own9_no {D : CD} {i a b j : Nat} (h : ¬ D.R i j) (hn : ¬ D.M i j) : own9 D i a b j = none := (if_neg h).trans (if_neg hn)
theorem own9_some {D : CD} {i a b j x : Nat} (h : own9 D i a b j = some x) : (x = a ∧ D.R i j) ∨ (x = b ∧ D.M i j) := by
  unfold own9 at h
  split at h
  · rename_i hc; exact .inl ⟨(Option.some.inj h).symm, hc⟩
  · split at h
    · rename_i hc; exact .inr ⟨(Option.some.inj h).symm, hc⟩
    · cases h
theorem CW.own9_out {base : Nat} {w : World} {wb : Nat} {D : CD} (h : CW base w wb D) {i : Nat} (hi : i < 4) {a b j : Nat} (hj : ¬ D.F wb j ∨ j = wb) : own9 D i a b j = none := by
  rcases hj with hj | rfl
  · exact own9_no (fun e => hj (.inr ⟨i, hi, .inl e⟩)) (fun e => hj (.inr ⟨i, hi, .inr e⟩))
  · exact own9_no (h.rw i hi).1 (h.rw i hi).2
theorem CW.keepR9 {base : Nat} {w u : World} {wb : Nat} {D : CD} (h : CW base w wb D) {i : Nat} (hi : i < 4) {a b : Nat} {own : Nat → Option Nat} (hsn : K2.Since (own9 D i a b) w own u) (hk : ∀ k, k < w.heap.size → own9 D i a b k = some a → u.heap[k]? = w.heap[k]?) : Keep (fun j => ¬ ∃ x, x < 4 ∧ D.R x j) w u :=
  ⟨hsn.os, hsn.tape, hsn.output, hsn.size, fun j hj hn => by
    obtain ⟨x, hx, hR⟩ := Classical.not_not.1 hn
    by_cases e : x = i
    · subst e; exact hk j hj (own9_R hR)
    · exact hsn.keep j hj (own9_no (h.rr x i hx hi e j hR) (h.rmx x i hx hi j hR))⟩
theorem CW.keepM9 {base : Nat} {w u : World} {wb : Nat} {D : CD} (h : CW base w wb D) {i : Nat} (hi : i < 4) {a b : Nat} {own : Nat → Option Nat} (hsn : K2.Since (own9 D i a b) w own u) (hk : ∀ k, k < w.heap.size → own9 D i a b k = some b → u.heap[k]? = w.heap[k]?) : Keep (fun j => ¬ ∃ x, x < 4 ∧ D.M x j) w u :=
  ⟨hsn.os, hsn.tape, hsn.output, hsn.size, fun j hj hn => by
    obtain ⟨x, hx, hM⟩ := Classical.not_not.1 hn
    by_cases e : x = i
    · subst e; exact hk j hj (own9_M hM (fun e => h.rmx x x hx hx j e hM))
    · exact hsn.keep j hj (own9_no (fun e2 => h.rmx i x hi hx j e2 hM) (h.mm x i hx hi e j hM))⟩
namespace K2
def ownN (own : Nat → Option Nat) (a b j : Nat) : Nat → Option Nat := fun k => if a ≤ k ∧ k < b then some j else own k
theorem Rel.keepN (mk : Nat → Option Nat) (i : Nat) {own0 own : Nat → Option Nat} {w0 w w' : World} (hs : Since own0 w0 own w) {S : Nat → Prop} (h : Keep S w w') (hS : ∀ k, k < w.heap.size → S k → own k = some i) (hmi : mk i = none) {j' : Nat} (hj' : mk j' = some i) : Rel mk i own w (ownN own w.heap.size w'.heap.size j') w' :=
  ⟨h.os, h.tape, h.output, h.size, fun k hk => if_neg (by omega), fun k hk hn => h.block k hk (fun e => hn (hS k hk e)), fun k c _ _ j hj hm hc => ⟨c, (h.block k (Array.getElem?_eq_some_iff.1 hc).1 (fun e => by have h1 := hS k (Array.getElem?_eq_some_iff.1 hc).1 e; rw [h1] at hj; obtain rfl := Option.some.inj hj; rw [hmi] at hm; cases hm)).trans hc, rfl⟩,
    fun k j hk ho => (by
      unfold ownN at ho
      split at ho
      · cases ho; exact hj'
      · rw [hs.top k hk] at ho; cases ho), fun k hk => (if_neg (by omega)).trans (hs.top k (Nat.le_trans h.size hk))⟩
theorem Rel.kpL {mk : Nat → Option Nat} {i : Nat} {own own' : Nat → Option Nat} {w w' : World} (r : Rel mk i own w own' w') : Keep (fun j => own j = some i) w w' := ⟨r.os, r.tape, r.output, r.size, fun k hk hn => r.keep k hk hn⟩
/-- the program's range behind a call that wrote it -/
def RaW (own : Nat → Option Nat) (w : World) (lab new base r B E : Nat) (l : List (Nat × Nat × List UInt8)) (s : Value) (Z : Nat) : Prop :=
  ∃ s', RaP base w r B E l s' ∧ ∀ j, RaS r s' j → (own j = some lab ∨ own j = some new) ∧ (RaS r s j ∨ Z ≤ j)
def RmW (own : Nat → Option Nat) (w : World) (lab new base r B E : Nat) (l : List (Nat × Nat × List UInt8)) (s : Value) (Z : Nat) : Prop :=
  ∃ s', RmP base w r B E l s' ∧ ∀ j, RmS r s' j → (own j = some lab ∨ own j = some new) ∧ (RmS r s j ∨ Z ≤ j)
theorem RaW.stable {mk own own' : Nat → Option Nat} {w w' : World} {i lab new base r B E : Nat} {l : List (Nat × Nat × List UInt8)} {s : Value} {Z : Nat} (h : RaW own w lab new base r B E l s Z) (r1 : Rel mk i own w own' w') (h1 : i ≠ lab) (h2 : i ≠ new) : RaW own' w' lab new base r B E l s Z := by
  obtain ⟨s', hR, hs⟩ := h
  refine ⟨s', hR.kept r1.kpL (fun j hj e => ?_), fun j hj => ⟨?_, (hs j hj).2⟩⟩
  · rcases (hs j hj).1 with h3 | h3
    · exact h1 (Option.some.inj (e.symm.trans h3))
    · exact h2 (Option.some.inj (e.symm.trans h3))
  · rw [r1.owns j (hR.lt j hj)]; exact (hs j hj).1
theorem RmW.stable {mk own own' : Nat → Option Nat} {w w' : World} {i lab new base r B E : Nat} {l : List (Nat × Nat × List UInt8)} {s : Value} {Z : Nat} (h : RmW own w lab new base r B E l s Z) (r1 : Rel mk i own w own' w') (h1 : i ≠ lab) (h2 : i ≠ new) : RmW own' w' lab new base r B E l s Z := by
  obtain ⟨s', hR, hs⟩ := h
  refine ⟨s', hR.kept r1.kpL (fun j hj e => ?_), fun j hj => ⟨?_, (hs j hj).2⟩⟩
  · rcases (hs j hj).1 with h3 | h3
    · exact h1 (Option.some.inj (e.symm.trans h3))
    · exact h2 (Option.some.inj (e.symm.trans h3))
  · rw [r1.owns j (hR.lt j hj)]; exact (hs j hj).1
theorem showsO_appC {mk own0 own : Nat → Option Nat} {w0 w : World} {Q : Exit → Act → World → Prop} {V : Nat → Value → (Nat → Option Nat) → World → Prop} {i : Nat} {o : Oper} {a : Act} (hs : Since own0 w0 own w) {d : Nat} (hdst : o.dst = some d) {new : Nat} (hmi : mk i = none) (hmk : mk new = some i)
    (f : FuncId) (vs : Array Value) (hr : (execOp a.eval o).run Tryz.prog w = .ok (.enter f vs) w) {base r B E2 Z : Nat} {l2 : List (Nat × Nat × List UInt8)} {s ev : Value} (hc : Calls Tryz.prog f vs w (AppG base w r B E2 l2 s ev)) (hown : ∀ k, RaS r s k → own k = some i) (hZ : Z ≤ w.heap.size)
    (hv : ∀ own' w', RaW own' w' i new base r B E2 l2 s Z → V i ev own' w') : ShowsO mk Tryz.prog Q V i o a own w := by
  intro K hK
  unfold Oper.wp
  rw [hr, Oper.upon_enter]
  refine hc.mono ?_
  rintro e w' ⟨rfl, s', hR, hk, hs'⟩
  have hs2 : ∀ j, RaS r s' j → (ownN own w.heap.size w'.heap.size new j = some i ∨ ownN own w.heap.size w'.heap.size new j = some new) ∧ (RaS r s j ∨ Z ≤ j) := fun j hj => by
    have hlt := hR.lt j hj
    have old : RaS r s j → (ownN own w.heap.size w'.heap.size new j = some i ∨ ownN own w.heap.size w'.heap.size new j = some new) ∧ (RaS r s j ∨ Z ≤ j) := fun h => by
      refine ⟨?_, .inl h⟩
      unfold ownN
      split
      · exact .inr rfl
      · exact .inl (hown j h)
    rcases hj with hj | hj
    · exact old (.inl hj)
    · rcases hs' j hj with h | h
      · exact old (.inr h)
      · exact ⟨.inr (if_pos ⟨h, hlt⟩), .inr (Nat.le_trans hZ h)⟩
  exact hK ev w' (ownN own w.heap.size w'.heap.size new) (by unfold laid; rw [hdst]; exact hv _ _ ⟨s', hR, hs2⟩) (Rel.keepN mk i hs hk (fun k _ h => hown k h) hmi hmk)
theorem showsO_rappC {mk own0 own : Nat → Option Nat} {w0 w : World} {Q : Exit → Act → World → Prop} {V : Nat → Value → (Nat → Option Nat) → World → Prop} {i : Nat} {o : Oper} {a : Act} (hs : Since own0 w0 own w) {d : Nat} (hdst : o.dst = some d) {new : Nat} (hmi : mk i = none) (hmk : mk new = some i)
    (f : FuncId) (vs : Array Value) (hr : (execOp a.eval o).run Tryz.prog w = .ok (.enter f vs) w) {base r B E2 Z : Nat} {l2 : List (Nat × Nat × List UInt8)} {s : Value} {fc fa : Int} (hc : Calls Tryz.prog f vs w (RAppG base w r B E2 l2 s fc fa)) (hown : ∀ k, RmS r s k → own k = some i) (hZ : Z ≤ w.heap.size)
    (hv : ∀ own' w', RmW own' w' i new base r B E2 l2 s Z → V i (.agg #[.int .i64 fc, .int .i64 fa]) own' w') : ShowsO mk Tryz.prog Q V i o a own w := by
  intro K hK
  unfold Oper.wp
  rw [hr, Oper.upon_enter]
  refine hc.mono ?_
  rintro e w' ⟨rfl, s', hR, hk, hs'⟩
  have hs2 : ∀ j, RmS r s' j → (ownN own w.heap.size w'.heap.size new j = some i ∨ ownN own w.heap.size w'.heap.size new j = some new) ∧ (RmS r s j ∨ Z ≤ j) := fun j hj => by
    have hlt := hR.lt j hj
    have old : RmS r s j → (ownN own w.heap.size w'.heap.size new j = some i ∨ ownN own w.heap.size w'.heap.size new j = some new) ∧ (RmS r s j ∨ Z ≤ j) := fun h => by
      refine ⟨?_, .inl h⟩
      unfold ownN
      split
      · exact .inr rfl
      · exact .inl (hown j h)
    rcases hj with hj | hj
    · exact old (.inl hj)
    · rcases hs' j hj with h | h
      · exact old (.inr h)
      · exact ⟨.inr (if_pos ⟨h, hlt⟩), .inr (Nat.le_trans hZ h)⟩
  exact hK (.agg #[.int .i64 fc, .int .i64 fa]) w' (ownN own w.heap.size w'.heap.size new) (by unfold laid; rw [hdst]; exact hv _ _ ⟨s', hR, hs2⟩) (Rel.keepN mk i hs hk (fun k _ h => hown k h) hmi hmk)
end K2
/-- both are written: the world that is left -/
theorem CW.both9 {base : Nat} {w u : World} {wb : Nat} {D : CD} (h : CW base w wb D) {i : Nat} (hi : i < 4) {a b a' b' : Nat} {own : Nat → Option Nat} (hsn : K2.Since (own9 D i a b) w own u) (hd : a ≠ b ∧ a ≠ b' ∧ a' ≠ b ∧ a' ≠ b') {E' : Nat} {l' : List (Nat × Nat × List UInt8)}
    (hR : K2.RaW own u a a' base (D.r i) (D.B i) E' l' (D.sv i) w.heap.size) (hM : K2.RmW own u b b' base (D.d i) (D.B i) E' l' (D.dv i) w.heap.size) (hS : StC (D.B i) E' l') (hE : E' < 2 ^ 64) :
    ∃ D', CW base u wb D' ∧ Keep (D.F wb) w u ∧ ∀ k, D'.F wb k → D.F wb k ∨ w.heap.size ≤ k := by
  obtain ⟨s', hR1, hR2⟩ := hR
  obtain ⟨t', hM1, hM2⟩ := hM
  have kp : Keep (fun j => j = wb ∨ D.R i j ∨ D.M i j) w u := ⟨hsn.os, hsn.tape, hsn.output, hsn.size, fun j hj hn => hsn.keep j hj (own9_no (fun e => hn (.inr (.inl e))) (fun e => hn (.inr (.inr e))))⟩
  obtain ⟨c1, c2⟩ := h.put hi (r' := D.r i) (d' := D.d i) (B' := D.B i) (E' := E') (l' := l') (s' := s') (t' := t') kp
    (by rw [D.put_self hi]; exact (hsn.keep wb h.wblt (h.own9_out hi (.inr rfl))).trans h.hb) hR1 hM1 hS hE (fun j hj => (hR2 j hj).2) (fun j hj => (hM2 j hj).2)
    (fun j h1 h2 => by
      obtain ⟨n1, n2, n3, n4⟩ := hd
      rcases (hR2 j h1).1 with e1 | e1 <;> rcases (hM2 j h2).1 with e2 | e2
      · exact n1 (Option.some.inj (e1.symm.trans e2))
      · exact n2 (Option.some.inj (e1.symm.trans e2))
      · exact n3 (Option.some.inj (e1.symm.trans e2))
      · exact n4 (Option.some.inj (e1.symm.trans e2)))
  exact ⟨_, c1, kp.mono (fun j _ e => by
    rcases e with e | e | e
    · exact .inl e
    · exact .inr ⟨i, hi, .inl e⟩
    · exact .inr ⟨i, hi, .inr e⟩), c2⟩
end Go.Proofs.YtgbafjmklefoiaaGreatDoor
end
section
namespace Go.Proofs.YtgbafjmklefoiaaGreatDoor
set_option maxRecDepth 100000
open Go.RowKit
theorem wpList_load_mid_w {P : Program} {ops : Array Oper} {rest : List Oper} {o : Oper} {a : Act} {w : World} {Q : Exit → Act → World → Prop} (hw : Region.wanted o (yielded ops a.tmps) = true) (ty : TypeId) (x : Operand) (ho : o.op = .load ty x)
    (b q : Nat) (hx : a.eval x = .pointer (some ⟨b, q, none⟩)) (cs : List Value) (d : TypeDesc) (hc : w.rangeAt b q cs)
    (hu : P.underlying ty = some d) (hd : d.isRow = true) (hi : (P.info? ty).map (·.size) = some cs.length)
    (h : wpList P ops Q rest (a.put o.dst (.agg cs.toArray)) w) : wpList P ops Q (o :: rest) a w :=
  wpList_step fun K hK => by rw [if_pos hw]; exact wp_load_mid ty x ho b q hx cs d hc hu hd hi (hK _ _ h)
set_option maxHeartbeats 800000 in
theorem isHashL_any (w : World) : Calls Tryz.prog 87 #[.agg (ocells markH), .int .i64 7777] w fun e w' => e = .returned (.bool true) ∧ Below w.heap.size w w' := by
  have q : ∀ u : World, (binOp .eql 81 (.agg (ocells markH)) (.agg #[.int .u8 97, .int .u8 30, .int .u8 0, .int .u8 0, .int .u8 0, .int .u8 0, .int .u8 0, .int .u8 0, .int .u8 0, .int .u8 0, .int .u8 0, .int .u8 0, .int .u8 0, .int .u8 0, .int .u8 0, .int .u8 0, .int .u8 0, .int .u8 0, .int .u8 0, .int .u8 0, .int .u8 0, .int .u8 0, .int .u8 0, .int .u8 0, .int .u8 0, .int .u8 0, .int .u8 0, .int .u8 0, .int .u8 0, .int .u8 0, .int .u8 0, .int .u8 201])).run Tryz.prog u = .ok (.bool true) u := fun u => (hv_eq u markH markH rfl rfl).trans (by simp)
  have r0 : (w.alloc (.cells (ocells markH) 81)).heap[w.heap.size]? = some (.cells (ocells markH) 81 (0, 0)) := heap_alloc_new _ _
  have k0 := er_al (Below.refl w.heap.size w) (.cells (ocells markH) 81)
  generalize hmm : ocells markH = mm at q r0 k0 ⊢
  have hsz := hszL markH_length
  rw [hmm] at hsz
  go_enter Tryz.func87, Tryz.ntmps87
  go_upto_region 1 with (fail)
  change Code.wp _ _ _ _ (w.alloc (.cells mm 81))
  generalize w.alloc (.cells mm 81) = W at r0 k0 ⊢
  have R0' := Bx.mk r0; have K0 := Bx.mk k0; have SZ := Bx.mk hsz; clear r0 k0 hmm hsz
  go_wp2_with (guard_target =~ wpList _ _ _ (⟨some 5, _, _, _, _, _⟩ :: _) _ _; refine wpList_load_row rfl 81 (.tmp 2) rfl w.heap.size rfl _ _ _ _ R0'.out underH rfl SZ.out ?_)
  go_ret
  exact ⟨rfl, K0.out⟩
end Go.Proofs.YtgbafjmklefoiaaGreatDoor
end
section
namespace Go.Proofs.YtgbafjmklefoiaaGreatDoor
set_option maxRecDepth 100000
open Go.RowKit
set_option maxHeartbeats 1600000 in
theorem twinW_any (w : World) (ad : Option Addr) (n cap : Nat) (ps : List (List UInt8)) (h : Hss w (.slice ad n cap) ps) (hm : ps.length ≤ 4398046510976) :
    Calls Tryz.prog 12 #[.slice ad n cap] w fun e w' => ∃ v, e = .returned v ∧ (TwinAt w' v ps ∧ v = .slice (some ⟨w.heap.size, 0, none⟩) ps.length (ps.length + 1) ∧ w'.there w.heap.size 0 ((ps.length + 1) * 32)) ∧ Below w.heap.size w w' := by
  obtain ⟨_, _, e1, b1, b1'⟩ := h.len
  have hn1 : n = ps.length := by cases e1; rfl
  subst hn1
  obtain ⟨im, hi1, hi2⟩ := Option.map_eq_some_iff.1 infoH
  simp only [Prod.mk.injEq] at hi2
  obtain ⟨hz, hsz, hby⟩ := hi2
  have mk : ∀ u : World, (Instr.makeSlice 55 (.int .i64 ((ps.length : Int) + 1)) (.int .i64 ((ps.length : Int) + 1))).run Tryz.prog u = .ok (.slice (some ⟨u.heap.size, 0, none⟩) (ps.length + 1) (ps.length + 1)) (u.alloc (.cells (madeCells zeros32 ((ps.length + 1) * 32)) 81)) := fun u => by
    have := run_make (P := Tryz.prog) u 55 81 im (.agg zeros32) underHs hi1 hz .i64 .i64 ((ps.length : Int) + 1) ((ps.length : Int) + 1) (by omega) (Int.le_refl _) (by rw [hby]; omega) (by omega)
    rw [this, hsz, show ((ps.length : Int) + 1).toNat = ps.length + 1 by omega]
    rfl
  have MK := Bx.mk mk
  have HH := Bx.mk h
  clear mk h e1 hi1 hz hsz hby
  have mk := MK.out w
  obtain ⟨l, hl⟩ : ∃ l, l = ps.length := ⟨_, rfl⟩
  rw [← hl] at mk hm b1 ⊢
  have x0 : (w.alloc (.cells (madeCells zeros32 ((l + 1) * 32)) 81)).there w.heap.size 0 ((l + 1) * 32) := by
    have := there_row (heap_alloc_new w (.cells (madeCells zeros32 ((l + 1) * 32)) 81))
    rwa [size_madeCells] at this
  have k0 := er_al (Below.refl w.heap.size w) (.cells (madeCells zeros32 ((l + 1) * 32)) 81)
  have s0 : w.heap.size < (w.alloc (.cells (madeCells zeros32 ((l + 1) * 32)) 81)).heap.size := by simp
  have HL := Bx.mk hl
  clear hl
  have d1 : IntKind.i64.wrap ((l : Int) + 1) = (l : Int) + 1 := by simp [IntKind.wrap, IntKind.bits, IntKind.signed]; omega
  go_enter Tryz.func12, Tryz.ntmps12
  go_upto_region 2 with (fail)
  generalize w.alloc (.cells (madeCells zeros32 ((l + 1) * 32)) 81) = W at x0 k0 s0 ⊢
  have X0 := Bx.mk x0; have K0 := Bx.mk k0; have S0 := Bx.mk s0
  clear x0 k0 s0 mk d1
  obtain ⟨B, hB⟩ : ∃ B, B = w.heap.size := ⟨_, rfl⟩
  rw [← hB] at X0 K0 S0 ⊢
  have HB := Bx.mk hB; clear hB
  go_wp2_with fail
  go_loopw [4] (fun i wr => ∃ t : Nat, t ≤ l ∧ i = .int .i64 (t : Int) ∧ (∀ j (hj : j < ps.length), j < t → wr.rangeAt B (j * 32) (bcells ps[j])) ∧ wr.there B 0 ((l + 1) * 32) ∧ Below B w wr ∧ B < wr.heap.size) (fun i _ => l - (intOf i).toNat)
  case atStart => exact ⟨0, Nat.zero_le _, rfl, fun j _ h => absurd h (Nat.not_lt_zero _), X0.out, K0.out, S0.out⟩
  case round =>
    obtain ⟨t, ht, rfl, hr, hth, hb, hs⟩ := hrel
    have RR := Bx.mk hr; have TH := Bx.mk hth; have BB := Bx.mk hb; have SS := Bx.mk hs
    clear hr hth hb hs X0 K0 S0
    by_cases hlt : t < l
    · have htp : t < ps.length := by rw [← HL.out]; exact hlt
      obtain ⟨_, hc1, hc1', B1, o1, rfl, l1, r1, x1⟩ := (HH.out.below (HB.out ▸ BB.out)).at t htp
      have hrn : ∀ wn : World, wn.rangeAt B (t * 32) (bcells ps[t]) → (∀ j (hj : j < ps.length), j < t → wn.rangeAt B (j * 32) (bcells ps[j])) → ∀ j (hj : j < ps.length), j < t + 1 → wn.rangeAt B (j * 32) (bcells ps[j]) := fun wn h1 h2 j hj hjt => by
        rcases Nat.lt_succ_iff_lt_or_eq.1 hjt with h | rfl
        · exact h2 j hj h
        · exact h1
      have hth : wr.there B (t * 32) (ocells ps[t]).size := fun j hj => by
        have := TH.out (t * 32 + j) (by rw [ocells_size, x1] at hj; omega)
        rwa [Nat.zero_add] at this
      have R1 := Bx.mk r1; have XL := Bx.mk x1; have HRN := Bx.mk hrn; have T1 := Bx.mk hth
      clear r1 x1 hrn hth l1
      go_wp2_with (first
        | (guard_target =~ wpList _ _ _ (⟨some 20, _, _, _, _, _⟩ :: _) _ _; refine wpList_load_mid rfl 81 (.tmp 19) rfl B1 (o1 + t * 32) rfl (bcells (ps[t]'htp)) _ R1.out underH rfl (hszB' XL.out) ?_)
        | (guard_target =~ wpList _ _ _ (⟨none, _, _, _, _, _⟩ :: _) _ _; refine wpList_store_mid rfl 81 (.tmp 21) (.tmp 20) rfl B (t * 32) (ocells (ps[t]'htp)) rfl rfl T1.out (hszL XL.out) (ocells_one _) ?_))
      go_roundw
      case rel =>
        refine ⟨t + 1, hlt, by go_num, HRN.out _ (World.rangeAt_setCells_same wr B (t * 32) (ocells (ps[t]'htp)).toList ?_) (fun j hj hjt => ?_), World.there_setCells TH.out _ _ _, below_setCells (Nat.le_refl _) _ _ _ BB.out, by rw [size_setCells]; exact SS.out⟩
        · have := T1.out; rwa [← Array.length_toList] at this
        · refine World.rangeAt_setCells_apart (RR.out j hj hjt) B _ _ (.inr (.inl ?_))
          have h32 : (bcells (ps[j]'hj)).length = 32 := by rw [bcells_length]; exact HH.out.1 _ (List.getElem_mem hj)
          rw [h32]; omega
      case measure => simp [intOf]; omega
    · obtain rfl : t = l := by omega
      have cm := mark_any wr
      have CM := Bx.mk cm; clear cm
      go_wp2_with fail
      refine CM.out.mono ?_
      rintro e w1 ⟨rfl, hb⟩
      have th1 : w1.there B (t * 32) (ocells markH).size := fun j hj => by
        have := TH.out (t * 32 + j) (by rw [ocells_size, markH_length] at hj; omega)
        rw [Nat.zero_add] at this
        have e1 := hb.cell (p := ⟨B, t * 32 + j, none⟩) SS.out
        have e2 := hb.frozen (p := ⟨B, t * 32 + j, none⟩) SS.out
        exact ⟨by rw [e1]; exact this.1, by rw [e2]; exact this.2⟩
      have rr1 : ∀ j (hj : j < ps.length), w1.rangeAt B (j * 32) (bcells ps[j]) := fun j hj => rangeAt_below (RR.out j hj (by rw [HL.out]; exact hj)) SS.out hb
      have tha : w1.there B 0 ((t + 1) * 32) := fun j hj => by
        have := TH.out j hj
        have e1 := hb.cell (p := ⟨B, 0 + j, none⟩) SS.out
        have e2 := hb.frozen (p := ⟨B, 0 + j, none⟩) SS.out
        exact ⟨by rw [e1]; exact this.1, by rw [e2]; exact this.2⟩
      have THA := Bx.mk tha
      have TH1 := Bx.mk th1; have RR1 := Bx.mk rr1; have BB1 := Bx.mk (BB.out.trans (hb.mono (by have := SS.out; omega))); have SS1 := Bx.mk (Nat.lt_of_lt_of_le SS.out hb.size)
      clear th1 rr1 hb tha
      go_wp2_with (guard_target =~ wpList _ _ _ (⟨none, _, _, _, _, _⟩ :: _) _ _; refine wpList_store_mid rfl 81 (.tmp 26) (.tmp 25) rfl B (t * 32) (ocells markH) rfl rfl TH1.out (hszL markH_length) (ocells_one _) ?_)
      go_ret
      have hl := HL.out
      refine ⟨_, rfl, ⟨⟨⟨HH.out.1, some ⟨B, 0, none⟩, t + 1, by rw [← hl]; rfl, by omega, by unfold maxLen; omega, fun _ => ⟨B, 0, rfl, by rw [size_setCells]; exact SS1.out, fun j hj => ?_⟩⟩, B, by rw [← hl]; rfl, by rw [size_setCells]; exact SS1.out, ?_⟩, by rw [← HB.out]; rfl, by rw [← HB.out]; exact World.there_setCells THA.out _ _ _⟩, HB.out ▸ below_setCells (Nat.le_refl _) _ _ _ BB1.out⟩
      · rw [Nat.zero_add]
        refine World.rangeAt_setCells_apart (RR1.out j hj) B _ _ (.inr (.inl ?_))
        have h32 : (bcells (ps[j]'hj)).length = 32 := by rw [bcells_length]; exact HH.out.1 _ (List.getElem_mem hj)
        rw [h32]; omega
      · rw [← hl]
        refine World.rangeAt_setCells_same w1 B (t * 32) (ocells markH).toList ?_
        have := TH1.out; rwa [← Array.length_toList] at this
set_option maxHeartbeats 1600000 in
theorem leftW_any (w : World) (v : Value) (ps : List (List UInt8)) (ad : Option Addr) (n cap : Nat) (h1 : TwinAt w v ps) (h2 : Hss w (.slice ad n cap) ps) (hm : ps.length ≤ 4398046510976) :
    Calls Tryz.prog 16 #[v, .slice ad n cap] w fun e w' => e = .returned (.bool true) ∧ Below w.heap.size w w' := by
  obtain ⟨_, _, e1, b1, b1'⟩ := h2.len
  have hn1 : n = ps.length := by cases e1; rfl
  subst hn1
  have h1' := h1
  obtain ⟨hh, B, rfl, hB, hr⟩ := h1'
  have cs := same_any w _ _ _ ps _ _ _ ps hh h2
  rw [show (ps == ps) = true by simp] at cs
  have T := Bx.mk h1; have CS := Bx.mk cs; have BL := Bx.mk hB; have RG := Bx.mk hr
  clear h1 cs hB hr hh e1 h2
  obtain ⟨l, hl⟩ : ∃ l, l = ps.length := ⟨_, rfl⟩
  rw [← hl] at CS RG hm ⊢
  have HL := Bx.mk hl; clear hl
  have d1 : IntKind.i64.wrap ((l : Int) + 1) = (l : Int) + 1 := by simp [IntKind.wrap, IntKind.bits, IntKind.signed]; omega
  go_enter Tryz.func16, Tryz.ntmps16
  go_wp2_with fail
  refine CS.out.mono ?_
  rintro e w1 ⟨rfl, hb⟩
  have hr := rangeAt_below RG.out BL.out hb
  have R1 := Bx.mk hr; have B1 := Bx.mk hb; clear hr hb
  have f1 : ¬ (l : Int) + 1 ≤ (l : Int) := by omega
  have f2 : (l : Int) < (l : Int) + 1 := by omega
  go_wp2_with (guard_target =~ wpList _ _ _ (⟨some 17, _, _, _, _, _⟩ :: _) _ _; refine wpList_load_mid_w rfl 81 (.tmp 16) rfl B (l * 32) rfl (bcells markH) _ R1.out underH rfl (hszB' markH_length) ?_)
  refine (isHashL_any w1).mono ?_
  rintro e w2 ⟨rfl, hb⟩
  have B2 := Bx.mk (B1.out.trans (hb.mono B1.out.size)); clear hb
  go_wp2_with fail
  go_ret
  exact ⟨rfl, B2.out⟩
end Go.Proofs.YtgbafjmklefoiaaGreatDoor
end
