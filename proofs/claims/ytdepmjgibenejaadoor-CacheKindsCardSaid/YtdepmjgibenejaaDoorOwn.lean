/- A region that draws its order, by what each operation brings about: values in slots of their own, blocks made and rows written once each. Each operation is shown once; whatever the order, in the end all holds. -/
import Derived.Test.YtdepmjgibenejaaDoorInv2
import Derived.Deep.MidRow
namespace Go.Proofs.YtdepmjgibenejaaDoor
open Go.RowKit
/-- what the operation i may do to memory: it writes what it owns; all else that was there stays -/
structure Rel (mk : Nat → Option Nat) (i : Nat) (own : Nat → Option Nat) (w : World) (own' : Nat → Option Nat) (w' : World) : Prop where
  os : w'.os = w.os
  tape : w'.tape = w.tape
  output : w'.output = w.output
  size : w.heap.size ≤ w'.heap.size
  owns : ∀ k, k < w.heap.size → own' k = own k
  keep : ∀ k, k < w.heap.size → own k ≠ some i → w'.heap[k]? = w.heap[k]?
  kind : ∀ (k : Nat) (c : Array Value) t fr, w.heap[k]? = some (Obj.cells c t fr) → ∃ c' : Array Value, w'.heap[k]? = some (Obj.cells c' t fr) ∧ c'.size = c.size
  fresh : ∀ k j, w.heap.size ≤ k → own' k = some j → mk j = some i
  top : ∀ k, w'.heap.size ≤ k → own' k = none
/-- what stays from the region's beginning on -/
structure Since (own0 : Nat → Option Nat) (w0 : World) (own : Nat → Option Nat) (w : World) : Prop where
  os : w.os = w0.os
  tape : w.tape = w0.tape
  output : w.output = w0.output
  size : w0.heap.size ≤ w.heap.size
  owns : ∀ k, k < w0.heap.size → own k = own0 k
  keep : ∀ k, k < w0.heap.size → own0 k = none → w.heap[k]? = w0.heap[k]?
  kind : ∀ (k : Nat) (c : Array Value) t fr, w0.heap[k]? = some (Obj.cells c t fr) → ∃ c' : Array Value, w.heap[k]? = some (Obj.cells c' t fr) ∧ c'.size = c.size
  top : ∀ k, w.heap.size ≤ k → own k = none
theorem Since.step {mk own0 own own' : Nat → Option Nat} {w0 w w' : World} {i : Nat} (h : Since own0 w0 own w) (r : Rel mk i own w own' w') : Since own0 w0 own' w' where
  os := r.os.trans h.os
  tape := r.tape.trans h.tape
  output := r.output.trans h.output
  size := Nat.le_trans h.size r.size
  owns k hk := (r.owns k (Nat.lt_of_lt_of_le hk h.size)).trans (h.owns k hk)
  keep k hk ho := (r.keep k (Nat.lt_of_lt_of_le hk h.size) (by rw [h.owns k hk, ho]; simp)).trans (h.keep k hk ho)
  kind k c t fr hc := by
    obtain ⟨c', h1, h2⟩ := h.kind k c t fr hc
    obtain ⟨c'', h3, h4⟩ := r.kind k c' t fr h1
    exact ⟨c'', h3, h4.trans h2⟩
  top := r.top
theorem Rel.same (mk : Nat → Option Nat) (i : Nat) {own0 own : Nat → Option Nat} {w0 w : World} (h : Since own0 w0 own w) : Rel mk i own w own w :=
  ⟨rfl, rfl, rfl, Nat.le_refl _, fun _ _ => rfl, fun _ _ _ => rfl, fun _ c _ _ h => ⟨c, h, rfl⟩, fun k j hk ho => (by rw [h.top k hk] at ho; cases ho), h.top⟩
/-- a call that leaves all that was there -/
theorem Rel.below (mk : Nat → Option Nat) (i : Nat) {own0 own : Nat → Option Nat} {w0 w w' : World} (hs : Since own0 w0 own w) (h : Below w.heap.size w w') : Rel mk i own w own w' :=
  ⟨h.os, h.tape, h.output, h.size, fun _ _ => rfl, fun k hk _ => h.block k hk, fun k c t fr hc => ⟨c, (h.block k (Array.getElem?_eq_some_iff.1 hc).1).trans hc, rfl⟩,
    fun k j hk ho => (by rw [hs.top k hk] at ho; cases ho), fun k hk => hs.top k (Nat.le_trans h.size hk)⟩
/-- a new block, which the operation j is going to write -/
def ownNew (own : Nat → Option Nat) (n j : Nat) : Nat → Option Nat := fun k => if k = n then some j else own k
theorem ownNew_at (own : Nat → Option Nat) (n j : Nat) : ownNew own n j n = some j := by simp [ownNew]
theorem Rel.alloc {mk : Nat → Option Nat} {i : Nat} {own0 own : Nat → Option Nat} {w0 w : World} (hs : Since own0 w0 own w) (o : Obj) (j : Nat) (hj : mk j = some i) : Rel mk i own w (ownNew own w.heap.size j) (w.alloc o) :=
  ⟨rfl, rfl, rfl, by simp, fun k hk => by simp [ownNew, Nat.ne_of_lt hk], fun k hk _ => Below.heap_alloc _ _ _ hk, fun k c t fr hc => ⟨c, (Below.heap_alloc _ _ _ (Array.getElem?_eq_some_iff.1 hc).1).trans hc, rfl⟩,
    fun k j' hk ho => (by
      unfold ownNew at ho
      split at ho
      · cases ho; exact hj
      · rw [hs.top k hk] at ho; cases ho),
    fun k hk => by
      have hk' : w.heap.size + 1 ≤ k := by simpa using hk
      unfold ownNew
      rw [if_neg (by omega)]
      exact hs.top k (by omega)⟩
/-- a row of one's own is written -/
theorem Rel.row (mk : Nat → Option Nat) {i : Nat} {own0 own : Nat → Option Nat} {w0 w : World} (hs0 : Since own0 w0 own w) {g : Nat} {cs cs' : Array Value} {T : TypeId} (hg : w.heap[g]? = some (.cells cs T (0, 0))) (ho : own g = some i) (hs : cs'.size = cs.size) : Rel mk i own w own (w.setRow g cs') := by
  refine ⟨rfl, rfl, rfl, by simp, fun _ _ => rfl, fun k _ hn => setRow_other _ _ _ _ (fun e => hn (e ▸ ho)), fun k c t fr hc => ?_, fun k j hk ho => (by rw [hs0.top k hk] at ho; cases ho), fun k hk => hs0.top k (by simpa using hk)⟩
  by_cases hk : k = g
  · subst hk
    rw [hg] at hc
    cases hc
    exact ⟨cs', setRow_heap _ _ _ _ _ _ hg, hs⟩
  · exact ⟨c, (setRow_other _ _ _ _ hk).trans hc, rfl⟩
theorem Since.below {own0 own : Nat → Option Nat} {w0 w : World} (h : Since own0 w0 own w) {B : Nat} (hB : ∀ k, k < B → own0 k = none) (hs : B ≤ w0.heap.size) : Below B w0 w :=
  ⟨h.os, h.tape, h.output, h.size, fun k hk => h.keep k (Nat.lt_of_lt_of_le hk hs) (hB k hk)⟩
theorem Since.ge {own0 own : Nat → Option Nat} {w0 w : World} (h : Since own0 w0 own w) {g j : Nat} (ho : own g = some j) (h0 : ∀ k, k < w0.heap.size → own0 k ≠ some j) : w0.heap.size ≤ g := by
  rcases Nat.lt_or_ge g w0.heap.size with hlt | hge
  · exact absurd ((h.owns g hlt).symm.trans ho) (h0 g hlt)
  · exact hge
section
variable {P : Program} {ops : Array Oper} {Q : Exit → Act → World → Prop}
/-- what an operation has laid down -/
def laid (o : Oper) (v : Value) : Value := match o.dst with | some _ => v | none => undef
def slotOf (o : Oper) (a : Act) : Value := match o.dst with | some d => a.tmps.getD d undef | none => undef
def DoneO (ops : Array Oper) (V : Nat → Value → (Nat → Option Nat) → World → Prop) (b : Array Bool) (a : Act) (own : Nat → Option Nat) (w : World) : Prop :=
  ∀ (i : Nat) o, ops[i]? = some o → b.getD i false = true → V i (slotOf o a) own w
theorem wpAny_own {n : Nat} {a0 : Act} {w0 : World} {mk own0 : Nat → Option Nat} {V : Nat → Value → (Nat → Option Nat) → World → Prop} (hB : invB2 ops n = true) (hn : a0.tmps.size = n)
    (hV : ∀ i j v own w own' w', i ≠ j → V j v own w → Rel mk i own w own' w' → V j v own' w')
    (step : ∀ (i : Nat) o, ops[i]? = some o → ∀ (a : Act) (w : World) (own : Nat → Option Nat), Same ops a0 a → Since own0 w0 own w → (∀ j, mk j = some i → ∀ k, own k ≠ some j) →
      (∀ e ∈ o.after, Region.binds .any e = true → ∀ oj, ops[e.on]? = some oj → V e.on (slotOf oj a) own w) →
      Region.wanted o (yielded ops a.tmps) = true ∧ ∀ K : Act → World → Prop, (∀ v w' own', V i (laid o v) own' w' → Rel mk i own w own' w' → K (a.put o.dst v) w') → o.wp P a w K Q)
    (fin : ∀ (a : Act) (w : World) own, Same ops a0 a → Since own0 w0 own w → (∀ (i : Nat) o, ops[i]? = some o → V i (slotOf o a) own w) → Q .normal a w) :
    ∀ (fuel : Nat) (b : Array Bool) (a : Act) (w : World) own, b.size = ops.size → ((List.range ops.size).countP fun i => !b.getD i true) ≤ fuel → Same ops a0 a → Since own0 w0 own w → (∀ j i, mk j = some i → b.getD i false = false → ∀ k, own k ≠ some j) → DoneO ops V b a own w → wpAny P .any ops Q fuel b a w := by
  have prog : ∀ b : Array Bool, b.size = ops.size → Region.ready .any ops b = [] → ∀ i, i < ops.size → b.getD i true = true := by
    intro b hb hr i
    induction i using Nat.strongRecOn with
    | _ i ih =>
      intro hi
      cases hbi : b.getD i true with
      | true => rfl
      | false =>
        exfalso
        have : i ∈ Region.ready .any ops b := mem_ready.2 ⟨hbi, ops[i], by simp [hi], fun e he hbe => by
          have hlt := (invB2_at hB (i := i) (o := ops[i]) (by simp [hi])).2 e he hbe
          rw [getD_of_lt (by omega) false true]
          exact ih _ hlt (by omega)⟩
        rw [hr] at this
        cases this
  have finish : ∀ b a w own, b.size = ops.size → Region.ready .any ops b = [] → Same ops a0 a → Since own0 w0 own w → DoneO ops V b a own w → Q .normal a w := by
    intro b a w own hb hr hs hbw hd
    refine fin a w own hs hbw fun i o ho => hd i o ho ?_
    have hlt : i < ops.size := (Array.getElem?_eq_some_iff.1 ho).1
    rw [getD_of_lt (by omega) false true]
    exact prog b hb hr i hlt
  intro fuel
  induction fuel with
  | zero =>
    intro b a w own hb hc hs hbw hfr hd
    have hall : ∀ i, i < ops.size → b.getD i true = true := by
      intro i hi
      cases hbi : b.getD i true with
      | true => rfl
      | false =>
        exfalso
        have : 0 < (List.range ops.size).countP fun i => !b.getD i true := List.countP_pos_iff.2 ⟨i, List.mem_range.2 hi, by simp only [hbi]; rfl⟩
        omega
    have hr : Region.ready .any ops b = [] := by
      rw [List.eq_nil_iff_forall_not_mem]
      intro j hj
      obtain ⟨h1, o, ho, _⟩ := mem_ready.1 hj
      rw [hall j (Array.getElem?_eq_some_iff.1 ho).1] at h1
      cases h1
    exact ⟨hr, finish b a w own hb hr hs hbw hd⟩
  | succ fuel ih =>
    intro b a w own hb hc hs hbw hfr hd
    refine ⟨fun hr => finish b a w own hb hr hs hbw hd, fun i hi => ?_⟩
    obtain ⟨h1, o, ho, hall⟩ := mem_ready.1 hi
    have hlt : i < ops.size := (Array.getElem?_eq_some_iff.1 ho).1
    have hD := (invB2_at hB ho).1
    obtain ⟨hw, hK⟩ := step i o ho a w own hs hbw (fun j hj => hfr j i hj (by rw [getD_of_lt (by omega) false true]; exact h1)) (fun e he hbe oj hoj => hd _ oj hoj (hall e he hbe))
    unfold wpOp
    simp only [ho, hw, if_true]
    refine .inl (hK _ fun v w' own' hv hr' => ?_)
    have hslot : ∀ s, o.dst ≠ some s → (a.put o.dst v).tmps.getD s undef = a.tmps.getD s undef := fun s hs => by
      cases hdst : o.dst with
      | none => rfl
      | some d =>
        have hsd : d ≠ s := fun e => hs (by rw [hdst, e])
        simp [Act.put, Array.getD_eq_getD_getElem?, Array.getElem?_setIfInBounds_ne hsd]
    have hps : (a.put o.dst v).tmps.size = a.tmps.size := by cases hdst : o.dst <;> simp [Act.put]
    have hpd : (a.put o.dst v).defers = a.defers := by cases hdst : o.dst <;> simp [Act.put]
    refine ih (b.setIfInBounds i true) (a.put o.dst v) w' own' (by simpa using hb) ?_ ⟨hpd.trans hs.defers, hps.trans hs.size, fun s hsd => ?_⟩ (hbw.step hr') ?_ ?_
    · have := cnt_lt (List.range ops.size) i (List.mem_range.2 hlt) (fun j => !b.getD j true) (fun j => !(b.setIfInBounds i true).getD j true) (fun x hx => by
        by_cases hxi : x = i
        · subst hxi; simp [h1]
        · rwa [getD_set_ne true (Ne.symm hxi)] at hx) (by simp only [h1]; rfl) (by simp [hb ▸ hlt])
      omega
    · rw [hslot s (hsd i o ho)]
      exact hs.slot s hsd
    · intro j i' hj hbi k ho
      by_cases hii : i' = i
      · subst hii
        rw [show (b.setIfInBounds i' true).getD i' false = true by simp [hb ▸ hlt]] at hbi
        cases hbi
      · rcases Nat.lt_or_ge k w.heap.size with hk | hk
        · exact hfr j i' hj (by rwa [getD_set_ne false (Ne.symm hii)] at hbi) k ((hr'.owns k hk).symm.trans ho)
        · exact hii (Option.some.inj (hj.symm.trans (hr'.fresh k j hk ho)))
    · intro j oj hoj hbj
      by_cases hji : j = i
      · subst hji
        rw [ho] at hoj
        cases hoj
        have : slotOf o (a.put o.dst v) = laid o v := by
          unfold slotOf laid
          cases hdst : o.dst with
          | none => rfl
          | some d =>
            have hdn := (hD d hdst).1
            simp [Act.put, hs.size, hn, hdn]
        rw [this]
        exact hv
      · have hsl : slotOf oj (a.put o.dst v) = slotOf oj a := by
          unfold slotOf
          cases hdj : oj.dst with
          | none => rfl
          | some dj =>
            refine hslot dj (fun e => ?_)
            rcases Nat.lt_or_ge j i with h | h
            · exact (hD dj e).2 j oj h hoj hdj
            · exact ((invB2_at hB hoj).1 dj hdj).2 i o (by omega) ho e
        rw [hsl]
        refine hV i j _ _ _ _ _ (Ne.symm hji) (hd j oj hoj ?_) hr'
        rwa [getD_set_ne false (Ne.symm hji)] at hbj
/-- THE LAW -/
theorem wp_region_own {id n : Nat} {a0 : Act} {w0 : World} (mk own0 : Nat → Option Nat) (V : Nat → Value → (Nat → Option Nat) → World → Prop) (hm : P.follows .mixedOrders = true) (hB : invB2 ops n = true) (hn : a0.tmps.size = n) (htop : ∀ k, w0.heap.size ≤ k → own0 k = none) (hmk : ∀ j i, mk j = some i → ∀ k, own0 k ≠ some j)
    (hV : ∀ i j v own w own' w', i ≠ j → V j v own w → Rel mk i own w own' w' → V j v own' w')
    (step : ∀ (i : Nat) o, ops[i]? = some o → ∀ (a : Act) (w : World) (own : Nat → Option Nat), Same ops a0 a → Since own0 w0 own w → (∀ j, mk j = some i → ∀ k, own k ≠ some j) →
      (∀ e ∈ o.after, Region.binds .any e = true → ∀ oj, ops[e.on]? = some oj → V e.on (slotOf oj a) own w) →
      Region.wanted o (yielded ops a.tmps) = true ∧ ∀ K : Act → World → Prop, (∀ v w' own', V i (laid o v) own' w' → Rel mk i own w own' w' → K (a.put o.dst v) w') → o.wp P a w K Q)
    (fin : ∀ (a : Act) (w : World) own, Same ops a0 a → Since own0 w0 own w → (∀ (i : Nat) o, ops[i]? = some o → V i (slotOf o a) own w) → Q .normal a w) :
    (Code.region id ops true).wp P Q a0 w0 := by
  refine wp_region_any hm (wpAny_own hB hn hV step fin ops.size _ a0 _ own0 (by simp) ?_ ⟨rfl, rfl, fun _ _ => rfl⟩ ⟨rfl, rfl, rfl, Nat.le_refl _, fun _ _ => rfl, fun _ _ _ => rfl, fun _ c _ _ h => ⟨c, h, rfl⟩, htop⟩ (fun j i hj _ => hmk j i hj) ?_)
  · exact Nat.le_trans (List.countP_le_length) (by simp)
  · intro i o ho hb
    have hlt : i < ops.size := (Array.getElem?_eq_some_iff.1 ho).1
    simp [hlt] at hb
/-! one operation, from what it waits for -/
theorem depO {V : Nat → Value → (Nat → Option Nat) → World → Prop} {o : Oper} {a : Act} {own : Nat → Option Nat} {w : World}
    (h : ∀ e ∈ o.after, Region.binds .any e = true → ∀ oj, ops[e.on]? = some oj → V e.on (slotOf oj a) own w) (j d : Nat)
    (hj : (o.after.any fun e => e.on == j && Region.binds .any e) = true) (hjd : (ops[j]?).bind (·.dst) = some d) : V j (a.tmps.getD d undef) own w := by
  obtain ⟨oj, ho, hd⟩ := Option.bind_eq_some_iff.1 hjd
  obtain ⟨i, hi, h1⟩ := Array.any_eq_true.1 hj
  simp only [Bool.and_eq_true, beq_iff_eq] at h1
  obtain ⟨h0, h2⟩ := h1
  have := h _ (Array.getElem_mem hi) h2 oj (h0 ▸ ho)
  rw [h0] at this
  unfold slotOf at this
  rwa [hd] at this
theorem depN {V : Nat → Value → (Nat → Option Nat) → World → Prop} {o : Oper} {a : Act} {own : Nat → Option Nat} {w : World}
    (h : ∀ e ∈ o.after, Region.binds .any e = true → ∀ oj, ops[e.on]? = some oj → V e.on (slotOf oj a) own w) (j : Nat)
    (hj : (o.after.any fun e => e.on == j && Region.binds .any e) = true) (hjd : (ops[j]?).map (·.dst) = some none) : V j undef own w := by
  obtain ⟨oj, ho, hd⟩ := Option.map_eq_some_iff.1 hjd
  obtain ⟨i, hi, h1⟩ := Array.any_eq_true.1 hj
  simp only [Bool.and_eq_true, beq_iff_eq] at h1
  obtain ⟨h0, h2⟩ := h1
  have := h _ (Array.getElem_mem hi) h2 oj (h0 ▸ ho)
  rw [h0] at this
  unfold slotOf at this
  rwa [hd] at this
theorem finO {V : Nat → Value → (Nat → Option Nat) → World → Prop} {a : Act} {own : Nat → Option Nat} {w : World} (h : ∀ (i : Nat) o, ops[i]? = some o → V i (slotOf o a) own w) (j d : Nat)
    (hjd : (ops[j]?).bind (·.dst) = some d) : V j (a.tmps.getD d undef) own w := by
  obtain ⟨oj, ho, hd⟩ := Option.bind_eq_some_iff.1 hjd
  have := h j oj ho
  unfold slotOf at this
  rwa [hd] at this
theorem finN {V : Nat → Value → (Nat → Option Nat) → World → Prop} {a : Act} {own : Nat → Option Nat} {w : World} (h : ∀ (i : Nat) o, ops[i]? = some o → V i (slotOf o a) own w) (j : Nat)
    (hjd : (ops[j]?).map (·.dst) = some none) : V j undef own w := by
  obtain ⟨oj, ho, hd⟩ := Option.map_eq_some_iff.1 hjd
  have := h j oj ho
  unfold slotOf at this
  rwa [hd] at this
/-- what an operation must show -/
def ShowsO (mk : Nat → Option Nat) (P : Program) (Q : Exit → Act → World → Prop) (V : Nat → Value → (Nat → Option Nat) → World → Prop) (i : Nat) (o : Oper) (a : Act) (own : Nat → Option Nat) (w : World) : Prop :=
  ∀ K : Act → World → Prop, (∀ v w' own', V i (laid o v) own' w' → Rel mk i own w own' w' → K (a.put o.dst v) w') → o.wp P a w K Q
variable {mk own0 : Nat → Option Nat} {w0 : World} {V : Nat → Value → (Nat → Option Nat) → World → Prop} {i : Nat} {o : Oper} {a : Act} {own : Nat → Option Nat} {w : World}
theorem showsO_run {w' : World} {d : Nat} (hd : o.dst = some d) (v : Value) (hr : (execOp a.eval o).run P w = .ok (.value v) w') (own' : Nat → Option Nat) (hb : Rel mk i own w own' w') (hv : V i v own' w') : ShowsO mk P Q V i o a own w := by
  intro K hK
  unfold Oper.wp
  rw [hr, Oper.upon_value]
  exact hK v w' own' (by unfold laid; rw [hd]; exact hv) hb
theorem showsO_pure (hs : Since own0 w0 own w) {d : Nat} (hd : o.dst = some d) (v : Value) (hr : (execOp a.eval o).run P w = .ok (.value v) w) (hv : V i v own w) : ShowsO mk P Q V i o a own w := showsO_run hd v hr own (Rel.same mk i hs) hv
theorem showsO_move (hs : Since own0 w0 own w) {d : Nat} (hd : o.dst = some d) (x : Operand) (ho : o.op = .move x) (hv : V i (a.eval x) own w) : ShowsO mk P Q V i o a own w :=
  showsO_pure hs hd (a.eval x) (by simp [execOp, ho]) hv
theorem showsO_assign (hs : Since own0 w0 own w) {d : Nat} (hd : o.dst = some d) (x : Operand) (ho : o.op = .assign x) (hv : V i (a.eval x) own w) : ShowsO mk P Q V i o a own w :=
  showsO_pure hs hd (a.eval x) (by simp [execOp, ho]) hv
theorem showsO_row (hs : Since own0 w0 own w) {d' : Nat} (hdst : o.dst = some d') (ty : TypeId) (x : Operand) (ho : o.op = .load ty x)
    (g : Nat) (hx : a.eval x = .pointer (some ⟨g, 0, none⟩)) (cs : Array Value) {t : TypeId} {fr : Nat × Nat} {d : TypeDesc} (hg : w.heap[g]? = some (.cells cs t fr))
    (hu : P.underlying ty = some d) (hd : (match d with | .struct _ | .array _ _ => true | _ => false) = true) (hi : (P.info? ty).map (·.size) = some cs.size) (hv : V i (.agg cs) own w) : ShowsO mk P Q V i o a own w := by
  intro K hK
  exact wp_load_row ty x ho g hx t cs fr d hg hu hd hi (hK _ _ own (by unfold laid; rw [hdst]; exact hv) (Rel.same mk i hs))
theorem showsO_mid (hs : Since own0 w0 own w) {d' : Nat} (hdst : o.dst = some d') (ty : TypeId) (x : Operand) (ho : o.op = .load ty x)
    (g q : Nat) (hx : a.eval x = .pointer (some ⟨g, q, none⟩)) (cs : List Value) {d : TypeDesc} (hg : w.rangeAt g q cs)
    (hu : P.underlying ty = some d) (hd : d.isRow = true) (hi : (P.info? ty).map (·.size) = some cs.length) (hv : V i (.agg cs.toArray) own w) : ShowsO mk P Q V i o a own w := by
  intro K hK
  exact wp_load_mid ty x ho g q hx cs d hg hu hd hi (hK _ _ own (by unfold laid; rw [hdst]; exact hv) (Rel.same mk i hs))
theorem showsO_call (hs : Since own0 w0 own w) {d : Nat} (hdst : o.dst = some d) (f : FuncId) (vs : Array Value)
    (hr : (execOp a.eval o).run P w = .ok (.enter f vs) w) {R : Value → World → Prop} (hc : Calls P f vs w fun e w' => ∃ v, e = .returned v ∧ R v w' ∧ Below w.heap.size w w') (hv : ∀ v w', R v w' → Below w.heap.size w w' → V i v own w') : ShowsO mk P Q V i o a own w := by
  intro K hK
  unfold Oper.wp
  rw [hr, Oper.upon_enter]
  refine hc.mono ?_
  rintro e w' ⟨v, rfl, h1, hb⟩
  exact hK v w' own (by unfold laid; rw [hdst]; exact hv v w' h1 hb) (Rel.below mk i hs hb)
theorem showsO_call1 (hs : Since own0 w0 own w) {d : Nat} (hdst : o.dst = some d) (f : FuncId) (vs : Array Value)
    (hr : (execOp a.eval o).run P w = .ok (.enter f vs) w) {v : Value} (hc : Calls P f vs w fun e w' => e = .returned v ∧ Below w.heap.size w w') (hv : ∀ w', V i v own w') : ShowsO mk P Q V i o a own w :=
  showsO_call (R := fun u _ => u = v) hs hdst f vs hr (hc.mono fun e w' ⟨h1, h2⟩ => ⟨v, h1, rfl, h2⟩) (fun u w' h _ => by subst h; exact hv w')
theorem showsO_build (hs : Since own0 w0 own w) {d : Nat} (hd : o.dst = some d) (t : TypeId) (parts : Array (Nat × Operand)) (ho : o.op = .build t parts) (cs : Array Value)
    (hf : P.built t (parts.map fun (i, x) => (i, a.eval x)).toList = some cs) (hv : V i (.agg cs) own w) : ShowsO mk P Q V i o a own w := by
  intro K hK
  refine wp_build t parts ho (by rw [hf]; rfl) ?_
  rw [hf]
  exact hK _ _ own (by unfold laid; rw [hd]; exact hv) (Rel.same mk i hs)
theorem showsO_store_row (hs0 : Since own0 w0 own w) (hd : o.dst = none) (ty : TypeId) (x y : Operand) (ho : o.op = .store ty x y) (g : Nat) (cs' : Array Value) (hx : a.eval x = .pointer (some ⟨g, 0, none⟩)) (hy : a.eval y = .agg cs')
    {T : TypeId} {cs : Array Value} (hg : w.heap[g]? = some (.cells cs T (0, 0))) (hi : (P.info? ty).map (·.size) = some cs'.size) (hs : cs.size = cs'.size) (h1 : cs'.all (·.oneCell') = true) (hown : own g = some i)
    (hv : V i undef own (w.setRow g cs')) : ShowsO mk P Q V i o a own w := by
  intro K hK
  refine wp_store_row ty x y ho g cs' hx hy T cs hg hi hs h1 ?_
  exact hK _ _ own (by unfold laid; rw [hd]; exact hv) (Rel.row mk hs0 hg hown hs.symm)
end
/-! what may stand in a V -/
section
variable {mk own own' : Nat → Option Nat} {w w' : World} {i : Nat}
/-- a new block of the region's own, which the operation j is going to write -/
def AllocV (own : Nat → Option Nat) (w : World) (v : Value) (j : Nat) (T : TypeId) (n : Nat) : Prop :=
  ∃ g, v = .pointer (some ⟨g, 0, none⟩) ∧ own g = some j ∧ (∀ k, own k = some j → k = g) ∧ ∃ cs : Array Value, w.heap[g]? = some (.cells cs T (0, 0)) ∧ cs.size = n
theorem AllocV.stable {v : Value} {j j0 : Nat} {T : TypeId} {n : Nat} (h : AllocV own w v j T n) (r : Rel mk i own w own' w') (hmk : mk j = some j0) (hi : i ≠ j0) : AllocV own' w' v j T n := by
  obtain ⟨g, rfl, h1, h2, cs, h3, h4⟩ := h
  have hg := (Array.getElem?_eq_some_iff.1 h3).1
  obtain ⟨cs', k1, k2⟩ := r.kind _ _ _ _ h3
  refine ⟨g, rfl, (r.owns g hg).trans h1, fun k hk => ?_, cs', k1, k2.trans h4⟩
  rcases Nat.lt_or_ge k w.heap.size with hlt | hge
  · exact h2 k ((r.owns k hlt).symm.trans hk)
  · exact absurd (Option.some.inj (hmk.symm.trans (r.fresh k j hge hk))).symm hi
/-- what the operation j has written into its block -/
def StoredV (own : Nat → Option Nat) (w : World) (j : Nat) (T : TypeId) (X : Array Value) : Prop := ∃ g, own g = some j ∧ w.heap[g]? = some (.cells X T (0, 0))
theorem StoredV.stable {j : Nat} {T : TypeId} {X : Array Value} (h : StoredV own w j T X) (r : Rel mk i own w own' w') (hi : i ≠ j) : StoredV own' w' j T X := by
  obtain ⟨g, h1, h3⟩ := h
  have hg := (Array.getElem?_eq_some_iff.1 h3).1
  exact ⟨g, (r.owns g hg).trans h1, (r.keep g hg (by rw [h1]; intro e; exact hi (Option.some.inj e).symm)).trans h3⟩
theorem AllocV.stored {v : Value} {j : Nat} {T T' : TypeId} {n : Nat} {X : Array Value} (h : AllocV own w v j T n) (h' : StoredV own w j T' X) : ∃ g, v = .pointer (some ⟨g, 0, none⟩) ∧ own g = some j ∧ w.heap[g]? = some (.cells X T' (0, 0)) := by
  obtain ⟨g, rfl, _, h2, _⟩ := h
  obtain ⟨g', k1, k2⟩ := h'
  obtain rfl := h2 g' k1
  exact ⟨_, rfl, k1, k2⟩
/-- what the operation j has written into a block that was there -/
def OutV (own : Nat → Option Nat) (w : World) (g j : Nat) (T : TypeId) (X : Array Value) : Prop := own g = some j ∧ w.heap[g]? = some (.cells X T (0, 0))
theorem OutV.stable {g j : Nat} {T : TypeId} {X : Array Value} (h : OutV own w g j T X) (r : Rel mk i own w own' w') (hi : i ≠ j) : OutV own' w' g j T X := by
  obtain ⟨h1, h3⟩ := h
  have hg := (Array.getElem?_eq_some_iff.1 h3).1
  exact ⟨(r.owns g hg).trans h1, (r.keep g hg (by rw [h1]; intro e; exact hi (Option.some.inj e).symm)).trans h3⟩
/-- a block that nothing writes -/
def FreeV (own : Nat → Option Nat) (w : World) (v : Value) (T : TypeId) (X : Array Value) : Prop := ∃ g, v = .pointer (some ⟨g, 0, none⟩) ∧ own g = none ∧ w.heap[g]? = some (.cells X T (0, 0))
theorem FreeV.stable {v : Value} {T : TypeId} {X : Array Value} (h : FreeV own w v T X) (r : Rel mk i own w own' w') : FreeV own' w' v T X := by
  obtain ⟨g, rfl, h1, h3⟩ := h
  have hg := (Array.getElem?_eq_some_iff.1 h3).1
  exact ⟨g, rfl, (r.owns g hg).trans h1, (r.keep g hg (by rw [h1]; simp)).trans h3⟩
end
theorem showsO_alloc {mk own0 own : Nat → Option Nat} {w0 w : World} {P : Program} {Q : Exit → Act → World → Prop} {V : Nat → Value → (Nat → Option Nat) → World → Prop} {i : Nat} {o : Oper} {a : Act} (hs : Since own0 w0 own w) (hfr : ∀ j, mk j = some i → ∀ k, own k ≠ some j) {d : Nat} (hd : o.dst = some d)
    (cs : Array Value) (T : TypeId) (j : Nat) (hj : mk j = some i) (hr : (execOp a.eval o).run P w = .ok (.value (.pointer (some ⟨w.heap.size, 0, none⟩))) (w.alloc (.cells cs T)))
    (hv : AllocV (ownNew own w.heap.size j) (w.alloc (.cells cs T)) (.pointer (some ⟨w.heap.size, 0, none⟩)) j T cs.size → V i (.pointer (some ⟨w.heap.size, 0, none⟩)) (ownNew own w.heap.size j) (w.alloc (.cells cs T))) : ShowsO mk P Q V i o a own w := by
  refine showsO_run hd _ hr (ownNew own w.heap.size j) (Rel.alloc hs _ j hj) (hv ⟨_, rfl, ownNew_at _ _ _, fun k hk => ?_, cs, heap_alloc_new _ _, rfl⟩)
  unfold ownNew at hk
  split at hk
  · assumption
  · exact absurd hk (hfr j hj k)
theorem showsO_store_alloc {mk own0 own : Nat → Option Nat} {w0 w : World} {P : Program} {Q : Exit → Act → World → Prop} {V : Nat → Value → (Nat → Option Nat) → World → Prop} {i : Nat} {o : Oper} {a : Act} (hs0 : Since own0 w0 own w) (hd : o.dst = none) (ty : TypeId) (x y : Operand) (ho : o.op = .store ty x y)
    {T : TypeId} {n : Nat} (hx : AllocV own w (a.eval x) i T n) (cs' : Array Value) (hy : a.eval y = .agg cs') (hi : (P.info? ty).map (·.size) = some cs'.size) (hs : n = cs'.size) (h1 : cs'.all (·.oneCell') = true)
    (hv : ∀ w', StoredV own w' i T cs' → V i undef own w') : ShowsO mk P Q V i o a own w := by
  obtain ⟨g, e, h2, _, cs, h3, h4⟩ := hx
  exact showsO_store_row hs0 hd ty x y ho g cs' e hy h3 hi (h4.trans hs) h1 h2 (hv _ ⟨g, h2, setRow_heap _ _ _ _ _ _ h3⟩)
theorem showsO_store_out {mk own0 own : Nat → Option Nat} {w0 w : World} {P : Program} {Q : Exit → Act → World → Prop} {V : Nat → Value → (Nat → Option Nat) → World → Prop} {i : Nat} {o : Oper} {a : Act} (hs0 : Since own0 w0 own w) (hd : o.dst = none) (ty : TypeId) (x y : Operand) (ho : o.op = .store ty x y)
    (g : Nat) (hx : a.eval x = .pointer (some ⟨g, 0, none⟩)) {T : TypeId} {cs : Array Value} (hg : w0.heap[g]? = some (.cells cs T (0, 0))) (how : own0 g = some i) (cs' : Array Value) (hy : a.eval y = .agg cs') (hi : (P.info? ty).map (·.size) = some cs'.size) (hs : cs.size = cs'.size) (h1 : cs'.all (·.oneCell') = true)
    (hv : ∀ w', OutV own w' g i T cs' → V i undef own w') : ShowsO mk P Q V i o a own w := by
  obtain ⟨c', k1, k2⟩ := hs0.kind _ _ _ _ hg
  have h2 : own g = some i := (hs0.owns g (Array.getElem?_eq_some_iff.1 hg).1).trans how
  exact showsO_store_row hs0 hd ty x y ho g cs' hx hy k1 hi (k2.trans hs) h1 h2 (hv _ ⟨h2, setRow_heap _ _ _ _ _ _ k1⟩)
/-! the frame behind a region -/
def Vals (t : Array Value) : List (Nat × Value) → Prop
  | [] => True
  | p :: r => t.getD p.1 undef = p.2 ∧ Vals t r
theorem fold_frame {ft : Array Value} : ∀ (ds : List (Nat × Value)) (t : Array Value), t.size = ft.size → Vals ft ds → (∀ s, (∀ p ∈ ds, p.1 ≠ s) → ft.getD s undef = t.getD s undef) →
    ft = ds.foldl (fun t p => t.setIfInBounds p.1 p.2) t
  | [], t, hs, _, h => by
    apply Array.ext hs.symm
    intro i h1 h2
    have := h i (fun p hp => by cases hp)
    simpa [h1, h2] using this
  | p :: r, t, hs, hv, h => by
    refine fold_frame r (t.setIfInBounds p.1 p.2) (by simpa using hs) hv.2 fun s hr => ?_
    by_cases hps : p.1 = s
    · subst hps
      rw [hv.1]
      by_cases hl : p.1 < t.size
      · simp [hl]
      · have e1 : ft.getD p.1 undef = undef := by simp [hs ▸ hl]
        have e2 : (t.setIfInBounds p.1 p.2).getD p.1 undef = undef := by simp [hl]
        rw [e2, ← hv.1, e1]
    · rw [h s (fun q hq => by
        rcases List.mem_cons.1 hq with rfl | hq
        · exact hps
        · exact hr q hq)]
      simp [Array.getD_eq_getD_getElem?, Array.getElem?_setIfInBounds_ne hps]
theorem frame_eq {ops : Array Oper} {a0 f : Act} (hs : Same ops a0 f) (ds : List (Nat × Value)) (hc : (ops.all fun o => match o.dst with | some d => ds.any (fun p => p.1 == d) | none => true) = true) (hv : Vals f.tmps ds) :
    f = ⟨ds.foldl (fun t p => t.setIfInBounds p.1 p.2) a0.tmps, a0.defers⟩ := by
  have h1 : f.tmps = ds.foldl (fun t p => t.setIfInBounds p.1 p.2) a0.tmps := fold_frame ds a0.tmps hs.size.symm hv fun s hn => by
    refine hs.slot s fun i o hi hd => ?_
    have hm := Array.all_eq_true_iff_forall_mem.1 hc o (Array.mem_of_getElem? hi)
    rw [hd] at hm
    obtain ⟨p, hp, he⟩ := List.any_eq_true.1 hm
    exact hn p hp (by simpa using he)
  cases f
  simp only at h1
  rw [h1]
  congr 1
  exact hs.defers
end Go.Proofs.YtdepmjgibenejaaDoor
