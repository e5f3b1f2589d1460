/- Rows that a call makes inside a drawn region, for an append of the same region. XOwn4's law, where what an operation laid down need hold only till another one is done (a row that a call makes and an append of the same region extends). append(append([]T{}, p...), x) in a region that draws. XInv's law for regions of whose operations some are not wanted. -/
import Derived.Test.YtgbafjmklefoiaaDoorOwn4
import Derived.Test.YtgbafjmklefoiaaDoorG6
section
namespace Go.Proofs.YtgbafjmklefoiaaDoor
open Go.RowKit
/-- a row of the region's own that the operation j is going to append to -/
def RowV (own : Nat → Option Nat) (w : World) (v : Value) (j base : Nat) (e : TypeId) (size n : Nat) (xs : List Value) : Prop :=
  w.ownsRow base e size v n xs ∧ ∀ k, v.ownBlock = some k → own k = some j
theorem RowV.stable {mk own own' : Nat → Option Nat} {w w' : World} {i j base : Nat} {e : TypeId} {size n : Nat} {v : Value} {xs : List Value} (h : RowV own w v j base e size n xs) (r : Rel mk i own w own' w') (hij : i ≠ j) : RowV own' w' v j base e size n xs := by
  obtain ⟨h1, h2⟩ := h
  refine ⟨ownsRow_keep' h1 fun g hg => r.keep g (ownsRow_lt h1 g hg) ?_, fun k hk => ?_⟩
  · rw [h2 g hg]
    intro e; exact hij (Option.some.inj e).symm
  · rw [r.owns k (ownsRow_lt h1 k hk)]
    exact h2 k hk
/-- what a call makes is given to the operation j -/
theorem showsO_callRow {mk own0 own : Nat → Option Nat} {w0 w : World} {P : Program} {Q : Exit → Act → World → Prop} {V : Nat → Value → (Nat → Option Nat) → World → Prop} {i : Nat} {o : Oper} {a : Act} (hs : Since own0 w0 own w) {d : Nat} (hdst : o.dst = some d) (f : FuncId) (vs : Array Value)
    (hr : (execOp a.eval o).run P w = .ok (.enter f vs) w) (j : Nat) (hj : mk j = some i) (base : Nat) (e : TypeId) (size n : Nat) (xs : List Value) (hb : base ≤ w.heap.size)
    (hc : Calls P f vs w fun x w' => ∃ v, x = .returned v ∧ w'.ownsRow w.heap.size e size v n xs ∧ Below w.heap.size w w')
    (hv : ∀ v w' own', RowV own' w' v j base e size n xs → V i v own' w') : ShowsO mk P Q V i o a own w := by
  intro K hK
  unfold Oper.wp
  rw [hr, Oper.upon_enter]
  refine hc.mono ?_
  rintro x w' ⟨v, rfl, h1, hbl⟩
  have hfr := fun k hk => ownsRow_fresh h1 k hk
  refine hK v w' (fun k => if v.ownBlock = some k then some j else own k) (by unfold laid; rw [hdst]; exact hv v w' _ ⟨ownsRow_mono h1 hb, fun k hk => if_pos hk⟩) ⟨hbl.os, hbl.tape, hbl.output, hbl.size, fun k hk => ?_, fun k hk _ => hbl.block k hk, fun k c t fr hc => ⟨c, (hbl.block k (Array.getElem?_eq_some_iff.1 hc).1).trans hc, rfl⟩, fun k j' hk ho => ?_, fun k hk => ?_⟩
  · exact if_neg fun e => by have := hfr k e; omega
  · split at ho
    · cases ho; exact hj
    · rw [hs.top k hk] at ho; cases ho
  · have hn : ¬ v.ownBlock = some k := fun e => by have := ownsRow_lt h1 k e; omega
    show (if v.ownBlock = some k then some j else own k) = none
    rw [if_neg hn]
    exact hs.top k (Nat.le_trans hbl.size hk)
/-- append to a row that was made in this region -/
theorem showsO_appendRow {mk own0 own : Nat → Option Nat} {w0 w : World} {P : Program} {Q : Exit → Act → World → Prop} {V : Nat → Value → (Nat → Option Nat) → World → Prop} {i : Nat} {o : Oper} {a : Act} (hs0 : Since own0 w0 own w) {d : Nat} (hd : o.dst = some d) (s x : Operand) (t : TypeId)
    (ho : o.op = .call { callee := .builtin .append, args := #[s, x], argTypes := #[t, t] })
    (base : Nat) (e : TypeId) (i' : TypeInfo) (z : Value) (size bytes : Nat) (ht : P.underlying t = some (.slice e)) (hi : P.info? e = some i') (hz : i'.zero = some z)
    (hsize : i'.size = size) (hby : i'.bytes = bytes) (hzs : z.cells.size = size) (hsz : 0 < size)
    (n : Nat) (xs : List Value) (hrow : RowV own w (a.eval s) i base e size n xs)
    {m : Nat} {X : Array Value} {T : TypeId} (hx : BuiltV own w (a.eval x) m T X) (hl : X.size = m * size) (h1 : X.all (·.oneCell') = true)
    (h63 : n + m ≤ maxLen) (hbytes : (n + m) * bytes ≤ 140737488355328) (hbase : base ≤ w0.heap.size)
    (hv : ∀ v' w' own', GrownV own' w' i base e size v' (n + m) (xs ++ X.toList) → V i v' own' w') : ShowsO mk P Q V i o a own w := by
  intro K hK
  obtain ⟨hown', how⟩ := hrow
  obtain ⟨v, hs⟩ : ∃ v, a.eval s = v := ⟨_, rfl⟩
  rw [hs] at hown' how
  obtain ⟨g, hxe, hg0, hg⟩ := hx
  obtain ⟨v', w', hrun, g1, g2⟩ := run_append_two (P := P) (w := w) t o.type base e i' z size bytes ht hi hz hsize hby hzs hsz v n xs hown' ⟨g, 0, none⟩ m m X.toList (by simpa using hl) (fun j u hu => by
      have ea : (⟨g, 0, none⟩ : Addr).add j = ⟨g, j, none⟩ := by unfold Addr.add; by_cases h : j = 0 <;> simp [h]
      rw [ea]
      exact er_cellAt hg j u (by simpa using hu)) (fun u hu => Array.all_eq_true_iff_forall_mem.1 h1 u (by simpa using hu)) h63 hbytes (Nat.le_trans hbase hs0.size)
  obtain ⟨hr, hfr⟩ := Rel.append (mk := mk) hs0 how hown' g1 g2
  unfold Oper.wp
  simp only [execOp, ho, resolve, invoke, builtin, hs, hxe, List.map_toArray, List.map_cons, List.map_nil]
  simp [hrun, Result.andThen]
  exact hK v' w' own (by unfold laid; rw [hd]; exact hv v' w' own ⟨g1, hfr⟩) hr
end Go.Proofs.YtgbafjmklefoiaaDoor
end
section
namespace Go.Proofs.YtgbafjmklefoiaaDoor
open Go.RowKit
/-- what holds of the operations that are done, as long as it need hold -/
def DoneT (till : Nat → Option Nat) (ops : Array Oper) (V : Nat → Value → (Nat → Option Nat) → World → Prop) (b : Array Bool) (a : Act) (own : Nat → Option Nat) (w : World) : Prop :=
  ∀ (i : Nat) o, ops[i]? = some o → b.getD i false = true → (∀ t, till i = some t → b.getD t false = false) → V i (slotOf o a) own w
section
variable {P : Program} {ops : Array Oper} {Q : Exit → Act → World → Prop}
theorem wpAny_own6 (till : Nat → Option Nat) {n : Nat} {a0 : Act} {w0 : World} {mk own0 : Nat → Option Nat} {V : Nat → Value → (Nat → Option Nat) → World → Prop} (hB : invB2 ops n = true) (hn : a0.tmps.size = n)
    (hV : ∀ i j v own w own' w', i ≠ j → depB ops j i = false → till j ≠ some i → V j v own w → Rel mk i own w own' w' → V j v own' w')
    (step : ∀ (i : Nat) o, ops[i]? = some o → ∀ (a : Act) (w : World) (own : Nat → Option Nat), Same ops a0 a → Since own0 w0 own w → (∀ j, mk j = some i → ∀ k, own k ≠ some j) →
      (∀ s : Nat, (∀ (j : Nat) oj, ops[j]? = some oj → oj.dst = some s → (oj.after.any fun e => e.on == i && Region.binds .any e) = true) → a.tmps.getD s undef = a0.tmps.getD s undef) →
      (∀ k, k < w0.heap.size → own0 k = some i → w.heap[k]? = w0.heap[k]?) →
      (∀ e ∈ o.after, Region.binds .any e = true → (till e.on = none ∨ till e.on = some i) → ∀ oj, ops[e.on]? = some oj → V e.on (slotOf oj a) own w) →
      (Region.wanted o (yielded ops a.tmps) = true ∧ ∀ K : Act → World → Prop, (∀ v w' own', V i (laid o v) own' w' → Rel mk i own w own' w' → K (a.put o.dst v) w') → o.wp P a w K Q) ∨ (Region.wanted o (yielded ops a.tmps) = false ∧ V i undef own w))
    (fin : ∀ (a : Act) (w : World) own, Same ops a0 a → Since own0 w0 own w → (∀ (i : Nat) o, ops[i]? = some o → till i = none → V i (slotOf o a) own w) → Q .normal a w) :
    ∀ (fuel : Nat) (b : Array Bool) (a : Act) (w : World) own, b.size = ops.size → ((List.range ops.size).countP fun i => !b.getD i true) ≤ fuel → Same ops a0 a → Since own0 w0 own w → (∀ j i, mk j = some i → b.getD i false = false → ∀ k, own k ≠ some j) → (∀ (j : Nat) oj, ops[j]? = some oj → b.getD j false = true → ∀ e ∈ oj.after, Region.binds .any e = true → b.getD e.on true = true) → (∀ s : Nat, (∀ (j : Nat) oj, ops[j]? = some oj → oj.dst = some s → b.getD j false = false) → a.tmps.getD s undef = a0.tmps.getD s undef) → (∀ j, b.getD j false = false → ∀ k, k < w0.heap.size → own0 k = some j → w.heap[k]? = w0.heap[k]?) → DoneT till ops V b a own w → wpAny P .any ops Q fuel b a w := by
  have prog : ∀ b : Array Bool, b.size = ops.size → Region.ready .any ops b = [] → ∀ i, i < ops.size → b.getD i true = true := by
    intro b hb hr i
    induction i using Nat.strongRecOn with
    | _ i ih =>
      intro hi
      cases hbi : b.getD i true with
      | true => rfl
      | false =>
        exfalso
        have : i ∈ Region.ready .any ops b := mem_ready.2 ⟨hbi, ops[i], by simp [hi], fun e he hbe => by
          have hlt := (invB2_at hB (i := i) (o := ops[i]) (by simp [hi])).2 e he hbe
          rw [getD_of_lt (by omega) false true]
          exact ih _ hlt (by omega)⟩
        rw [hr] at this
        cases this
  have finish : ∀ b a w own, b.size = ops.size → Region.ready .any ops b = [] → Same ops a0 a → Since own0 w0 own w → DoneT till ops V b a own w → Q .normal a w := by
    intro b a w own hb hr hs hbw hd
    refine fin a w own hs hbw fun i o ho ht => hd i o ho ?_ (fun t h => by rw [ht] at h; cases h)
    have hlt : i < ops.size := (Array.getElem?_eq_some_iff.1 ho).1
    rw [getD_of_lt (by omega) false true]
    exact prog b hb hr i hlt
  intro fuel
  induction fuel with
  | zero =>
    intro b a w own hb hc hs hbw hfr hcl hla hke hd
    have hall : ∀ i, i < ops.size → b.getD i true = true := by
      intro i hi
      cases hbi : b.getD i true with
      | true => rfl
      | false =>
        exfalso
        have : 0 < (List.range ops.size).countP fun i => !b.getD i true := List.countP_pos_iff.2 ⟨i, List.mem_range.2 hi, by simp only [hbi]; rfl⟩
        omega
    have hr : Region.ready .any ops b = [] := by
      rw [List.eq_nil_iff_forall_not_mem]
      intro j hj
      obtain ⟨h1, o, ho, _⟩ := mem_ready.1 hj
      rw [hall j (Array.getElem?_eq_some_iff.1 ho).1] at h1
      cases h1
    exact ⟨hr, finish b a w own hb hr hs hbw hd⟩
  | succ fuel ih =>
    intro b a w own hb hc hs hbw hfr hcl hla hke hd
    refine ⟨fun hr => finish b a w own hb hr hs hbw hd, fun i hi => ?_⟩
    obtain ⟨h1, o, ho, hall⟩ := mem_ready.1 hi
    have hlt : i < ops.size := (Array.getElem?_eq_some_iff.1 ho).1
    have hD := (invB2_at hB ho).1
    have hst := step i o ho a w own hs hbw (fun j hj => hfr j i hj (by rw [getD_of_lt (by omega) false true]; exact h1)) (fun s hs' => hla s fun j oj hoj hdj => by
      cases hbj : b.getD j false with
      | false => rfl
      | true =>
        obtain ⟨q, hq, h3⟩ := Array.any_eq_true.1 (hs' j oj hoj hdj)
        simp only [Bool.and_eq_true, beq_iff_eq] at h3
        have := hcl j oj hoj hbj _ (Array.getElem_mem hq) h3.2
        rw [h3.1, h1] at this
        cases this) (hke i (by rw [getD_of_lt (by omega) false true]; exact h1)) (fun e he hbe hte oj hoj => hd _ oj hoj (hall e he hbe) (fun t ht => by
        rcases hte with h | h
        · rw [h] at ht; cases ht
        · rw [h] at ht; cases ht
          rw [getD_of_lt (by omega) false true]; exact h1))
    have cont : ∀ v w' own', V i (laid o v) own' w' → Rel mk i own w own' w' → wpAny P .any ops Q fuel (b.setIfInBounds i true) (a.put o.dst v) w' := ?_
    · unfold wpOp
      rcases hst with ⟨hw, hK⟩ | ⟨hw, hv⟩
      · simp only [ho, hw, if_true]
        exact .inl (hK _ cont)
      · simp only [ho, hw, Bool.false_eq_true, if_false]
        exact cont undef w own (by unfold laid; cases o.dst <;> exact hv) (Rel.same mk i hbw)
    intro v w' own' hv hr'
    have hslot : ∀ s, o.dst ≠ some s → (a.put o.dst v).tmps.getD s undef = a.tmps.getD s undef := fun s hs => by
      cases hdst : o.dst with
      | none => rfl
      | some d =>
        have hsd : d ≠ s := fun e => hs (by rw [hdst, e])
        simp [Act.put, Array.getD_eq_getD_getElem?, Array.getElem?_setIfInBounds_ne hsd]
    have hps : (a.put o.dst v).tmps.size = a.tmps.size := by cases hdst : o.dst <;> simp [Act.put]
    have hpd : (a.put o.dst v).defers = a.defers := by cases hdst : o.dst <;> simp [Act.put]
    refine ih (b.setIfInBounds i true) (a.put o.dst v) w' own' (by simpa using hb) ?_ ⟨hpd.trans hs.defers, hps.trans hs.size, fun s hsd => ?_⟩ (hbw.step hr') ?_ ?_ ?_ ?_ ?_
    · have := cnt_lt (List.range ops.size) i (List.mem_range.2 hlt) (fun j => !b.getD j true) (fun j => !(b.setIfInBounds i true).getD j true) (fun x hx => by
        by_cases hxi : x = i
        · subst hxi; simp [h1]
        · rwa [getD_set_ne true (Ne.symm hxi)] at hx) (by simp only [h1]; rfl) (by simp [hb ▸ hlt])
      omega
    · rw [hslot s (hsd i o ho)]
      exact hs.slot s hsd
    · intro j i' hj hbi k ho
      by_cases hii : i' = i
      · subst hii
        rw [show (b.setIfInBounds i' true).getD i' false = true by simp [hb ▸ hlt]] at hbi
        cases hbi
      · rcases Nat.lt_or_ge k w.heap.size with hk | hk
        · exact hfr j i' hj (by rwa [getD_set_ne false (Ne.symm hii)] at hbi) k ((hr'.owns k hk).symm.trans ho)
        · exact hii (Option.some.inj (hj.symm.trans (hr'.fresh k j hk ho)))
    · intro j oj hoj hbj e he hbe
      by_cases hji : j = i
      · subst hji
        rw [ho] at hoj
        cases hoj
        have h5 := hall e he hbe
        have h6 : e.on ≠ j := fun h => by
          have := (invB2_at hB ho).2 e he hbe
          omega
        rw [getD_set_ne true (Ne.symm h6)]
        rcases Nat.lt_or_ge e.on b.size with h | h
        · rw [getD_of_lt h true false]; exact h5
        · simp [h]
      · rw [getD_set_ne false (Ne.symm hji)] at hbj
        have h5 := hcl j oj hoj hbj e he hbe
        by_cases h6 : e.on = i
        · rw [h6]; simp [hb ▸ hlt]
        · rw [getD_set_ne true (Ne.symm h6)]; exact h5
    · intro s hs'
      have h5 : o.dst ≠ some s := fun h => by
        have := hs' i o ho h
        rw [show (b.setIfInBounds i true).getD i false = true by simp [hb ▸ hlt]] at this
        cases this
      rw [hslot s h5]
      refine hla s fun j oj hoj hdj => ?_
      have h6 := hs' j oj hoj hdj
      have h7 : j ≠ i := fun h => by
        subst h
        rw [ho] at hoj
        cases hoj
        exact h5 hdj
      rwa [getD_set_ne false (Ne.symm h7)] at h6
    · intro j hbj k hk hok
      by_cases hji : j = i
      · subst hji
        rw [show (b.setIfInBounds j true).getD j false = true by simp [hb ▸ hlt]] at hbj
        cases hbj
      · rw [getD_set_ne false (Ne.symm hji)] at hbj
        rw [hr'.keep k (Nat.lt_of_lt_of_le hk hbw.size) (by rw [hbw.owns k hk, hok]; intro e; exact hji (Option.some.inj e))]
        exact hke j hbj k hk hok
    · intro j oj hoj hbj hbt
      by_cases hji : j = i
      · subst hji
        rw [ho] at hoj
        cases hoj
        have : slotOf o (a.put o.dst v) = laid o v := by
          unfold slotOf laid
          cases hdst : o.dst with
          | none => rfl
          | some d =>
            have hdn := (hD d hdst).1
            simp [Act.put, hs.size, hn, hdn]
        rw [this]
        exact hv
      · have hsl : slotOf oj (a.put o.dst v) = slotOf oj a := by
          unfold slotOf
          cases hdj : oj.dst with
          | none => rfl
          | some dj =>
            refine hslot dj (fun e => ?_)
            rcases Nat.lt_or_ge j i with h | h
            · exact (hD dj e).2 j oj h hoj hdj
            · exact ((invB2_at hB hoj).1 dj hdj).2 i o (by omega) ho e
        rw [hsl]
        have hbj' : b.getD j false = true := by rwa [getD_set_ne false (Ne.symm hji)] at hbj
        have hti : till j ≠ some i := fun h => by
          have := hbt i h
          rw [show (b.setIfInBounds i true).getD i false = true by simp [hb ▸ hlt]] at this
          cases this
        have hbt' : ∀ t, till j = some t → b.getD t false = false := fun t ht => by
          have h8 := hbt t ht
          have h9 : t ≠ i := fun e => hti (e ▸ ht)
          rwa [getD_set_ne false (Ne.symm h9)] at h8
        refine hV i j _ _ _ _ _ (Ne.symm hji) ?_ hti (hd j oj hoj hbj' hbt') hr'
        unfold depB
        rw [hoj, Bool.eq_false_iff]
        intro hx
        obtain ⟨q, hq, h3⟩ := Array.any_eq_true.1 hx
        simp only [Bool.and_eq_true, beq_iff_eq] at h3
        have := hcl j oj hoj hbj' _ (Array.getElem_mem hq) h3.2
        rw [h3.1, h1] at this
        cases this
/-- THE LAW -/
theorem wp_region_own6 (till : Nat → Option Nat) {id n : Nat} {a0 : Act} {w0 : World} (mk own0 : Nat → Option Nat) (V : Nat → Value → (Nat → Option Nat) → World → Prop) (hm : P.follows .mixedOrders = true) (hB : invB2 ops n = true) (hn : a0.tmps.size = n) (htop : ∀ k, w0.heap.size ≤ k → own0 k = none) (hmk : ∀ j i, mk j = some i → ∀ k, own0 k ≠ some j)
    (hV : ∀ i j v own w own' w', i ≠ j → depB ops j i = false → till j ≠ some i → V j v own w → Rel mk i own w own' w' → V j v own' w')
    (step : ∀ (i : Nat) o, ops[i]? = some o → ∀ (a : Act) (w : World) (own : Nat → Option Nat), Same ops a0 a → Since own0 w0 own w → (∀ j, mk j = some i → ∀ k, own k ≠ some j) →
      (∀ s : Nat, (∀ (j : Nat) oj, ops[j]? = some oj → oj.dst = some s → (oj.after.any fun e => e.on == i && Region.binds .any e) = true) → a.tmps.getD s undef = a0.tmps.getD s undef) →
      (∀ k, k < w0.heap.size → own0 k = some i → w.heap[k]? = w0.heap[k]?) →
      (∀ e ∈ o.after, Region.binds .any e = true → (till e.on = none ∨ till e.on = some i) → ∀ oj, ops[e.on]? = some oj → V e.on (slotOf oj a) own w) →
      (Region.wanted o (yielded ops a.tmps) = true ∧ ∀ K : Act → World → Prop, (∀ v w' own', V i (laid o v) own' w' → Rel mk i own w own' w' → K (a.put o.dst v) w') → o.wp P a w K Q) ∨ (Region.wanted o (yielded ops a.tmps) = false ∧ V i undef own w))
    (fin : ∀ (a : Act) (w : World) own, Same ops a0 a → Since own0 w0 own w → (∀ (i : Nat) o, ops[i]? = some o → till i = none → V i (slotOf o a) own w) → Q .normal a w) :
    (Code.region id ops true).wp P Q a0 w0 := by
  refine wp_region_any hm (wpAny_own6 till hB hn hV step fin ops.size _ a0 _ own0 (by simp) ?_ ⟨rfl, rfl, fun _ _ => rfl⟩ ⟨rfl, rfl, rfl, Nat.le_refl _, fun _ _ => rfl, fun _ _ _ => rfl, fun _ c _ _ h => ⟨c, h, rfl⟩, htop⟩ (fun j i hj _ => hmk j i hj) (fun j oj hoj hbj => ?_) (fun _ _ => rfl) (fun _ _ _ _ _ => rfl) ?_)
  · exact Nat.le_trans (List.countP_le_length) (by simp)
  · have hlt : j < ops.size := (Array.getElem?_eq_some_iff.1 hoj).1
    simp [hlt] at hbj
  · intro i o ho hb _
    have hlt : i < ops.size := (Array.getElem?_eq_some_iff.1 ho).1
    simp [hlt] at hb
end
theorem depT {till : Nat → Option Nat} {ops : Array Oper} {V : Nat → Value → (Nat → Option Nat) → World → Prop} {o : Oper} {a : Act} {own : Nat → Option Nat} {w : World} {i : Nat}
    (h : ∀ e ∈ o.after, Region.binds .any e = true → (till e.on = none ∨ till e.on = some i) → ∀ oj, ops[e.on]? = some oj → V e.on (slotOf oj a) own w) (j d : Nat)
    (hj : (o.after.any fun e => e.on == j && Region.binds .any e) = true) (hjd : (ops[j]?).bind (·.dst) = some d) (ht : till j = none ∨ till j = some i) : V j (a.tmps.getD d undef) own w := by
  obtain ⟨oj, ho, hd⟩ := Option.bind_eq_some_iff.1 hjd
  obtain ⟨q, hq, h1⟩ := Array.any_eq_true.1 hj
  simp only [Bool.and_eq_true, beq_iff_eq] at h1
  obtain ⟨h0, h2⟩ := h1
  have := h _ (Array.getElem_mem hq) h2 (by rw [h0]; exact ht) oj (h0 ▸ ho)
  rw [h0] at this
  unfold slotOf at this
  rwa [hd] at this
theorem finT {till : Nat → Option Nat} {ops : Array Oper} {V : Nat → Value → (Nat → Option Nat) → World → Prop} {a : Act} {own : Nat → Option Nat} {w : World} (h : ∀ (i : Nat) o, ops[i]? = some o → till i = none → V i (slotOf o a) own w) (j d : Nat)
    (hjd : (ops[j]?).bind (·.dst) = some d) (ht : till j = none) : V j (a.tmps.getD d undef) own w := by
  obtain ⟨oj, ho, hd⟩ := Option.bind_eq_some_iff.1 hjd
  have := h j oj ho ht
  unfold slotOf at this
  rwa [hd] at this
end Go.Proofs.YtgbafjmklefoiaaDoor
end
section
namespace Go.Proofs.YtgbafjmklefoiaaDoor
open Go.RowKit
/-- a row that the operation j is going to append to: its block is j's, or it has no room at all -/
def RowC (own : Nat → Option Nat) (w : World) (v : Value) (j base : Nat) (e : TypeId) (size n : Nat) (xs : List Value) : Prop :=
  w.ownsRow base e size v n xs ∧ ∀ k, v.ownBlock = some k → own k = some j ∨ (own k = none ∧ v = .slice (some ⟨k, 0, none⟩) 0 0)
theorem RowC.stable {mk own own' : Nat → Option Nat} {w w' : World} {i j base : Nat} {e : TypeId} {size n : Nat} {v : Value} {xs : List Value} (h : RowC own w v j base e size n xs) (r : Rel mk i own w own' w') (hij : i ≠ j) : RowC own' w' v j base e size n xs := by
  obtain ⟨h1, h2⟩ := h
  refine ⟨ownsRow_keep' h1 fun g hg => r.keep g (ownsRow_lt h1 g hg) ?_, fun k hk => ?_⟩
  · rcases h2 g hg with h | ⟨h, _⟩ <;> rw [h]
    · intro e; exact hij (Option.some.inj e).symm
    · simp
  · rw [r.owns k (ownsRow_lt h1 k hk)]
    exact h2 k hk
/-- append to a slice that has no room: what is new is the operation j's -/
theorem showsO_appendFirst {mk own0 own : Nat → Option Nat} {w0 w : World} {P : Program} {Q : Exit → Act → World → Prop} {V : Nat → Value → (Nat → Option Nat) → World → Prop} {i : Nat} {o : Oper} {a : Act} (hs0 : Since own0 w0 own w) {d : Nat} (hd : o.dst = some d) (s x : Operand) (t : TypeId)
    (ho : o.op = .call { callee := .builtin .append, args := #[s, x], argTypes := #[t, t] }) (j : Nat) (hj : mk j = some i)
    (e : TypeId) (i' : TypeInfo) (z : Value) (size bytes : Nat) (ht : P.underlying t = some (.slice e)) (hi : P.info? e = some i') (hz : i'.zero = some z)
    (hsize : i'.size = size) (hby : i'.bytes = bytes) (hzs : z.cells.size = size) (hsz : 0 < size)
    (hrow : BuiltV own w (a.eval s) 0 e #[])
    (xa : Option Addr) (m c : Nat) (news : List Value) (hx : a.eval x = .slice xa m c) (hnil : xa = none → c = 0 ∧ m = 0) (hl : news.length = m * size)
    (hnews : ∀ ad, xa = some ad → ∀ j u, news[j]? = some u → w.cell? (ad.add j) = some u) (h1 : ∀ u ∈ news, u.oneCell' = true)
    (h63 : m ≤ maxLen) (hbytes : m * bytes ≤ 140737488355328)
    (hv : ∀ v' w' own', RowC own' w' v' j 0 e size m news → V i v' own' w') : ShowsO mk P Q V i o a own w := by
  intro K hK
  obtain ⟨v, hs⟩ : ∃ v, a.eval s = v := ⟨_, rfl⟩
  rw [hs] at hrow
  obtain ⟨g, rfl, hg0, hg⟩ := hrow
  have hgl := (Array.getElem?_eq_some_iff.1 hg).1
  have hown : w.ownsRow 0 e size (.slice (some ⟨g, 0, none⟩) 0 0) 0 [] := ⟨by simp, .inr ⟨g, 0, #[], rfl, Nat.zero_le _, hg, Nat.le_refl _, Nat.zero_le _, by simp, by simp⟩⟩
  obtain ⟨v', w', hrun, g1, hbl, g2⟩ : ∃ v' w', (Builtin.append_ #[t, t] o.type #[.slice (some ⟨g, 0, none⟩) 0 0, .slice xa m c]).run P w = .ok v' w' ∧ w'.ownsRow 0 e size v' m news ∧ Below w.heap.size w w' ∧ (v' = .slice (some ⟨g, 0, none⟩) 0 0 ∨ ∀ k, v'.ownBlock = some k → w.heap.size ≤ k) := by
    cases xa with
    | none =>
      obtain ⟨rfl, rfl⟩ := hnil rfl
      have hn : news = [] := List.length_eq_zero_iff.1 (by simpa using hl)
      subst hn
      exact ⟨_, w, run_append_owned_none (P := P) (w := w) 0 t o.type e i' size ht hi _ 0 [] hown, hown, Below.refl _ _, .inl rfl⟩
    | some ad =>
      by_cases hm : m = 0
      · subst hm
        have hn : news = [] := List.length_eq_zero_iff.1 (by simpa using hl)
        subst hn
        obtain ⟨w', a1, a2, a3⟩ := run_append_fits (P := P) w 0 t o.type e i' size ht hi hsize g 0 0 [] hown ad 0 c [] (by simp) (fun j u h => by simp at h) (fun u h => by cases h) (Nat.le_refl _)
        refine ⟨_, w', a1, a2, ⟨a3.os, a3.tape, a3.output, a3.size, fun k hk => ?_⟩, .inl rfl⟩
        by_cases hkg : k = g
        · subst hkg
          rcases a2.2 with ⟨h0, _⟩ | ⟨g', cap, cur, e1, _, hg', _, _, hcs, _⟩
          · cases h0
          · cases e1
            have hc : cur = #[] := Array.eq_empty_of_size_eq_zero (by simpa using hcs)
            subst hc
            rw [hg', hg]
        · exact a3.block k hk (fun h => hkg (Option.some.inj h))
      · obtain ⟨v', w', a1, a2, a3⟩ := run_append_arg_grows (P := P) w t o.type e i' z size bytes ht hi hz hsize hby hzs hsz ⟨g, 0, none⟩ 0 0 [] hown.1 (hown.cells (g := g) rfl) ad m c news hl (hnews ad rfl) (by omega) (by omega) (by rw [Nat.zero_add]; exact hbytes)
        rw [Nat.zero_add] at a2
        exact ⟨v', w', a1, ownsRow_mono a2 (Nat.zero_le _), ⟨a3.os, a3.tape, a3.output, a3.size, fun k hk => a3.block k hk (by simp)⟩, .inr (ownsRow_fresh a2)⟩
  unfold Oper.wp
  simp only [execOp, ho, resolve, invoke, builtin, hs, hx, List.map_toArray, List.map_cons, List.map_nil]
  simp [hrun, Result.andThen]
  rcases g2 with rfl | hfr
  · obtain ⟨g1a, g1b⟩ := g1
    refine hK _ w' own (by unfold laid; rw [hd]; exact hv _ w' own ⟨⟨g1a, g1b⟩, fun k hk => by cases hk; exact .inr ⟨hg0, rfl⟩⟩) (Rel.below mk i hs0 hbl)
  · refine hK v' w' (fun k => if v'.ownBlock = some k then some j else own k) (by unfold laid; rw [hd]; exact hv v' w' _ ⟨g1, fun k hk => .inl (if_pos hk)⟩) ⟨hbl.os, hbl.tape, hbl.output, hbl.size, fun k hk => ?_, fun k hk _ => hbl.block k hk, fun k c t fr hc => ⟨c, (hbl.block k (Array.getElem?_eq_some_iff.1 hc).1).trans hc, rfl⟩, fun k j' hk ho => ?_, fun k hk => ?_⟩
    · exact if_neg fun e => by have := hfr k e; omega
    · split at ho
      · cases ho; exact hj
      · rw [hs0.top k hk] at ho; cases ho
    · have hn : ¬ v'.ownBlock = some k := fun e => by have := ownsRow_lt g1 k e; omega
      show (if v'.ownBlock = some k then some j else own k) = none
      rw [if_neg hn]
      exact hs0.top k (Nat.le_trans hbl.size hk)
/-- append to such a row -/
theorem showsO_appendLast {mk own0 own : Nat → Option Nat} {w0 w : World} {P : Program} {Q : Exit → Act → World → Prop} {V : Nat → Value → (Nat → Option Nat) → World → Prop} {i : Nat} {o : Oper} {a : Act} (hs0 : Since own0 w0 own w) {d : Nat} (hd : o.dst = some d) (s x : Operand) (t : TypeId)
    (ho : o.op = .call { callee := .builtin .append, args := #[s, x], argTypes := #[t, t] })
    (e : TypeId) (i' : TypeInfo) (z : Value) (size bytes : Nat) (ht : P.underlying t = some (.slice e)) (hi : P.info? e = some i') (hz : i'.zero = some z)
    (hsize : i'.size = size) (hby : i'.bytes = bytes) (hzs : z.cells.size = size) (hsz : 0 < size)
    (n : Nat) (xs : List Value) (hrow : RowC own w (a.eval s) i 0 e size n xs)
    {m : Nat} {X : Array Value} {T : TypeId} (hx : BuiltV own w (a.eval x) m T X) (hm : 0 < m) (hl : X.size = m * size) (h1 : X.all (·.oneCell') = true)
    (h63 : n + m ≤ maxLen) (hbytes : (n + m) * bytes ≤ 140737488355328)
    (hv : ∀ v' w' own', GrownV own' w' i 0 e size v' (n + m) (xs ++ X.toList) → V i v' own' w') : ShowsO mk P Q V i o a own w := by
  intro K hK
  obtain ⟨hown', how⟩ := hrow
  obtain ⟨v, hs⟩ : ∃ v, a.eval s = v := ⟨_, rfl⟩
  rw [hs] at hown' how
  obtain ⟨g, hxe, hg0, hg⟩ := hx
  obtain ⟨v', w', hrun, g1, g2⟩ := run_append_two (P := P) (w := w) t o.type 0 e i' z size bytes ht hi hz hsize hby hzs hsz v n xs hown' ⟨g, 0, none⟩ m m X.toList (by simpa using hl) (fun j u hu => by
      have ea : (⟨g, 0, none⟩ : Addr).add j = ⟨g, j, none⟩ := by unfold Addr.add; by_cases h : j = 0 <;> simp [h]
      rw [ea]
      exact er_cellAt hg j u (by simpa using hu)) (fun u hu => Array.all_eq_true_iff_forall_mem.1 h1 u (by simpa using hu)) h63 hbytes (Nat.zero_le _)
  have key : Rel mk i own w own w' ∧ ∀ k, v'.ownBlock = some k → own k = some i ∨ own k = none := by
    by_cases hall : ∀ k, v.ownBlock = some k → own k = some i
    · exact Rel.append (mk := mk) hs0 hall hown' g1 g2
    · rcases g2 with ⟨g', cap, rfl, rfl, g3⟩ | ⟨g3, g4⟩
      · exfalso
        refine hall fun k hk => ?_
        rcases how k hk with h | ⟨_, h⟩
        · exact h
        · cases h
          rcases g1.2 with ⟨h0, _⟩ | ⟨_, _, _, e1, _, _, hle, _⟩
          · cases h0
          · cases e1
            omega
      · refine ⟨⟨g3.os, g3.tape, g3.output, g3.size, fun _ _ => rfl, fun k hk _ => g3.block k hk (by simp), fun k c t fr hc => ⟨c, (g3.block k (Array.getElem?_eq_some_iff.1 hc).1 (by simp)).trans hc, rfl⟩, fun k j hk hj => ?_, fun k hk => hs0.top k (Nat.le_trans g3.size hk)⟩, fun k hk => .inr (hs0.top k (g4 k hk))⟩
        rw [hs0.top k hk] at hj; cases hj
  obtain ⟨hr, hfr⟩ := key
  unfold Oper.wp
  simp only [execOp, ho, resolve, invoke, builtin, hs, hxe, List.map_toArray, List.map_cons, List.map_nil]
  simp [hrun, Result.andThen]
  exact hK v' w' own (by unfold laid; rw [hd]; exact hv v' w' own ⟨g1, hfr⟩) hr
end Go.Proofs.YtgbafjmklefoiaaDoor
end
section
namespace Go.Proofs.YtgbafjmklefoiaaDoor
open Go.RowKit
section
variable {P : Program} {ops : Array Oper} {Q : Exit → Act → World → Prop}
theorem wpAny_invU {n : Nat} {a0 : Act} {w0 : World} {V : Nat → Value → World → Prop} (hB : invB ops n = true) (hn : a0.tmps.size = n)
    (hV : ∀ s v w w', V s v w → Below w.heap.size w w' → V s v w')
    (step : ∀ (i : Nat) o, ops[i]? = some o → ∀ (a : Act) (w : World), Same ops a0 a → Below w0.heap.size w0 w →
      (∀ e ∈ o.after, Region.binds .any e = true → ∀ oj d, ops[e.on]? = some oj → oj.dst = some d → V d (a.tmps.getD d undef) w) →
      (Region.wanted o (yielded ops a.tmps) = true ∧ ∀ K : Act → World → Prop, (∀ v w', (∀ d, o.dst = some d → V d v w') → Below w.heap.size w w' → K (a.put o.dst v) w') → o.wp P a w K Q) ∨ (Region.wanted o (yielded ops a.tmps) = false ∧ ∀ d, o.dst = some d → V d undef w))
    (fin : ∀ (a : Act) (w : World), Same ops a0 a → Below w0.heap.size w0 w → (∀ (i : Nat) o d, ops[i]? = some o → o.dst = some d → V d (a.tmps.getD d undef) w) → Q .normal a w) :
    ∀ (fuel : Nat) (b : Array Bool) (a : Act) (w : World), b.size = ops.size → ((List.range ops.size).countP fun i => !b.getD i true) ≤ fuel → Same ops a0 a → Below w0.heap.size w0 w → Done ops V b a w → wpAny P .any ops Q fuel b a w := by
  -- where something is left, something may come
  have prog : ∀ b : Array Bool, b.size = ops.size → Region.ready .any ops b = [] → ∀ i, i < ops.size → b.getD i true = true := by
    intro b hb hr i
    induction i using Nat.strongRecOn with
    | _ i ih =>
      intro hi
      cases hbi : b.getD i true with
      | true => rfl
      | false =>
        exfalso
        have : i ∈ Region.ready .any ops b := mem_ready.2 ⟨hbi, ops[i], by simp [hi], fun e he hbe => by
          have hlt := (invB_at hB (i := i) (o := ops[i]) (by simp [hi])).2 e he hbe
          rw [getD_of_lt (by omega) false true]
          exact ih _ hlt (by omega)⟩
        rw [hr] at this
        cases this
  have finish : ∀ b a w, b.size = ops.size → Region.ready .any ops b = [] → Same ops a0 a → Below w0.heap.size w0 w → Done ops V b a w → Q .normal a w := by
    intro b a w hb hr hs hbw hd
    refine fin a w hs hbw fun i o d ho hdst => hd i o d ho ?_ hdst
    have hlt : i < ops.size := (Array.getElem?_eq_some_iff.1 ho).1
    rw [getD_of_lt (by omega) false true]
    exact prog b hb hr i hlt
  intro fuel
  induction fuel with
  | zero =>
    intro b a w hb hc hs hbw hd
    have hall : ∀ i, i < ops.size → b.getD i true = true := by
      intro i hi
      cases hbi : b.getD i true with
      | true => rfl
      | false =>
        exfalso
        have : 0 < (List.range ops.size).countP fun i => !b.getD i true := List.countP_pos_iff.2 ⟨i, List.mem_range.2 hi, by simp only [hbi]; rfl⟩
        omega
    have hr : Region.ready .any ops b = [] := by
      rw [List.eq_nil_iff_forall_not_mem]
      intro j hj
      obtain ⟨h1, o, ho, _⟩ := mem_ready.1 hj
      rw [hall j (Array.getElem?_eq_some_iff.1 ho).1] at h1
      cases h1
    exact ⟨hr, finish b a w hb hr hs hbw hd⟩
  | succ fuel ih =>
    intro b a w hb hc hs hbw hd
    refine ⟨fun hr => finish b a w hb hr hs hbw hd, fun i hi => ?_⟩
    obtain ⟨h1, o, ho, hall⟩ := mem_ready.1 hi
    have hlt : i < ops.size := (Array.getElem?_eq_some_iff.1 ho).1
    obtain ⟨⟨d, hdst, hdn, hdist⟩, _⟩ := invB_at hB ho
    have hst := step i o ho a w hs hbw (fun e he hbe oj dj hoj hdj => hd _ oj dj hoj (hall e he hbe) hdj)
    have cont : ∀ v w', (∀ d, o.dst = some d → V d v w') → Below w.heap.size w w' → wpAny P .any ops Q fuel (b.setIfInBounds i true) (a.put o.dst v) w' := ?_
    · unfold wpOp
      rcases hst with ⟨hw, hK⟩ | ⟨hw, hv⟩
      · simp only [ho, hw, if_true]
        exact .inl (hK _ cont)
      · simp only [ho, hw, Bool.false_eq_true, if_false]
        exact cont undef w hv (Below.refl _ _)
    intro v w' hv hb'
    have hslot : ∀ s, s ≠ d → (a.put o.dst v).tmps.getD s undef = a.tmps.getD s undef := fun s hs => by
      simp [hdst, Act.put, Array.getD_eq_getD_getElem?, Array.getElem?_setIfInBounds_ne (Ne.symm hs)]
    refine ih (b.setIfInBounds i true) (a.put o.dst v) w' (by simpa using hb) ?_ ⟨?_, ?_, fun s hsd => ?_⟩ (hbw.trans (hb'.mono hbw.size)) ?_
    · have := cnt_lt (List.range ops.size) i (List.mem_range.2 hlt) (fun j => !b.getD j true) (fun j => !(b.setIfInBounds i true).getD j true) (fun x hx => by
        by_cases hxi : x = i
        · subst hxi; simp [h1]
        · rwa [getD_set_ne true (Ne.symm hxi)] at hx) (by simp only [h1]; rfl) (by simp [hb ▸ hlt])
      omega
    · simp [hdst, Act.put, hs.defers]
    · simp [hdst, Act.put, hs.size]
    · rw [hslot s (fun e => hsd i o ho (e ▸ hdst))]
      exact hs.slot s hsd
    · intro j oj dj hoj hbj hdj
      by_cases hji : j = i
      · subst hji
        rw [ho] at hoj
        cases hoj
        rw [hdst] at hdj
        cases hdj
        have : (a.put o.dst v).tmps.getD d undef = v := by simp [hdst, Act.put, hs.size, hn, hdn]
        rw [this]
        exact hv d hdst
      · have hne : dj ≠ d := by
          intro e
          subst e
          rcases Nat.lt_or_ge j i with h | h
          · exact hdist j oj h hoj hdj
          · obtain ⟨⟨d', hd', _, hdist'⟩, _⟩ := invB_at hB hoj
            rw [hdj] at hd'
            cases hd'
            exact hdist' i o (by omega) ho hdst
        rw [hslot dj hne]
        refine hV _ _ _ _ (hd j oj dj hoj ?_ hdj) hb'
        rwa [getD_set_ne false (Ne.symm hji)] at hbj
/-- THE LAW -/
theorem wp_region_invU {id n : Nat} {a0 : Act} {w0 : World} (V : Nat → Value → World → Prop) (hm : P.follows .mixedOrders = true) (hB : invB ops n = true) (hn : a0.tmps.size = n)
    (hV : ∀ s v w w', V s v w → Below w.heap.size w w' → V s v w')
    (step : ∀ (i : Nat) o, ops[i]? = some o → ∀ (a : Act) (w : World), Same ops a0 a → Below w0.heap.size w0 w →
      (∀ e ∈ o.after, Region.binds .any e = true → ∀ oj d, ops[e.on]? = some oj → oj.dst = some d → V d (a.tmps.getD d undef) w) →
      (Region.wanted o (yielded ops a.tmps) = true ∧ ∀ K : Act → World → Prop, (∀ v w', (∀ d, o.dst = some d → V d v w') → Below w.heap.size w w' → K (a.put o.dst v) w') → o.wp P a w K Q) ∨ (Region.wanted o (yielded ops a.tmps) = false ∧ ∀ d, o.dst = some d → V d undef w))
    (fin : ∀ (a : Act) (w : World), Same ops a0 a → Below w0.heap.size w0 w → (∀ (i : Nat) o d, ops[i]? = some o → o.dst = some d → V d (a.tmps.getD d undef) w) → Q .normal a w) :
    (Code.region id ops true).wp P Q a0 w0 := by
  refine wp_region_any hm (wpAny_invU hB hn hV step fin ops.size _ a0 _ (by simp) ?_ ⟨rfl, rfl, fun _ _ => rfl⟩ ⟨rfl, rfl, rfl, Nat.le_refl _, fun _ _ => rfl⟩ ?_)
  · exact Nat.le_trans (List.countP_le_length) (by simp)
  · intro i o d ho hb
    have hlt : i < ops.size := (Array.getElem?_eq_some_iff.1 ho).1
    simp [hlt] at hb

theorem unwanted_of {o : Oper} {a : Act} (j : Nat) {d : Nat} {t t' : Bool} (hg : o.guard = some (j, t)) (e : a.tmps.getD d undef = .bool t') (hjd : (ops[j]?).bind (·.dst) = some d) (hne : t' ≠ t) : Region.wanted o (yielded ops a.tmps) = false := by
  obtain ⟨oj, hj, hd⟩ := Option.bind_eq_some_iff.1 hjd
  have h1 : a.tmps[d]? = some (.bool t') := by
    rw [Array.getD_eq_getD_getElem?] at e
    cases h : a.tmps[d]? with
    | none => rw [h] at e; cases e
    | some x => rw [h] at e; simp at e; rw [e]
  cases t <;> cases t' <;> simp_all [Region.wanted, yielded]
end
end Go.Proofs.YtgbafjmklefoiaaDoor
end
