/- XOwn3's law, where some operations may not be wanted, and where what an operation owns stands as it stood till it comes (append in a region that draws). -/
import Derived.Test.YtdepmjgibenejaaDoorOwn3
import Derived.Test.YtdepmjgibenejaaDoorErrC
import Derived.Test.YtdepmjgibenejaaDoorDig
namespace Go.Proofs.YtdepmjgibenejaaDoor
open Go.RowKit
/-- does the operation j wait for i? -/
def depB (ops : Array Oper) (j i : Nat) : Bool := match ops[j]? with | some o => o.after.any fun e => e.on == i && Region.binds .any e | none => false
section
variable {P : Program} {ops : Array Oper} {Q : Exit → Act → World → Prop}
theorem wpAny_own4 {n : Nat} {a0 : Act} {w0 : World} {mk own0 : Nat → Option Nat} {V : Nat → Value → (Nat → Option Nat) → World → Prop} (hB : invB2 ops n = true) (hn : a0.tmps.size = n)
    (hV : ∀ i j v own w own' w', i ≠ j → depB ops j i = false → V j v own w → Rel mk i own w own' w' → V j v own' w')
    (step : ∀ (i : Nat) o, ops[i]? = some o → ∀ (a : Act) (w : World) (own : Nat → Option Nat), Same ops a0 a → Since own0 w0 own w → (∀ j, mk j = some i → ∀ k, own k ≠ some j) →
      (∀ s : Nat, (∀ (j : Nat) oj, ops[j]? = some oj → oj.dst = some s → (oj.after.any fun e => e.on == i && Region.binds .any e) = true) → a.tmps.getD s undef = a0.tmps.getD s undef) →
      (∀ k, k < w0.heap.size → own0 k = some i → w.heap[k]? = w0.heap[k]?) →
      (∀ e ∈ o.after, Region.binds .any e = true → ∀ oj, ops[e.on]? = some oj → V e.on (slotOf oj a) own w) →
      (Region.wanted o (yielded ops a.tmps) = true ∧ ∀ K : Act → World → Prop, (∀ v w' own', V i (laid o v) own' w' → Rel mk i own w own' w' → K (a.put o.dst v) w') → o.wp P a w K Q) ∨ (Region.wanted o (yielded ops a.tmps) = false ∧ V i undef own w))
    (fin : ∀ (a : Act) (w : World) own, Same ops a0 a → Since own0 w0 own w → (∀ (i : Nat) o, ops[i]? = some o → V i (slotOf o a) own w) → Q .normal a w) :
    ∀ (fuel : Nat) (b : Array Bool) (a : Act) (w : World) own, b.size = ops.size → ((List.range ops.size).countP fun i => !b.getD i true) ≤ fuel → Same ops a0 a → Since own0 w0 own w → (∀ j i, mk j = some i → b.getD i false = false → ∀ k, own k ≠ some j) → (∀ (j : Nat) oj, ops[j]? = some oj → b.getD j false = true → ∀ e ∈ oj.after, Region.binds .any e = true → b.getD e.on true = true) → (∀ s : Nat, (∀ (j : Nat) oj, ops[j]? = some oj → oj.dst = some s → b.getD j false = false) → a.tmps.getD s undef = a0.tmps.getD s undef) → (∀ j, b.getD j false = false → ∀ k, k < w0.heap.size → own0 k = some j → w.heap[k]? = w0.heap[k]?) → DoneO ops V b a own w → wpAny P .any ops Q fuel b a w := by
  have prog : ∀ b : Array Bool, b.size = ops.size → Region.ready .any ops b = [] → ∀ i, i < ops.size → b.getD i true = true := by
    intro b hb hr i
    induction i using Nat.strongRecOn with
    | _ i ih =>
      intro hi
      cases hbi : b.getD i true with
      | true => rfl
      | false =>
        exfalso
        have : i ∈ Region.ready .any ops b := mem_ready.2 ⟨hbi, ops[i], by simp [hi], fun e he hbe => by
          have hlt := (invB2_at hB (i := i) (o := ops[i]) (by simp [hi])).2 e he hbe
          rw [getD_of_lt (by omega) false true]
          exact ih _ hlt (by omega)⟩
        rw [hr] at this
        cases this
  have finish : ∀ b a w own, b.size = ops.size → Region.ready .any ops b = [] → Same ops a0 a → Since own0 w0 own w → DoneO ops V b a own w → Q .normal a w := by
    intro b a w own hb hr hs hbw hd
    refine fin a w own hs hbw fun i o ho => hd i o ho ?_
    have hlt : i < ops.size := (Array.getElem?_eq_some_iff.1 ho).1
    rw [getD_of_lt (by omega) false true]
    exact prog b hb hr i hlt
  intro fuel
  induction fuel with
  | zero =>
    intro b a w own hb hc hs hbw hfr hcl hla hke hd
    have hall : ∀ i, i < ops.size → b.getD i true = true := by
      intro i hi
      cases hbi : b.getD i true with
      | true => rfl
      | false =>
        exfalso
        have : 0 < (List.range ops.size).countP fun i => !b.getD i true := List.countP_pos_iff.2 ⟨i, List.mem_range.2 hi, by simp only [hbi]; rfl⟩
        omega
    have hr : Region.ready .any ops b = [] := by
      rw [List.eq_nil_iff_forall_not_mem]
      intro j hj
      obtain ⟨h1, o, ho, _⟩ := mem_ready.1 hj
      rw [hall j (Array.getElem?_eq_some_iff.1 ho).1] at h1
      cases h1
    exact ⟨hr, finish b a w own hb hr hs hbw hd⟩
  | succ fuel ih =>
    intro b a w own hb hc hs hbw hfr hcl hla hke hd
    refine ⟨fun hr => finish b a w own hb hr hs hbw hd, fun i hi => ?_⟩
    obtain ⟨h1, o, ho, hall⟩ := mem_ready.1 hi
    have hlt : i < ops.size := (Array.getElem?_eq_some_iff.1 ho).1
    have hD := (invB2_at hB ho).1
    have hst := step i o ho a w own hs hbw (fun j hj => hfr j i hj (by rw [getD_of_lt (by omega) false true]; exact h1)) (fun s hs' => hla s fun j oj hoj hdj => by
      cases hbj : b.getD j false with
      | false => rfl
      | true =>
        obtain ⟨q, hq, h3⟩ := Array.any_eq_true.1 (hs' j oj hoj hdj)
        simp only [Bool.and_eq_true, beq_iff_eq] at h3
        have := hcl j oj hoj hbj _ (Array.getElem_mem hq) h3.2
        rw [h3.1, h1] at this
        cases this) (hke i (by rw [getD_of_lt (by omega) false true]; exact h1)) (fun e he hbe oj hoj => hd _ oj hoj (hall e he hbe))
    have cont : ∀ v w' own', V i (laid o v) own' w' → Rel mk i own w own' w' → wpAny P .any ops Q fuel (b.setIfInBounds i true) (a.put o.dst v) w' := ?_
    · unfold wpOp
      rcases hst with ⟨hw, hK⟩ | ⟨hw, hv⟩
      · simp only [ho, hw, if_true]
        exact .inl (hK _ cont)
      · simp only [ho, hw, Bool.false_eq_true, if_false]
        exact cont undef w own (by unfold laid; cases o.dst <;> exact hv) (Rel.same mk i hbw)
    intro v w' own' hv hr'
    have hslot : ∀ s, o.dst ≠ some s → (a.put o.dst v).tmps.getD s undef = a.tmps.getD s undef := fun s hs => by
      cases hdst : o.dst with
      | none => rfl
      | some d =>
        have hsd : d ≠ s := fun e => hs (by rw [hdst, e])
        simp [Act.put, Array.getD_eq_getD_getElem?, Array.getElem?_setIfInBounds_ne hsd]
    have hps : (a.put o.dst v).tmps.size = a.tmps.size := by cases hdst : o.dst <;> simp [Act.put]
    have hpd : (a.put o.dst v).defers = a.defers := by cases hdst : o.dst <;> simp [Act.put]
    refine ih (b.setIfInBounds i true) (a.put o.dst v) w' own' (by simpa using hb) ?_ ⟨hpd.trans hs.defers, hps.trans hs.size, fun s hsd => ?_⟩ (hbw.step hr') ?_ ?_ ?_ ?_ ?_
    · have := cnt_lt (List.range ops.size) i (List.mem_range.2 hlt) (fun j => !b.getD j true) (fun j => !(b.setIfInBounds i true).getD j true) (fun x hx => by
        by_cases hxi : x = i
        · subst hxi; simp [h1]
        · rwa [getD_set_ne true (Ne.symm hxi)] at hx) (by simp only [h1]; rfl) (by simp [hb ▸ hlt])
      omega
    · rw [hslot s (hsd i o ho)]
      exact hs.slot s hsd
    · intro j i' hj hbi k ho
      by_cases hii : i' = i
      · subst hii
        rw [show (b.setIfInBounds i' true).getD i' false = true by simp [hb ▸ hlt]] at hbi
        cases hbi
      · rcases Nat.lt_or_ge k w.heap.size with hk | hk
        · exact hfr j i' hj (by rwa [getD_set_ne false (Ne.symm hii)] at hbi) k ((hr'.owns k hk).symm.trans ho)
        · exact hii (Option.some.inj (hj.symm.trans (hr'.fresh k j hk ho)))
    · intro j oj hoj hbj e he hbe
      by_cases hji : j = i
      · subst hji
        rw [ho] at hoj
        cases hoj
        have h5 := hall e he hbe
        have h6 : e.on ≠ j := fun h => by
          have := (invB2_at hB ho).2 e he hbe
          omega
        rw [getD_set_ne true (Ne.symm h6)]
        rcases Nat.lt_or_ge e.on b.size with h | h
        · rw [getD_of_lt h true false]; exact h5
        · simp [h]
      · rw [getD_set_ne false (Ne.symm hji)] at hbj
        have h5 := hcl j oj hoj hbj e he hbe
        by_cases h6 : e.on = i
        · rw [h6]; simp [hb ▸ hlt]
        · rw [getD_set_ne true (Ne.symm h6)]; exact h5
    · intro s hs'
      have h5 : o.dst ≠ some s := fun h => by
        have := hs' i o ho h
        rw [show (b.setIfInBounds i true).getD i false = true by simp [hb ▸ hlt]] at this
        cases this
      rw [hslot s h5]
      refine hla s fun j oj hoj hdj => ?_
      have h6 := hs' j oj hoj hdj
      have h7 : j ≠ i := fun h => by
        subst h
        rw [ho] at hoj
        cases hoj
        exact h5 hdj
      rwa [getD_set_ne false (Ne.symm h7)] at h6
    · intro j hbj k hk hok
      by_cases hji : j = i
      · subst hji
        rw [show (b.setIfInBounds j true).getD j false = true by simp [hb ▸ hlt]] at hbj
        cases hbj
      · rw [getD_set_ne false (Ne.symm hji)] at hbj
        rw [hr'.keep k (Nat.lt_of_lt_of_le hk hbw.size) (by rw [hbw.owns k hk, hok]; intro e; exact hji (Option.some.inj e))]
        exact hke j hbj k hk hok
    · intro j oj hoj hbj
      by_cases hji : j = i
      · subst hji
        rw [ho] at hoj
        cases hoj
        have : slotOf o (a.put o.dst v) = laid o v := by
          unfold slotOf laid
          cases hdst : o.dst with
          | none => rfl
          | some d =>
            have hdn := (hD d hdst).1
            simp [Act.put, hs.size, hn, hdn]
        rw [this]
        exact hv
      · have hsl : slotOf oj (a.put o.dst v) = slotOf oj a := by
          unfold slotOf
          cases hdj : oj.dst with
          | none => rfl
          | some dj =>
            refine hslot dj (fun e => ?_)
            rcases Nat.lt_or_ge j i with h | h
            · exact (hD dj e).2 j oj h hoj hdj
            · exact ((invB2_at hB hoj).1 dj hdj).2 i o (by omega) ho e
        rw [hsl]
        have hbj' : b.getD j false = true := by rwa [getD_set_ne false (Ne.symm hji)] at hbj
        refine hV i j _ _ _ _ _ (Ne.symm hji) ?_ (hd j oj hoj hbj') hr'
        unfold depB
        rw [hoj, Bool.eq_false_iff]
        intro hx
        obtain ⟨q, hq, h3⟩ := Array.any_eq_true.1 hx
        simp only [Bool.and_eq_true, beq_iff_eq] at h3
        have := hcl j oj hoj hbj' _ (Array.getElem_mem hq) h3.2
        rw [h3.1, h1] at this
        cases this
/-- THE LAW -/
theorem wp_region_own4 {id n : Nat} {a0 : Act} {w0 : World} (mk own0 : Nat → Option Nat) (V : Nat → Value → (Nat → Option Nat) → World → Prop) (hm : P.follows .mixedOrders = true) (hB : invB2 ops n = true) (hn : a0.tmps.size = n) (htop : ∀ k, w0.heap.size ≤ k → own0 k = none) (hmk : ∀ j i, mk j = some i → ∀ k, own0 k ≠ some j)
    (hV : ∀ i j v own w own' w', i ≠ j → depB ops j i = false → V j v own w → Rel mk i own w own' w' → V j v own' w')
    (step : ∀ (i : Nat) o, ops[i]? = some o → ∀ (a : Act) (w : World) (own : Nat → Option Nat), Same ops a0 a → Since own0 w0 own w → (∀ j, mk j = some i → ∀ k, own k ≠ some j) →
      (∀ s : Nat, (∀ (j : Nat) oj, ops[j]? = some oj → oj.dst = some s → (oj.after.any fun e => e.on == i && Region.binds .any e) = true) → a.tmps.getD s undef = a0.tmps.getD s undef) →
      (∀ k, k < w0.heap.size → own0 k = some i → w.heap[k]? = w0.heap[k]?) →
      (∀ e ∈ o.after, Region.binds .any e = true → ∀ oj, ops[e.on]? = some oj → V e.on (slotOf oj a) own w) →
      (Region.wanted o (yielded ops a.tmps) = true ∧ ∀ K : Act → World → Prop, (∀ v w' own', V i (laid o v) own' w' → Rel mk i own w own' w' → K (a.put o.dst v) w') → o.wp P a w K Q) ∨ (Region.wanted o (yielded ops a.tmps) = false ∧ V i undef own w))
    (fin : ∀ (a : Act) (w : World) own, Same ops a0 a → Since own0 w0 own w → (∀ (i : Nat) o, ops[i]? = some o → V i (slotOf o a) own w) → Q .normal a w) :
    (Code.region id ops true).wp P Q a0 w0 := by
  refine wp_region_any hm (wpAny_own4 hB hn hV step fin ops.size _ a0 _ own0 (by simp) ?_ ⟨rfl, rfl, fun _ _ => rfl⟩ ⟨rfl, rfl, rfl, Nat.le_refl _, fun _ _ => rfl, fun _ _ _ => rfl, fun _ c _ _ h => ⟨c, h, rfl⟩, htop⟩ (fun j i hj _ => hmk j i hj) (fun j oj hoj hbj => ?_) (fun _ _ => rfl) (fun _ _ _ _ _ => rfl) ?_)
  · exact Nat.le_trans (List.countP_le_length) (by simp)
  · have hlt : j < ops.size := (Array.getElem?_eq_some_iff.1 hoj).1
    simp [hlt] at hbj
  · intro i o ho hb
    have hlt : i < ops.size := (Array.getElem?_eq_some_iff.1 ho).1
    simp [hlt] at hb
end
/-- a slice of so many elements in a block of its own, which nothing writes -/
def BuiltV (own : Nat → Option Nat) (w : World) (v : Value) (n : Nat) (T : TypeId) (X : Array Value) : Prop := ∃ g, v = .slice (some ⟨g, 0, none⟩) n n ∧ own g = none ∧ w.heap[g]? = some (.cells X T (0, 0))
theorem BuiltV.stable {mk own own' : Nat → Option Nat} {w w' : World} {i n : Nat} {v : Value} {T : TypeId} {X : Array Value} (h : BuiltV own w v n T X) (r : Rel mk i own w own' w') : BuiltV own' w' v n T X := by
  obtain ⟨g, rfl, h1, h3⟩ := h
  have hg := (Array.getElem?_eq_some_iff.1 h3).1
  exact ⟨g, rfl, (r.owns g hg).trans h1, (r.keep g hg (by rw [h1]; simp)).trans h3⟩
theorem showsO_built {mk own0 own : Nat → Option Nat} {w0 w : World} {P : Program} {Q : Exit → Act → World → Prop} {V : Nat → Value → (Nat → Option Nat) → World → Prop} {i : Nat} {o : Oper} {a : Act} (hs : Since own0 w0 own w) {d : Nat} (hd : o.dst = some d) (n : Nat) (T : TypeId) (X : Array Value)
    (hr : (execOp a.eval o).run P w = .ok (.value (.slice (some ⟨w.heap.size, 0, none⟩) n n)) (w.alloc (.cells X T)))
    (hv : BuiltV own (w.alloc (.cells X T)) (.slice (some ⟨w.heap.size, 0, none⟩) n n) n T X → V i (.slice (some ⟨w.heap.size, 0, none⟩) n n) own (w.alloc (.cells X T))) : ShowsO mk P Q V i o a own w :=
  showsO_run hd _ hr own (Rel.below mk i hs (er_al (Below.refl _ _) _)) (hv ⟨_, rfl, hs.top _ (Nat.le_refl _), heap_alloc_new _ _⟩)
/-- a row of the region's own behind an append: its block is the operation's, or nobody's -/
def GrownV (own : Nat → Option Nat) (w : World) (i base : Nat) (e : TypeId) (size : Nat) (v : Value) (n : Nat) (xs : List Value) : Prop :=
  w.ownsRow base e size v n xs ∧ ∀ k, v.ownBlock = some k → own k = some i ∨ own k = none
theorem ownsRow_keep' {w w' : World} {base : Nat} {e : TypeId} {size : Nat} {v : Value} {n : Nat} {xs : List Value} (h : w.ownsRow base e size v n xs) (k : ∀ g, v.ownBlock = some g → w'.heap[g]? = w.heap[g]?) :
    w'.ownsRow base e size v n xs := by
  refine ⟨h.1, ?_⟩
  rcases h.2 with hn | ⟨g, cap, cur, rfl, hb, hg, rest⟩
  · exact .inl hn
  · exact .inr ⟨g, cap, cur, rfl, hb, (k g rfl).trans hg, rest⟩
theorem ownsRow_lt {w : World} {base : Nat} {e : TypeId} {size : Nat} {v : Value} {n : Nat} {xs : List Value} (h : w.ownsRow base e size v n xs) (k : Nat) (hk : v.ownBlock = some k) : k < w.heap.size := by
  rcases h.2 with ⟨rfl, _⟩ | ⟨g, cap, cur, rfl, hb, hg, rest⟩
  · cases hk
  · cases hk
    exact (Array.getElem?_eq_some_iff.1 hg).1
theorem GrownV.stable {mk own own' : Nat → Option Nat} {w w' : World} {i j base : Nat} {e : TypeId} {size : Nat} {v : Value} {n : Nat} {xs : List Value} (h : GrownV own w j base e size v n xs) (r : Rel mk i own w own' w') (hij : i ≠ j) : GrownV own' w' j base e size v n xs := by
  obtain ⟨h1, h2⟩ := h
  refine ⟨ownsRow_keep' h1 fun g hg => r.keep g (ownsRow_lt h1 g hg) ?_, fun k hk => ?_⟩
  · rcases h2 g hg with h | h <;> rw [h]
    · intro e; exact hij (Option.some.inj e).symm
    · simp
  · rw [r.owns k (ownsRow_lt h1 k hk)]
    exact h2 k hk
/-- append, and in which of two ways -/
theorem run_append_two {P : Program} {w : World} (t ty : TypeId) (base : Nat) (e : TypeId) (i : TypeInfo) (z : Value) (size bytes : Nat) (ht : P.underlying t = some (.slice e)) (hi : P.info? e = some i) (hz : i.zero = some z)
    (hsize : i.size = size) (hby : i.bytes = bytes) (hzs : z.cells.size = size) (hsz : 0 < size)
    (v : Value) (n : Nat) (xs : List Value) (hown : w.ownsRow base e size v n xs)
    (ad : Addr) (m c : Nat) (news : List Value) (hl : news.length = m * size)
    (hnews : ∀ j u, news[j]? = some u → w.cell? (ad.add j) = some u) (h1 : ∀ u ∈ news, u.oneCell' = true)
    (h63 : n + m ≤ maxLen) (hbytes : (n + m) * bytes ≤ 140737488355328) (hbase : base ≤ w.heap.size) :
    ∃ v' w', (Builtin.append_ #[t, t] ty #[v, .slice (some ad) m c]).run P w = .ok v' w' ∧ w'.ownsRow base e size v' (n + m) (xs ++ news) ∧
      ((∃ g cap, v = .slice (some ⟨g, 0, none⟩) n cap ∧ v' = .slice (some ⟨g, 0, none⟩) (n + m) cap ∧ w.grownBy w' (some g)) ∨ (w.grownBy w' none ∧ ∀ k, v'.ownBlock = some k → w.heap.size ≤ k)) := by
  rcases id hown.2 with ⟨rfl, rfl⟩ | ⟨g, cap, cur, rfl, hbg, hg, hnc, hcm, hcs, htake⟩
  · have hx : xs = [] := List.eq_nil_of_length_eq_zero (by simpa using hown.1)
    subst hx
    obtain ⟨v', w', a1, a2, a3, _⟩ := run_append_own (P := P) w w.heap.size t ty e i z size bytes ht hi hz hsize hby hzs hsz _ 0 [] (World.ownsRow_nil w _ e size) ad m c news hl hnews h1 h63 hbytes (Nat.le_refl _)
    exact ⟨v', w', a1, ownsRow_mono a2 hbase, .inr ⟨a3, ownsRow_fresh a2⟩⟩
  · by_cases hroom : n + m ≤ cap
    · obtain ⟨w', a1, a2, a3⟩ := run_append_fits (P := P) w base t ty e i size ht hi hsize g n cap xs hown ad m c news hl hnews h1 hroom
      exact ⟨_, w', a1, a2, .inl ⟨g, cap, rfl, rfl, a3⟩⟩
    · obtain ⟨v', w', a1, a2, a3⟩ := run_append_arg_grows (P := P) w t ty e i z size bytes ht hi hz hsize hby hzs hsz ⟨g, 0, none⟩ n cap xs hown.1 (hown.cells (g := g) rfl) ad m c news hl hnews (by omega) h63 hbytes
      exact ⟨v', w', a1, ownsRow_mono a2 hbase, .inr ⟨a3, ownsRow_fresh a2⟩⟩
theorem Rel.append {mk own0 own : Nat → Option Nat} {w0 w w' : World} {i base : Nat} {e : TypeId} {size : Nat} {v v' : Value} {n m : Nat} {xs ys : List Value} (hs0 : Since own0 w0 own w) (how : ∀ k, v.ownBlock = some k → own k = some i)
    (h : w.ownsRow base e size v n xs) (h' : w'.ownsRow base e size v' (n + m) ys)
    (hor : (∃ g cap, v = .slice (some ⟨g, 0, none⟩) n cap ∧ v' = .slice (some ⟨g, 0, none⟩) (n + m) cap ∧ w.grownBy w' (some g)) ∨ (w.grownBy w' none ∧ ∀ k, v'.ownBlock = some k → w.heap.size ≤ k)) :
    Rel mk i own w own w' ∧ ∀ k, v'.ownBlock = some k → own k = some i ∨ own k = none := by
  rcases hor with ⟨g, cap, rfl, rfl, g2⟩ | ⟨g2, g3⟩
  · refine ⟨⟨g2.os, g2.tape, g2.output, g2.size, fun _ _ => rfl, fun k hk hn => g2.block k hk (fun e => ?_), fun k c t fr hc => ?_, fun k j hk hj => ?_, fun k hk => hs0.top k (Nat.le_trans g2.size hk)⟩, fun k hk => .inl (how k hk)⟩
    · cases e
      exact hn (how _ rfl)
    · by_cases hkv : k = g
      · subst hkv
        rcases h.2 with ⟨h0, _⟩ | ⟨g1, cap1, cur1, h0, _, hg1, _, _, hs1, _⟩
        · cases h0
        · cases h0
          rcases h'.2 with ⟨h0, _⟩ | ⟨g2', cap2, cur2, h0, _, hg2, _, _, hs2, _⟩
          · cases h0
          · cases h0
            rw [hg1] at hc
            cases hc
            exact ⟨cur2, hg2, hs2.trans hs1.symm⟩
      · exact ⟨c, (g2.block k (Array.getElem?_eq_some_iff.1 hc).1 (fun e => hkv (Option.some.inj e))).trans hc, rfl⟩
    · rw [hs0.top k hk] at hj; cases hj
  · refine ⟨⟨g2.os, g2.tape, g2.output, g2.size, fun _ _ => rfl, fun k hk _ => g2.block k hk (by simp), fun k c t fr hc => ⟨c, (g2.block k (Array.getElem?_eq_some_iff.1 hc).1 (by simp)).trans hc, rfl⟩, fun k j hk hj => ?_, fun k hk => hs0.top k (Nat.le_trans g2.size hk)⟩, fun k hk => .inr (hs0.top k (g3 k hk))⟩
    rw [hs0.top k hk] at hj; cases hj
/-- append to a row of one's own, of a slice that was built here -/
theorem showsO_append {mk own0 own : Nat → Option Nat} {w0 w : World} {P : Program} {Q : Exit → Act → World → Prop} {V : Nat → Value → (Nat → Option Nat) → World → Prop} {i : Nat} {o : Oper} {a : Act} (hs0 : Since own0 w0 own w) (hke : ∀ k, k < w0.heap.size → own0 k = some i → w.heap[k]? = w0.heap[k]?) {d : Nat} (hd : o.dst = some d) (s x : Operand) (t : TypeId)
    (ho : o.op = .call { callee := .builtin .append, args := #[s, x], argTypes := #[t, t] })
    (base : Nat) (e : TypeId) (i' : TypeInfo) (z : Value) (size bytes : Nat) (ht : P.underlying t = some (.slice e)) (hi : P.info? e = some i') (hz : i'.zero = some z)
    (hsize : i'.size = size) (hby : i'.bytes = bytes) (hzs : z.cells.size = size) (hsz : 0 < size)
    (v : Value) (n : Nat) (xs : List Value) (hs : a.eval s = v) (hown : w0.ownsRow base e size v n xs) (how : ∀ k, v.ownBlock = some k → own0 k = some i)
    {m : Nat} {X : Array Value} {T : TypeId} (hx : BuiltV own w (a.eval x) m T X) (hl : X.size = m * size) (h1 : X.all (·.oneCell') = true)
    (h63 : n + m ≤ maxLen) (hbytes : (n + m) * bytes ≤ 140737488355328) (hbase : base ≤ w0.heap.size)
    (hv : ∀ v' w' own', GrownV own' w' i base e size v' (n + m) (xs ++ X.toList) → V i v' own' w') : ShowsO mk P Q V i o a own w := by
  intro K hK
  have hown' : w.ownsRow base e size v n xs := ownsRow_keep' hown fun g hg => hke g (ownsRow_lt hown g hg) (how g hg)
  obtain ⟨g, hxe, hg0, hg⟩ := hx
  obtain ⟨v', w', hrun, g1, g2⟩ := run_append_two (P := P) (w := w) t o.type base e i' z size bytes ht hi hz hsize hby hzs hsz v n xs hown' ⟨g, 0, none⟩ m m X.toList (by simpa using hl) (fun j u hu => by
      have ea : (⟨g, 0, none⟩ : Addr).add j = ⟨g, j, none⟩ := by unfold Addr.add; by_cases h : j = 0 <;> simp [h]
      rw [ea]
      exact er_cellAt hg j u (by simpa using hu)) (fun u hu => Array.all_eq_true_iff_forall_mem.1 h1 u (by simpa using hu)) h63 hbytes (Nat.le_trans hbase hs0.size)
  obtain ⟨hr, hfr⟩ := Rel.append (mk := mk) hs0 (fun k hk => (hs0.owns k (ownsRow_lt hown k hk)).trans (how k hk)) hown' g1 g2
  unfold Oper.wp
  simp only [execOp, ho, resolve, invoke, builtin, hs, hxe, List.map_toArray, List.map_cons, List.map_nil]
  simp [hrun, Result.andThen]
  exact hK v' w' own (by unfold laid; rw [hd]; exact hv v' w' own ⟨g1, hfr⟩) hr
/-- the operation i owns the row's block -/
def ownOf (v : Value) (i : Nat) : Nat → Option Nat := fun k => if v.ownBlock = some k then some i else none
theorem ownOf_at (v : Value) (i : Nat) (k : Nat) (h : v.ownBlock = some k) : ownOf v i k = some i := by unfold ownOf; rw [if_pos h]
theorem ownOf_not (v : Value) (i : Nat) (k : Nat) (h : v.ownBlock ≠ some k) : ownOf v i k = none := by unfold ownOf; rw [if_neg h]
theorem ownOf_top {w : World} {base : Nat} {e : TypeId} {size : Nat} {v : Value} {n : Nat} {xs : List Value} (h : w.ownsRow base e size v n xs) (i : Nat) (k : Nat) (hk : w.heap.size ≤ k) : ownOf v i k = none :=
  ownOf_not v i k fun e => by have := ownsRow_lt h k e; omega
theorem ownOf_base {w : World} {base : Nat} {e : TypeId} {size : Nat} {v : Value} {n : Nat} {xs : List Value} (h : w.ownsRow base e size v n xs) (i : Nat) (k : Nat) (hk : k < base) : ownOf v i k = none :=
  ownOf_not v i k fun e => by have := ownsRow_fresh h k e; omega
theorem ownOf_mk {mk : Nat → Option Nat} {v : Value} {i : Nat} (hi : mk i = none) (j i' : Nat) (hj : mk j = some i') (k : Nat) : ownOf v i k ≠ some j := by
  intro h
  unfold ownOf at h
  split at h
  · cases h; rw [hi] at hj; cases hj
  · cases h
theorem Since.keepOf {v : Value} {i : Nat} {own : Nat → Option Nat} {w0 w : World} (h : Since (ownOf v i) w0 own w) : Keep (fun k => v.ownBlock = some k) w0 w :=
  ⟨h.os, h.tape, h.output, h.size, fun k hk hn => h.keep k hk (ownOf_not v i k hn)⟩
/-- two blocks that two operations own -/
def ownTwo (g h i j : Nat) : Nat → Option Nat := fun k => if k = g then some i else if k = h then some j else none
theorem ownTwo_none {g h i j k : Nat} (h1 : k ≠ g) (h2 : k ≠ h) : ownTwo g h i j k = none := by unfold ownTwo; rw [if_neg h1, if_neg h2]
theorem ownTwo_one (g h i j : Nat) : ownTwo g h i j g = some i := by unfold ownTwo; rw [if_pos rfl]
theorem ownTwo_two {g h i j : Nat} (hn : h ≠ g) : ownTwo g h i j h = some j := by unfold ownTwo; rw [if_neg hn, if_pos rfl]
theorem Since.keepTwo {g h i j : Nat} {own : Nat → Option Nat} {w0 w : World} (s : Since (ownTwo g h i j) w0 own w) : Keep (fun k => k = g ∨ k = h) w0 w :=
  ⟨s.os, s.tape, s.output, s.size, fun k hk hn => s.keep k hk (ownTwo_none (fun e => hn (.inl e)) (fun e => hn (.inr e)))⟩
end Go.Proofs.YtdepmjgibenejaaDoor
