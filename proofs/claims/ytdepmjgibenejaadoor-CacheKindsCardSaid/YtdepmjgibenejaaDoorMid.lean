/- A region that draws its order: all operations but the last ones are quiet, then comes one that may write what it likes (a call), and behind it only quiet ones, in whatever order. -/
import Derived.Test.YtdepmjgibenejaaDoorTail
namespace Go.Proofs.YtdepmjgibenejaaDoor
open Go.RowKit
section
variable {P : Program} {ops : Array Oper} {md : Region.Mode} {C : World → Prop}
/-- each operation behind n waits for one behind or at n -/
def chainC (md : Region.Mode) (ops : Array Oper) (n : Nat) : Bool :=
  (List.range ops.size).all fun t => decide (t ≤ n) || (List.range t).any fun s => decide (n ≤ s) && Region.waitsFor md ops t s
theorem tail_waitsC {n : Nat} {listed : Array Bool} (hs : Region.sinkB md ops n = true) (hc : chainC md ops n = true) (inv : HeadInv md ops n listed) :
    ∀ (d i : Nat), n - i = d → i < n → listed.getD i true = false → ∀ t, n ≤ t → t ∉ Region.ready md ops listed := by
  intro d
  induction d using Nat.strongRecOn with
  | _ d ih =>
    intro i hd hi hun t ht hr
    obtain ⟨_, ot, hot, hall⟩ := mem_ready.1 hr
    have htlt : t < ops.size := (Array.getElem?_eq_some_iff.1 hot).1
    by_cases htn : t = n
    · subst htn
      have h1 := List.all_eq_true.1 hs i (List.mem_range.2 hi)
      obtain ⟨j, hj, hj2⟩ := List.any_eq_true.1 h1
      simp only [Bool.and_eq_true, decide_eq_true_eq] at hj2
      obtain ⟨oj, hoj, e, he, hb, hon⟩ := Region.waitsFor_spec hj2.2
      have hjle : j ≤ t := by have := List.mem_range.1 hj; omega
      by_cases hjt : j = t
      · subst hjt
        have : oj = ot := Option.some.inj (hoj.symm.trans hot)
        subst this
        have h2 := hall e he hb
        rw [hon, getD_both hun] at h2
        cases h2
      · cases hl : listed.getD j false with
        | true =>
          have h2 := inv.closed j oj hoj hl e he hb
          rw [hon, getD_both hun] at h2
          cases h2
        | false =>
          have hjs : j < listed.size := by rw [inv.size]; omega
          exact ih (t - j) (by omega) j rfl (by omega) (getD_in hjs hl) t (Nat.le_refl _) hr
    · have h1 := List.all_eq_true.1 hc t (List.mem_range.2 htlt)
      simp only [Bool.or_eq_true, decide_eq_true_eq] at h1
      rcases h1 with h1 | h1
      · omega
      · obtain ⟨s, hs1, hs2⟩ := List.any_eq_true.1 h1
        simp only [Bool.and_eq_true, decide_eq_true_eq] at hs2
        obtain ⟨oj, hoj, e, he, hb, hon⟩ := Region.waitsFor_spec hs2.2
        have : oj = ot := Option.some.inj (hoj.symm.trans hot)
        subst this
        have h2 := hall e he hb
        have h3 := inv.tail s hs2.1 (by have := List.mem_range.1 hs1; omega)
        rw [hon, getD_both h3] at h2
        cases h2
theorem headAny_firstC {n i : Nat} {oi : Oper} {v : Value} {L : Array Bool → Act → Prop} (hi : ops[i]? = some oi) (hsel : ∀ (j : Nat) (o : Oper) cs b, ops[j]? = some o → o.op ≠ .select cs b)
    (hs : Region.sinkB md ops n = true) (hc : chainC md ops n = true) (hin : i < n)
    (hdone : ∀ b a, L b a → ∀ j ∈ Region.ready md ops b, n ≤ j) (f : Nat) :
    ∀ (b : Array Bool) (a : Act), HeadInv md ops n b →
      (∀ j oj, ops[j]? = some oj → j ≠ i → b.getD j true = false → (∀ e ∈ oj.after, Region.binds md e = true → e.on ≠ i) → oi.apart ops oj = true) →
      i ∈ Region.ready md ops b → YieldsIn P ops C oi v a →
      headAny P md ops C n L f (b.setIfInBounds i true) (a.put oi.dst v) → headAny P md ops C n L (f + 1) b a := by
  induction f with
  | zero =>
    intro b a inv _ hr hy H
    have hun := (mem_ready.1 hr).1
    refine ⟨List.ne_nil_of_mem hr, fun j hj => ?_⟩
    have hjn : j < n := Nat.lt_of_not_le fun hle => tail_waitsC hs hc inv _ i rfl hin hun j hle hj
    by_cases hji : j = i
    · subst hji; exact ⟨hjn, hy.qOp hi H⟩
    · exact absurd (hdone _ _ H j (ready_mono hj hji)) (Nat.not_le_of_lt hjn)
  | succ f ih =>
    intro b a inv hfree hr hy H
    have hun := (mem_ready.1 hr).1
    refine ⟨List.ne_nil_of_mem hr, fun j hj => ?_⟩
    have hjn : j < n := Nat.lt_of_not_le fun hle => tail_waitsC hs hc inv _ i rfl hin hun j hle hj
    by_cases hji : j = i
    · subst hji; exact ⟨hjn, hy.qOp hi H⟩
    · obtain ⟨hjun, oj, hoj, hall⟩ := mem_ready.1 hj
      have hno : ∀ e ∈ oj.after, Region.binds md e = true → e.on ≠ i := by
        intro e he hb heq
        have h1 := hall e he hb
        rw [heq, getD_both hun] at h1
        cases h1
      have h2 := qOp_put hoj (hfree j oj hoj hji hjun hno) (fun cs b' => hsel i oi cs b' hi) (fun cs b' => hsel j oj cs b' hoj) hy (H.2 j (ready_mono hj hji)).2
      refine ⟨hjn, qOp_mono (fun a' h3 => ?_) h2⟩
      refine ih _ a' (inv.set hj hjn) ?_ (ready_mono hr (Ne.symm hji)) h3.1 (by rw [Array.setIfInBounds_comm _ _ hji]; exact h3.2)
      intro k ok hk hki hkun hkno
      refine hfree k ok hk hki ?_ hkno
      by_cases hjk : j = k
      · subst hjk; exact hjun
      · rwa [getD_set_ne true hjk] at hkun
/-- behind the head: the call alone, then the others, in the order of the text -/
def afterB (md : Region.Mode) (ops : Array Oper) (g n : Nat) (b : Array Bool) : Bool := decide (Region.ready md ops b = [n]) && Region.lexFrom md ops g (n + 1) (b.setIfInBounds n true)
def lexHeadC (md : Region.Mode) (ops : Array Oper) (g : Nat) : Nat → Nat → Array Bool → Bool
  | 0, k, listed => afterB md ops g k listed
  | f + 1, k, listed => (Region.ready md ops listed).contains k && Region.free md ops listed k && lexHeadC md ops g f (k + 1) (listed.setIfInBounds k true)
theorem headAny_lexC {n g : Nat} {Lq : Act → Prop} (hsel : Region.noSelect ops = true) (hs : Region.sinkB md ops n = true) (hc : chainC md ops n = true) (l : List Oper) :
    ∀ (k : Nat) (b : Array Bool) (a : Act), (∀ j, j < l.length → l[j]? = ops[k + j]?) → k + l.length = n → HeadInv md ops n b →
    lexHeadC md ops g l.length k b = true → wpQuiet P ops C Lq l a →
    headAny P md ops C n (fun b' a' => afterB md ops g n b' = true ∧ Lq a') l.length b a := by
  induction l with
  | nil =>
    intro k b a _ hk _ hB h
    obtain rfl : k = n := by simpa using hk
    exact ⟨by simpa [lexHeadC] using hB, h⟩
  | cons o l ih =>
    intro k b a hl hk inv hB h
    have h0 : ops[k]? = some o := by simpa using (hl 0 (by simp)).symm
    simp only [List.length_cons, lexHeadC, Bool.and_eq_true] at hB
    have hkn : k < n := by simp only [List.length_cons] at hk; omega
    have hr' : k ∈ Region.ready md ops b := by simpa using hB.1.1
    have hst : qOp P ops C k (wpQuiet P ops C Lq l) a := by unfold qOp; simp only [h0]; exact h
    obtain ⟨v, hy, hK⟩ := yieldsIn_of_qOp h0 hst
    refine headAny_firstC h0 (Region.noSelect_spec hsel) hs hc hkn (fun b' a' hL => ?_) l.length b a inv (Region.free_spec h0 hB.1.2) hr' hy ?_
    · have h1 := hL.1
      unfold afterB at h1
      simp only [Bool.and_eq_true, decide_eq_true_eq] at h1
      intro j hj
      rw [h1.1] at hj
      exact Nat.le_of_eq (List.mem_singleton.1 hj).symm
    refine ih (k + 1) _ _ (fun j hj => ?_) (by simp only [List.length_cons] at hk; omega) (inv.set hr' hkn) hB.2 hK
    have := hl (j + 1) (by simp; omega)
    simpa [Nat.add_assoc, Nat.add_comm 1 j] using this
def lexCallB (ops : Array Oper) (n : Nat) : Bool :=
  Region.noSelect ops && decide (n < ops.size) && Region.sinkB .any ops n && chainC .any ops n && lexHeadC .any ops (ops.size - n - 1) n 0 (Array.replicate ops.size false)
/-- THE LAW -/
theorem wp_region_quiet_call {id : Nat} {Q : Exit → Act → World → Prop} {a : Act} {w : World} {l : List Oper} (n : Nat) (hm : P.follows .mixedOrders = true) (hB : lexCallB l.toArray n = true)
    (hC : C { w with drawn := w.drawn + 1 })
    (h : wpQuiet P l.toArray C (fun a' => ∀ w', C w' → ∀ o, l[n]? = some o → Region.wanted o (yielded l.toArray a'.tmps) = true ∧
      o.wp P a' w' (fun a2 w2 => wpQuiet P l.toArray (fun u => ∃ k : Nat, u = w2.drewN k) (fun a3 => ∀ w3, (∃ k : Nat, w3 = w2.drewN k) → Q .normal a3 w3) (l.drop (n + 1)) a2) Q) (l.take n) a) : (Code.region id l.toArray true).wp P Q a w := by
  simp only [lexCallB, Bool.and_eq_true, decide_eq_true_eq] at hB
  obtain ⟨⟨⟨⟨hsel, hn⟩, hs⟩, hc⟩, hlex⟩ := hB
  have hn' : n < l.length := by simpa using hn
  have htl : (l.take n).length = n := by simp; omega
  have inv0 : HeadInv .any l.toArray n (Array.replicate l.toArray.size false) :=
    ⟨by simp, fun j oj _ hl => (by rw [getD_replicate_false] at hl; cases hl), fun t _ ht => getD_in (by simpa using ht) (getD_replicate_false _ _)⟩
  have H := headAny_lexC (md := .any) (C := C) (g := l.toArray.size - n - 1) hsel hs hc (l.take n) 0 _ a
    (fun j hj => by rw [htl] at hj; simp [hj]) (by simpa using htl) inv0 (by rw [htl]; exact hlex) h
  refine wp_region_any hm ?_
  have := wpAny_of_headAny (Q' := Q) (g := l.toArray.size - n) (fun b a' w' hw' hL => by
    have hA := hL.1
    unfold afterB at hA
    simp only [Bool.and_eq_true, decide_eq_true_eq] at hA
    have ho : l.toArray[n]? = some l[n] := by simp [hn']
    obtain ⟨hw, hwp⟩ := hL.2 w' hw' l[n] (by simp [hn'])
    rw [show l.toArray.size - n = (l.toArray.size - n - 1) + 1 by omega]
    refine ⟨(fun h0 => by rw [hA.1] at h0; cases h0), fun i hi => ?_⟩
    rw [hA.1] at hi
    obtain rfl := List.mem_singleton.1 hi
    unfold wpOp
    simp only [ho, hw, if_true]
    refine .inl (Oper.wp_mono (fun a2 w2 hq => ?_) hwp)
    have hd : (l.drop (i + 1)).length = l.toArray.size - i - 1 := by simp; omega
    have h3 := wpAnyQ_lex (C := fun u => ∃ k : Nat, u = w2.drewN k) (md := .any) hsel (l.drop (i + 1)) (i + 1) (b.setIfInBounds i true) a2 (fun j => by simp) (by rw [hd]; exact hA.2) hq
    rw [hd] at h3
    exact wpAny_of_quiet (fun a3 w3 hw3 h => h w3 hw3) _ _ _ _ ⟨0, rfl⟩ h3) _ _ _ _ hC H
  rw [htl, show n + (l.toArray.size - n) = l.toArray.size by simp; omega] at this
  exact this
/-- the call itself -/
theorem wp_call_enter {o : Oper} {a : Act} {w : World} {Q : Exit → Act → World → Prop} {K : Act → World → Prop} (f : FuncId) (vs : Array Value) (hr : (execOp a.eval o).run P w = .ok (.enter f vs) w)
    {R : Value → World → Prop} (hc : Calls P f vs w fun e w' => ∃ v, e = .returned v ∧ R v w') (hk : ∀ v w', R v w' → K (a.put o.dst v) w') : o.wp P a w K Q := by
  unfold Oper.wp
  rw [hr, Oper.upon_enter]
  refine hc.mono ?_
  rintro e w' ⟨v, rfl, h1⟩
  exact hk v w' h1
end
end Go.Proofs.YtdepmjgibenejaaDoor
