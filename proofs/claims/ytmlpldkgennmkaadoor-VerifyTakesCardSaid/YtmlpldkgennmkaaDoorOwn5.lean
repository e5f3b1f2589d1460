/- Rows that a call makes inside a drawn region, for an append of the same region. -/
import Derived.Test.YtmlpldkgennmkaaDoorOwn4
namespace Go.Proofs.YtmlpldkgennmkaaDoor
open Go.RowKit
/-- a row of the region's own that the operation j is going to append to -/
def RowV (own : Nat → Option Nat) (w : World) (v : Value) (j base : Nat) (e : TypeId) (size n : Nat) (xs : List Value) : Prop :=
  w.ownsRow base e size v n xs ∧ ∀ k, v.ownBlock = some k → own k = some j
theorem RowV.stable {mk own own' : Nat → Option Nat} {w w' : World} {i j base : Nat} {e : TypeId} {size n : Nat} {v : Value} {xs : List Value} (h : RowV own w v j base e size n xs) (r : Rel mk i own w own' w') (hij : i ≠ j) : RowV own' w' v j base e size n xs := by
  obtain ⟨h1, h2⟩ := h
  refine ⟨ownsRow_keep' h1 fun g hg => r.keep g (ownsRow_lt h1 g hg) ?_, fun k hk => ?_⟩
  · rw [h2 g hg]
    intro e; exact hij (Option.some.inj e).symm
  · rw [r.owns k (ownsRow_lt h1 k hk)]
    exact h2 k hk
/-- what a call makes is given to the operation j -/
theorem showsO_callRow {mk own0 own : Nat → Option Nat} {w0 w : World} {P : Program} {Q : Exit → Act → World → Prop} {V : Nat → Value → (Nat → Option Nat) → World → Prop} {i : Nat} {o : Oper} {a : Act} (hs : Since own0 w0 own w) {d : Nat} (hdst : o.dst = some d) (f : FuncId) (vs : Array Value)
    (hr : (execOp a.eval o).run P w = .ok (.enter f vs) w) (j : Nat) (hj : mk j = some i) (base : Nat) (e : TypeId) (size n : Nat) (xs : List Value) (hb : base ≤ w.heap.size)
    (hc : Calls P f vs w fun x w' => ∃ v, x = .returned v ∧ w'.ownsRow w.heap.size e size v n xs ∧ Below w.heap.size w w')
    (hv : ∀ v w' own', RowV own' w' v j base e size n xs → V i v own' w') : ShowsO mk P Q V i o a own w := by
  intro K hK
  unfold Oper.wp
  rw [hr, Oper.upon_enter]
  refine hc.mono ?_
  rintro x w' ⟨v, rfl, h1, hbl⟩
  have hfr := fun k hk => ownsRow_fresh h1 k hk
  refine hK v w' (fun k => if v.ownBlock = some k then some j else own k) (by unfold laid; rw [hdst]; exact hv v w' _ ⟨ownsRow_mono h1 hb, fun k hk => if_pos hk⟩) ⟨hbl.os, hbl.tape, hbl.output, hbl.size, fun k hk => ?_, fun k hk _ => hbl.block k hk, fun k c t fr hc => ⟨c, (hbl.block k (Array.getElem?_eq_some_iff.1 hc).1).trans hc, rfl⟩, fun k j' hk ho => ?_, fun k hk => ?_⟩
  · exact if_neg fun e => by have := hfr k e; omega
  · split at ho
    · cases ho; exact hj
    · rw [hs.top k hk] at ho; cases ho
  · have hn : ¬ v.ownBlock = some k := fun e => by have := ownsRow_lt h1 k e; omega
    show (if v.ownBlock = some k then some j else own k) = none
    rw [if_neg hn]
    exact hs.top k (Nat.le_trans hbl.size hk)
/-- append to a row that was made in this region -/
theorem showsO_appendRow {mk own0 own : Nat → Option Nat} {w0 w : World} {P : Program} {Q : Exit → Act → World → Prop} {V : Nat → Value → (Nat → Option Nat) → World → Prop} {i : Nat} {o : Oper} {a : Act} (hs0 : Since own0 w0 own w) {d : Nat} (hd : o.dst = some d) (s x : Operand) (t : TypeId)
    (ho : o.op = .call { callee := .builtin .append, args := #[s, x], argTypes := #[t, t] })
    (base : Nat) (e : TypeId) (i' : TypeInfo) (z : Value) (size bytes : Nat) (ht : P.underlying t = some (.slice e)) (hi : P.info? e = some i') (hz : i'.zero = some z)
    (hsize : i'.size = size) (hby : i'.bytes = bytes) (hzs : z.cells.size = size) (hsz : 0 < size)
    (n : Nat) (xs : List Value) (hrow : RowV own w (a.eval s) i base e size n xs)
    {m : Nat} {X : Array Value} {T : TypeId} (hx : BuiltV own w (a.eval x) m T X) (hl : X.size = m * size) (h1 : X.all (·.oneCell') = true)
    (h63 : n + m ≤ maxLen) (hbytes : (n + m) * bytes ≤ 140737488355328) (hbase : base ≤ w0.heap.size)
    (hv : ∀ v' w' own', GrownV own' w' i base e size v' (n + m) (xs ++ X.toList) → V i v' own' w') : ShowsO mk P Q V i o a own w := by
  intro K hK
  obtain ⟨hown', how⟩ := hrow
  obtain ⟨v, hs⟩ : ∃ v, a.eval s = v := ⟨_, rfl⟩
  rw [hs] at hown' how
  obtain ⟨g, hxe, hg0, hg⟩ := hx
  obtain ⟨v', w', hrun, g1, g2⟩ := run_append_two (P := P) (w := w) t o.type base e i' z size bytes ht hi hz hsize hby hzs hsz v n xs hown' ⟨g, 0, none⟩ m m X.toList (by simpa using hl) (fun j u hu => by
      have ea : (⟨g, 0, none⟩ : Addr).add j = ⟨g, j, none⟩ := by unfold Addr.add; by_cases h : j = 0 <;> simp [h]
      rw [ea]
      exact er_cellAt hg j u (by simpa using hu)) (fun u hu => Array.all_eq_true_iff_forall_mem.1 h1 u (by simpa using hu)) h63 hbytes (Nat.le_trans hbase hs0.size)
  obtain ⟨hr, hfr⟩ := Rel.append (mk := mk) hs0 how hown' g1 g2
  unfold Oper.wp
  simp only [execOp, ho, resolve, invoke, builtin, hs, hxe, List.map_toArray, List.map_cons, List.map_nil]
  simp [hrun, Result.andThen]
  exact hK v' w' own (by unfold laid; rw [hd]; exact hv v' w' own ⟨g1, hfr⟩) hr
end Go.Proofs.YtmlpldkgennmkaaDoor
