/- append(append([]T{}, p...), x) in a region that draws. -/
import Derived.Test.YtmlpldkgennmkaaDoorOwn6
namespace Go.Proofs.YtmlpldkgennmkaaDoor
open Go.RowKit
/-- a row that the operation j is going to append to: its block is j's, or it has no room at all -/
def RowC (own : Nat → Option Nat) (w : World) (v : Value) (j base : Nat) (e : TypeId) (size n : Nat) (xs : List Value) : Prop :=
  w.ownsRow base e size v n xs ∧ ∀ k, v.ownBlock = some k → own k = some j ∨ (own k = none ∧ v = .slice (some ⟨k, 0, none⟩) 0 0)
theorem RowC.stable {mk own own' : Nat → Option Nat} {w w' : World} {i j base : Nat} {e : TypeId} {size n : Nat} {v : Value} {xs : List Value} (h : RowC own w v j base e size n xs) (r : Rel mk i own w own' w') (hij : i ≠ j) : RowC own' w' v j base e size n xs := by
  obtain ⟨h1, h2⟩ := h
  refine ⟨ownsRow_keep' h1 fun g hg => r.keep g (ownsRow_lt h1 g hg) ?_, fun k hk => ?_⟩
  · rcases h2 g hg with h | ⟨h, _⟩ <;> rw [h]
    · intro e; exact hij (Option.some.inj e).symm
    · simp
  · rw [r.owns k (ownsRow_lt h1 k hk)]
    exact h2 k hk
/-- append to a slice that has no room: what is new is the operation j's -/
theorem showsO_appendFirst {mk own0 own : Nat → Option Nat} {w0 w : World} {P : Program} {Q : Exit → Act → World → Prop} {V : Nat → Value → (Nat → Option Nat) → World → Prop} {i : Nat} {o : Oper} {a : Act} (hs0 : Since own0 w0 own w) {d : Nat} (hd : o.dst = some d) (s x : Operand) (t : TypeId)
    (ho : o.op = .call { callee := .builtin .append, args := #[s, x], argTypes := #[t, t] }) (j : Nat) (hj : mk j = some i)
    (e : TypeId) (i' : TypeInfo) (z : Value) (size bytes : Nat) (ht : P.underlying t = some (.slice e)) (hi : P.info? e = some i') (hz : i'.zero = some z)
    (hsize : i'.size = size) (hby : i'.bytes = bytes) (hzs : z.cells.size = size) (hsz : 0 < size)
    (hrow : BuiltV own w (a.eval s) 0 e #[])
    (xa : Option Addr) (m c : Nat) (news : List Value) (hx : a.eval x = .slice xa m c) (hnil : xa = none → c = 0 ∧ m = 0) (hl : news.length = m * size)
    (hnews : ∀ ad, xa = some ad → ∀ j u, news[j]? = some u → w.cell? (ad.add j) = some u) (h1 : ∀ u ∈ news, u.oneCell' = true)
    (h63 : m ≤ maxLen) (hbytes : m * bytes ≤ 140737488355328)
    (hv : ∀ v' w' own', RowC own' w' v' j 0 e size m news → V i v' own' w') : ShowsO mk P Q V i o a own w := by
  intro K hK
  obtain ⟨v, hs⟩ : ∃ v, a.eval s = v := ⟨_, rfl⟩
  rw [hs] at hrow
  obtain ⟨g, rfl, hg0, hg⟩ := hrow
  have hgl := (Array.getElem?_eq_some_iff.1 hg).1
  have hown : w.ownsRow 0 e size (.slice (some ⟨g, 0, none⟩) 0 0) 0 [] := ⟨by simp, .inr ⟨g, 0, #[], rfl, Nat.zero_le _, hg, Nat.le_refl _, Nat.zero_le _, by simp, by simp⟩⟩
  obtain ⟨v', w', hrun, g1, hbl, g2⟩ : ∃ v' w', (Builtin.append_ #[t, t] o.type #[.slice (some ⟨g, 0, none⟩) 0 0, .slice xa m c]).run P w = .ok v' w' ∧ w'.ownsRow 0 e size v' m news ∧ Below w.heap.size w w' ∧ (v' = .slice (some ⟨g, 0, none⟩) 0 0 ∨ ∀ k, v'.ownBlock = some k → w.heap.size ≤ k) := by
    cases xa with
    | none =>
      obtain ⟨rfl, rfl⟩ := hnil rfl
      have hn : news = [] := List.length_eq_zero_iff.1 (by simpa using hl)
      subst hn
      exact ⟨_, w, run_append_owned_none (P := P) (w := w) 0 t o.type e i' size ht hi _ 0 [] hown, hown, Below.refl _ _, .inl rfl⟩
    | some ad =>
      by_cases hm : m = 0
      · subst hm
        have hn : news = [] := List.length_eq_zero_iff.1 (by simpa using hl)
        subst hn
        obtain ⟨w', a1, a2, a3⟩ := run_append_fits (P := P) w 0 t o.type e i' size ht hi hsize g 0 0 [] hown ad 0 c [] (by simp) (fun j u h => by simp at h) (fun u h => by cases h) (Nat.le_refl _)
        refine ⟨_, w', a1, a2, ⟨a3.os, a3.tape, a3.output, a3.size, fun k hk => ?_⟩, .inl rfl⟩
        by_cases hkg : k = g
        · subst hkg
          rcases a2.2 with ⟨h0, _⟩ | ⟨g', cap, cur, e1, _, hg', _, _, hcs, _⟩
          · cases h0
          · cases e1
            have hc : cur = #[] := Array.eq_empty_of_size_eq_zero (by simpa using hcs)
            subst hc
            rw [hg', hg]
        · exact a3.block k hk (fun h => hkg (Option.some.inj h))
      · obtain ⟨v', w', a1, a2, a3⟩ := run_append_arg_grows (P := P) w t o.type e i' z size bytes ht hi hz hsize hby hzs hsz ⟨g, 0, none⟩ 0 0 [] hown.1 (hown.cells (g := g) rfl) ad m c news hl (hnews ad rfl) (by omega) (by omega) (by rw [Nat.zero_add]; exact hbytes)
        rw [Nat.zero_add] at a2
        exact ⟨v', w', a1, ownsRow_mono a2 (Nat.zero_le _), ⟨a3.os, a3.tape, a3.output, a3.size, fun k hk => a3.block k hk (by simp)⟩, .inr (ownsRow_fresh a2)⟩
  unfold Oper.wp
  simp only [execOp, ho, resolve, invoke, builtin, hs, hx, List.map_toArray, List.map_cons, List.map_nil]
  simp [hrun, Result.andThen]
  rcases g2 with rfl | hfr
  · obtain ⟨g1a, g1b⟩ := g1
    refine hK _ w' own (by unfold laid; rw [hd]; exact hv _ w' own ⟨⟨g1a, g1b⟩, fun k hk => by cases hk; exact .inr ⟨hg0, rfl⟩⟩) (Rel.below mk i hs0 hbl)
  · refine hK v' w' (fun k => if v'.ownBlock = some k then some j else own k) (by unfold laid; rw [hd]; exact hv v' w' _ ⟨g1, fun k hk => .inl (if_pos hk)⟩) ⟨hbl.os, hbl.tape, hbl.output, hbl.size, fun k hk => ?_, fun k hk _ => hbl.block k hk, fun k c t fr hc => ⟨c, (hbl.block k (Array.getElem?_eq_some_iff.1 hc).1).trans hc, rfl⟩, fun k j' hk ho => ?_, fun k hk => ?_⟩
    · exact if_neg fun e => by have := hfr k e; omega
    · split at ho
      · cases ho; exact hj
      · rw [hs0.top k hk] at ho; cases ho
    · have hn : ¬ v'.ownBlock = some k := fun e => by have := ownsRow_lt g1 k e; omega
      show (if v'.ownBlock = some k then some j else own k) = none
      rw [if_neg hn]
      exact hs0.top k (Nat.le_trans hbl.size hk)
/-- append to such a row -/
theorem showsO_appendLast {mk own0 own : Nat → Option Nat} {w0 w : World} {P : Program} {Q : Exit → Act → World → Prop} {V : Nat → Value → (Nat → Option Nat) → World → Prop} {i : Nat} {o : Oper} {a : Act} (hs0 : Since own0 w0 own w) {d : Nat} (hd : o.dst = some d) (s x : Operand) (t : TypeId)
    (ho : o.op = .call { callee := .builtin .append, args := #[s, x], argTypes := #[t, t] })
    (e : TypeId) (i' : TypeInfo) (z : Value) (size bytes : Nat) (ht : P.underlying t = some (.slice e)) (hi : P.info? e = some i') (hz : i'.zero = some z)
    (hsize : i'.size = size) (hby : i'.bytes = bytes) (hzs : z.cells.size = size) (hsz : 0 < size)
    (n : Nat) (xs : List Value) (hrow : RowC own w (a.eval s) i 0 e size n xs)
    {m : Nat} {X : Array Value} {T : TypeId} (hx : BuiltV own w (a.eval x) m T X) (hm : 0 < m) (hl : X.size = m * size) (h1 : X.all (·.oneCell') = true)
    (h63 : n + m ≤ maxLen) (hbytes : (n + m) * bytes ≤ 140737488355328)
    (hv : ∀ v' w' own', GrownV own' w' i 0 e size v' (n + m) (xs ++ X.toList) → V i v' own' w') : ShowsO mk P Q V i o a own w := by
  intro K hK
  obtain ⟨hown', how⟩ := hrow
  obtain ⟨v, hs⟩ : ∃ v, a.eval s = v := ⟨_, rfl⟩
  rw [hs] at hown' how
  obtain ⟨g, hxe, hg0, hg⟩ := hx
  obtain ⟨v', w', hrun, g1, g2⟩ := run_append_two (P := P) (w := w) t o.type 0 e i' z size bytes ht hi hz hsize hby hzs hsz v n xs hown' ⟨g, 0, none⟩ m m X.toList (by simpa using hl) (fun j u hu => by
      have ea : (⟨g, 0, none⟩ : Addr).add j = ⟨g, j, none⟩ := by unfold Addr.add; by_cases h : j = 0 <;> simp [h]
      rw [ea]
      exact er_cellAt hg j u (by simpa using hu)) (fun u hu => Array.all_eq_true_iff_forall_mem.1 h1 u (by simpa using hu)) h63 hbytes (Nat.zero_le _)
  have key : Rel mk i own w own w' ∧ ∀ k, v'.ownBlock = some k → own k = some i ∨ own k = none := by
    by_cases hall : ∀ k, v.ownBlock = some k → own k = some i
    · exact Rel.append (mk := mk) hs0 hall hown' g1 g2
    · rcases g2 with ⟨g', cap, rfl, rfl, g3⟩ | ⟨g3, g4⟩
      · exfalso
        refine hall fun k hk => ?_
        rcases how k hk with h | ⟨_, h⟩
        · exact h
        · cases h
          rcases g1.2 with ⟨h0, _⟩ | ⟨_, _, _, e1, _, _, hle, _⟩
          · cases h0
          · cases e1
            omega
      · refine ⟨⟨g3.os, g3.tape, g3.output, g3.size, fun _ _ => rfl, fun k hk _ => g3.block k hk (by simp), fun k c t fr hc => ⟨c, (g3.block k (Array.getElem?_eq_some_iff.1 hc).1 (by simp)).trans hc, rfl⟩, fun k j hk hj => ?_, fun k hk => hs0.top k (Nat.le_trans g3.size hk)⟩, fun k hk => .inr (hs0.top k (g4 k hk))⟩
        rw [hs0.top k hk] at hj; cases hj
  obtain ⟨hr, hfr⟩ := key
  unfold Oper.wp
  simp only [execOp, ho, resolve, invoke, builtin, hs, hxe, List.map_toArray, List.map_cons, List.map_nil]
  simp [hrun, Result.andThen]
  exact hK v' w' own (by unfold laid; rw [hd]; exact hv v' w' own ⟨g1, hfr⟩) hr
end Go.Proofs.YtmlpldkgennmkaaDoor
