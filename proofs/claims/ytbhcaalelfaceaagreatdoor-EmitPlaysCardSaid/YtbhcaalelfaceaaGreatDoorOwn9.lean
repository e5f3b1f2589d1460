/- An append in a drawn region: its row lies where it lay, or in a new block. -/
import Derived.Test.YtbhcaalelfaceaaGreatDoorOwn8
namespace Go.Proofs.YtbhcaalelfaceaaGreatDoor
set_option maxRecDepth 100000
open Go.RowKit
def GrownW (own : Nat → Option Nat) (w : World) (i base : Nat) (e : TypeId) (size : Nat) (v : Value) (n : Nat) (xs : List Value) (v0 : Value) (B : Nat) : Prop :=
  GrownV own w i base e size v n xs ∧ ∀ k, v.ownBlock = some k → v0.ownBlock = some k ∨ B ≤ k
theorem GrownW.stable {mk own own' : Nat → Option Nat} {w w' : World} {i j base : Nat} {e : TypeId} {size : Nat} {v : Value} {n : Nat} {xs : List Value} {v0 : Value} {B : Nat} (h : GrownW own w j base e size v n xs v0 B) (r : Rel mk i own w own' w') (hij : i ≠ j) : GrownW own' w' j base e size v n xs v0 B :=
  ⟨h.1.stable r hij, h.2⟩
theorem showsO_appendW {mk own0 own : Nat → Option Nat} {w0 w : World} {P : Program} {Q : Exit → Act → World → Prop} {V : Nat → Value → (Nat → Option Nat) → World → Prop} {i : Nat} {o : Oper} {a : Act} (hs0 : Since own0 w0 own w) (hke : ∀ k, k < w0.heap.size → own0 k = some i → w.heap[k]? = w0.heap[k]?) {d : Nat} (hd : o.dst = some d) (s x : Operand) (t : TypeId)
    (ho : o.op = .call { callee := .builtin .append, args := #[s, x], argTypes := #[t, t] })
    (base : Nat) (e : TypeId) (i' : TypeInfo) (z : Value) (size bytes : Nat) (ht : P.underlying t = some (.slice e)) (hi : P.info? e = some i') (hz : i'.zero = some z)
    (hsize : i'.size = size) (hby : i'.bytes = bytes) (hzs : z.cells.size = size) (hsz : 0 < size)
    (v : Value) (n : Nat) (xs : List Value) (hs : a.eval s = v) (hown : w0.ownsRow base e size v n xs) (how : ∀ k, v.ownBlock = some k → own0 k = some i)
    {m : Nat} {X : Array Value} {T : TypeId} (hx : BuiltV own w (a.eval x) m T X) (hl : X.size = m * size) (h1 : X.all (·.oneCell') = true)
    (h63 : n + m ≤ maxLen) (hbytes : (n + m) * bytes ≤ 140737488355328) (hbase : base ≤ w0.heap.size)
    (hv : ∀ v' w' own', GrownW own' w' i base e size v' (n + m) (xs ++ X.toList) v w0.heap.size → V i v' own' w') : ShowsO mk P Q V i o a own w := by
  intro K hK
  have hown' : w.ownsRow base e size v n xs := ownsRow_keep' hown fun g hg => hke g (ownsRow_lt hown g hg) (how g hg)
  obtain ⟨g, hxe, hg0, hg⟩ := hx
  obtain ⟨v', w', hrun, g1, g2⟩ := run_append_two (P := P) (w := w) t o.type base e i' z size bytes ht hi hz hsize hby hzs hsz v n xs hown' ⟨g, 0, none⟩ m m X.toList (by simpa using hl) (fun j u hu => by
      have ea : (⟨g, 0, none⟩ : Addr).add j = ⟨g, j, none⟩ := by unfold Addr.add; by_cases h : j = 0 <;> simp [h]
      rw [ea]
      exact er_cellAt hg j u (by simpa using hu)) (fun u hu => Array.all_eq_true_iff_forall_mem.1 h1 u (by simpa using hu)) h63 hbytes (Nat.le_trans hbase hs0.size)
  have hw : ∀ k, v'.ownBlock = some k → v.ownBlock = some k ∨ w0.heap.size ≤ k := by
    rcases g2 with ⟨g, cap, rfl, rfl, _⟩ | ⟨_, h3⟩
    · exact fun k hk => .inl hk
    · exact fun k hk => .inr (Nat.le_trans hs0.size (h3 k hk))
  obtain ⟨hr, hfr⟩ := Rel.append (mk := mk) hs0 (fun k hk => (hs0.owns k (ownsRow_lt hown k hk)).trans (how k hk)) hown' g1 g2
  unfold Oper.wp
  simp only [execOp, ho, resolve, invoke, builtin, hs, hxe, List.map_toArray, List.map_cons, List.map_nil]
  simp [hrun, Result.andThen]
  exact hK v' w' own (by unfold laid; rw [hd]; exact hv v' w' own ⟨⟨g1, hfr⟩, hw⟩) hr
end Go.Proofs.YtbhcaalelfaceaaGreatDoor
