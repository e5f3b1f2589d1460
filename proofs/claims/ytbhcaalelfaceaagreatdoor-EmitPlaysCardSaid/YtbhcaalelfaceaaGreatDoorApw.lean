/- An append, both ways told apart: into the room of the same block, or into a new one, and then the old block is as it was. -/
import Derived.Deep.DeepAppendRoom
import Derived.ArgAppend
import Derived.Maps.AppendAt
namespace Go.Proofs.YtbhcaalelfaceaaGreatDoor
section
variable {P : Program} (w : World)
/-- what such an append leaves -/
def AppTwo (w w' : World) (base : Nat) (e : TypeId) (size : Nat) (v : Value) (n m : Nat) (ys : List Value) (v' : Value) : Prop :=
  w'.ownsRow base e size v' (n + m) ys ∧
  ((∃ g cap, v = .slice (some ⟨g, 0, none⟩) n cap ∧ v' = .slice (some ⟨g, 0, none⟩) (n + m) cap ∧ w.grownBy w' (some g)) ∨ (w.grownBy w' none ∧ ∀ k, v'.ownBlock = some k → w.heap.size ≤ k))
theorem run_append_apw (t ty : TypeId) (base : Nat) (e : TypeId) (i : TypeInfo) (z : Value) (size bytes : Nat) (ht : P.underlying t = some (.slice e)) (hi : P.info? e = some i) (hz : i.zero = some z)
    (hsize : i.size = size) (hby : i.bytes = bytes) (hzs : z.cells.size = size) (hsz : 0 < size)
    (v : Value) (n : Nat) (xs : List Value) (hown : w.ownsRow base e size v n xs)
    (ad : Addr) (m c : Nat) (news : List Value) (hl : news.length = m * size) (hnews : ∀ j u, news[j]? = some u → w.cell? (ad.add j) = some u) (h1 : ∀ u ∈ news, u.oneCell' = true)
    (h63 : n + m ≤ maxLen) (hbytes : (n + m) * bytes ≤ 140737488355328) (hbase : base ≤ w.heap.size) :
    ∃ v' w', (Builtin.append_ #[t, t] ty #[v, .slice (some ad) m c]).run P w = .ok v' w' ∧ AppTwo w w' base e size v n m (xs ++ news) v' := by
  rcases id hown.2 with ⟨h0, hn⟩ | ⟨g, cap, cur, hv, _⟩
  · obtain ⟨v', w', hr, h2, h3, _, h5⟩ := run_append_own_at (P := P) w base t ty e i z size bytes ht hi hz hsize hby hzs hsz v n xs hown ad m c news hl hnews h1 h63 hbytes hbase
    subst h0
    refine ⟨v', w', hr, h2, .inr ⟨h3, fun k hk => ?_⟩⟩
    rcases h5 with h5 | h5
    · rw [h5] at hk; cases hk
    · rw [h5] at hk; cases hk; exact Nat.le_refl _
  · subst hv
    by_cases hroom : n + m ≤ cap
    · obtain ⟨w', hr, h2, h3⟩ := run_append_own_spare (P := P) w base t ty e i size ht hi hsize g n cap xs hown ad m c news hl hnews h1 hroom
      exact ⟨_, w', hr, h2, .inl ⟨g, cap, rfl, rfl, h3⟩⟩
    · obtain ⟨v', w', hr, h2, h3⟩ := run_append_arg_grows (P := P) w t ty e i z size bytes ht hi hz hsize hby hzs hsz ⟨g, 0, none⟩ n cap xs hown.1 (hown.cells (g := g) rfl) ad m c news hl hnews (by omega) h63 hbytes
      refine ⟨v', w', hr, ⟨h2.1, ?_⟩, .inr ⟨h3, fun k hk => ?_⟩⟩
      · rcases h2.2 with h | ⟨g', c', cur', e1, e2, e3⟩
        · exact .inl h
        · exact .inr ⟨g', c', cur', e1, Nat.le_trans hbase e2, e3⟩
      · rcases h2.2 with ⟨h, _⟩ | ⟨g', c', cur', e1, e2, e3⟩
        · rw [h] at hk; cases hk
        · rw [e1] at hk
          have : g' = k := by simpa [Value.ownBlock] using hk
          omega
/-- for the walk -/
theorem wpList_append_apw {ops : Array Oper} {rest : List Oper} {o : Oper} {a : Act} {Q : Exit → Act → World → Prop} (hgd : o.guard = none) (s x : Operand) (t : TypeId)
    (ho : o.op = .call { callee := .builtin .append, args := #[s, x], argTypes := #[t, t] })
    (base : Nat) (e : TypeId) (i : TypeInfo) (z : Value) (size bytes : Nat) (ht : P.underlying t = some (.slice e)) (hi : P.info? e = some i) (hz : i.zero = some z)
    (hsize : i.size = size) (hby : i.bytes = bytes) (hzs : z.cells.size = size) (hsz : 0 < size)
    (v : Value) (n : Nat) (xs : List Value) (hs : a.eval s = v) (hown : w.ownsRow base e size v n xs)
    (ad : Addr) (m c : Nat) (news : List Value) (hx : a.eval x = .slice (some ad) m c) (hl : news.length = m * size) (hnews : ∀ j u, news[j]? = some u → w.cell? (ad.add j) = some u) (h1 : ∀ u ∈ news, u.oneCell' = true)
    (h63 : n + m ≤ maxLen) (hbytes : (n + m) * bytes ≤ 140737488355328) (hbase : base ≤ w.heap.size)
    (h : ∀ v' w', AppTwo w w' base e size v n m (xs ++ news) v' → wpList P ops Q rest (a.put o.dst v') w') : wpList P ops Q (o :: rest) a w := by
  refine wpList_plain hgd fun K hK => ?_
  obtain ⟨v', w', hr, h2⟩ := run_append_apw (P := P) w t o.type base e i z size bytes ht hi hz hsize hby hzs hsz v n xs hown ad m c news hl hnews h1 h63 hbytes hbase
  unfold Oper.wp execOp
  simp only [ho, resolve, invoke, builtin, Sem.run_bind, Sem.run_pure, Result.andThen_ok, List.map_toArray, List.map_cons, List.map_nil, hs, hx, hr]
  exact hK _ _ (h v' w' h2)
end
end Go.Proofs.YtbhcaalelfaceaaGreatDoor
