/- cartularylaw01.SameNodes. -/
import Derived.Test.YtgbafjmklefoiaaDoorEmQ
namespace Go.Proofs.YtgbafjmklefoiaaDoor
set_option maxRecDepth 100000
open Go.RowKit
theorem nszB {p : Nat × Nat × List UInt8} (h : p.2.2.length = 32) : (Tryd.prog.info? 66).map (·.size) = some (ncell p).toList.length := by
  rw [Array.length_toList, ncell_size h]; kernel_rfl
theorem neq_nodeB (w : World) (p q : Nat × Nat × List UInt8) (hp : p.2.2.length = 32) (hq : q.2.2.length = 32) :
    (binOp .neq 66 (.agg (ncell p)) (.agg (ncell q))).run Tryd.prog w = .ok (.bool (!(p == q))) w := by
  rw [neq_node w p q hp hq, Bool.and_assoc]; rfl
/-- nodes in memory -/
def Nss (w : World) (v : Value) (hs : List (Nat × Nat × List UInt8)) : Prop :=
  (∀ h ∈ hs, h.2.2.length = 32) ∧ ∃ (a : Option Addr) (cap : Nat), v = .slice a hs.length cap ∧ hs.length ≤ cap ∧ cap ≤ maxLen ∧
    (hs ≠ [] → ∃ B off, a = some ⟨B, off, none⟩ ∧ B < w.heap.size ∧ ∀ i, (h : i < hs.length) → w.rangeAt B (off + i * 34) (ncell hs[i]).toList)
theorem Nss.below {w w' : World} {v : Value} {hs : List (Nat × Nat × List UInt8)} (h : Nss w v hs) (k : Below w.heap.size w w') : Nss w' v hs := by
  obtain ⟨h0, a, cap, h1, h2, h3, h4⟩ := h
  refine ⟨h0, a, cap, h1, h2, h3, fun hne => ?_⟩
  obtain ⟨B, off, e1, e2, e3⟩ := h4 hne
  exact ⟨B, off, e1, Nat.lt_of_lt_of_le e2 k.size, fun i hi => rangeAt_below (e3 i hi) e2 k⟩
theorem Nss.len {w : World} {v : Value} {hs : List (Nat × Nat × List UInt8)} (h : Nss w v hs) : ∃ a cap, v = .slice a hs.length cap ∧ hs.length ≤ cap ∧ cap ≤ 9223372036854775807 := by
  obtain ⟨_, a, cap, h1, h2, h3, _⟩ := h
  exact ⟨a, cap, h1, h2, by unfold maxLen at h3; omega⟩
theorem Nss.at {w : World} {a : Option Addr} {n cap : Nat} {hs : List (Nat × Nat × List UInt8)} (h : Nss w (.slice a n cap) hs) (i : Nat) (hi : i < hs.length) :
    n = hs.length ∧ hs.length ≤ cap ∧ cap ≤ 9223372036854775807 ∧ ∃ B off, a = some ⟨B, off, none⟩ ∧ B < w.heap.size ∧ w.rangeAt B (off + i * 34) (ncell hs[i]).toList ∧ hs[i].2.2.length = 32 := by
  obtain ⟨h0, a', cap', h1, h2, h3, h4⟩ := h
  cases h1
  have hne : hs ≠ [] := fun e => by subst e; simp at hi
  obtain ⟨B, off, e1, e2, e3⟩ := h4 hne
  exact ⟨rfl, h2, by unfold maxLen at h3; omega, B, off, e1, e2, e3 i hi, h0 _ (List.getElem_mem hi)⟩
/-- a row of one's own reads as its nodes -/
theorem nss_own {w : World} {base n : Nat} {v : Value} {ls : List (Nat × Nat × List UInt8)} (h : w.ownsRow base 66 34 v n (ncells ls)) (hl : ∀ x ∈ ls, x.2.2.length = 32) (hn : n = ls.length) : Nss w v ls := by
  subst hn
  rcases id h.2 with ⟨rfl, h0⟩ | ⟨g, cap, cur, rfl, hb, hg, h1, h2, h3, h4⟩
  · obtain rfl : ls = [] := List.length_eq_zero_iff.1 h0
    exact ⟨(fun _ h => (by cases h)), none, 0, rfl, Nat.le_refl _, (by unfold maxLen; decide), fun h => absurd rfl h⟩
  · refine ⟨hl, _, cap, rfl, h1, h2, fun _ => ⟨g, 0, rfl, (Array.getElem?_eq_some_iff.1 hg).1, fun i hi => ?_⟩⟩
    intro j x hx
    have hj : j < 34 := by
      have := (List.getElem?_eq_some_iff.1 hx).1
      rwa [Array.length_toList, ncell_size (hl _ (List.getElem_mem hi))] at this
    rw [Nat.zero_add, h.cellAt (i * 34 + j) (by omega), ncells_get hl i hi j hj]
    simpa using hx
def VSn (B1 o1 c1 B2 o2 c2 l t : Nat) (x y : Nat × Nat × List UInt8) (oi : Nat) (v : Value) (_own : Nat → Option Nat) (_w : World) : Prop :=
  match oi with
  | 0 => v = .slice (some ⟨B1, o1, none⟩) l c1
  | 1 => v = .int .i64 (t : Int)
  | 2 => v = .pointer (some ⟨B1, o1 + t * 34, none⟩)
  | 3 => v = .agg (ncell x)
  | 4 => v = .slice (some ⟨B2, o2, none⟩) l c2
  | 5 => v = .int .i64 (t : Int)
  | 6 => v = .pointer (some ⟨B2, o2 + t * 34, none⟩)
  | 7 => v = .agg (ncell y)
  | 8 => v = .bool (!(x == y))
  | _ => True
def VSnmk : Nat → Option Nat := fun _ => none
theorem VSn_mono (B1 o1 c1 B2 o2 c2 l t : Nat) (x y : Nat × Nat × List UInt8) (oi oj : Nat) (v : Value) (own : Nat → Option Nat) (w : World) (own' : Nat → Option Nat) (w' : World) (hij : oi ≠ oj) (h : VSn B1 o1 c1 B2 o2 c2 l t x y oj v own w) (_r : Rel VSnmk oi own w own' w') : VSn B1 o1 c1 B2 o2 c2 l t x y oj v own' w' := by
  unfold VSn at h ⊢
  split at h
  · exact h
  · exact h
  · exact h
  · exact h
  · exact h
  · exact h
  · exact h
  · exact h
  · exact h
  · trivial

theorem getElem_neN {a b : List (Nat × Nat × List UInt8)} {t : Nat} (ha : t < a.length) (hb : t < b.length) (h : (a[t] == b[t]) = false) : (a == b) = false := by
  rw [beq_eq_false_iff_ne] at h ⊢
  intro e
  subst e
  exact h rfl
end Go.Proofs.YtgbafjmklefoiaaDoor
