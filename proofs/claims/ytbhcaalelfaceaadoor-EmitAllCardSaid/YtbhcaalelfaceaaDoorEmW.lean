/- Plain: what a builder tells of leaves, leaf by leaf, are their whole trees, each the node of its halves. -/
import Derived.Test.YtbhcaalelfaceaaDoorEmN
import Derived.Test.YtbhcaalelfaceaaDoorEmI
namespace Go.Proofs.YtbhcaalelfaceaaDoor
/-- the hash of a whole tree over these leaves -/
def trB (f : Nat → List UInt8) : Nat → Nat → List UInt8
  | 0, I => f I
  | L + 1, I => nd (trB f L (2 * I)) (trB f L (2 * I + 1))
theorem trB_length {f : Nat → List UInt8} (h : ∀ i, (f i).length = 32) : ∀ (L I : Nat), (trB f L I).length = 32
  | 0, I => h I
  | _ + 1, _ => nd_length _ _
/-- the whole trees of so many trees of a level -/
def wtB (f : Nat → List UInt8) (L t : Nat) : List (List UInt8) :=
  if t = 0 then [] else wtB f (L + 1) (t / 2) ++ (if t % 2 = 1 then [trB f L (t - 1)] else [])
termination_by t
decreasing_by omega
theorem wtB_zero (f : Nat → List UInt8) (L : Nat) : wtB f L 0 = [] := by rw [wtB, if_pos rfl]
theorem wtB_odd (f : Nat → List UInt8) (L t : Nat) (h : t % 2 = 1) : wtB f L t = wtB f (L + 1) (t / 2) ++ [trB f L (t - 1)] := by
  rw [wtB, if_neg (by omega), if_pos h]
theorem wtB_even (f : Nat → List UInt8) (L t : Nat) (h : t % 2 = 0) : wtB f L t = wtB f (L + 1) (t / 2) := by
  by_cases h0 : t = 0
  · subst h0
    rw [wtB_zero, wtB_zero]
  · rw [wtB, if_neg h0, if_neg (by omega), List.append_nil]
theorem hkB_snoc (ls : List (List UInt8)) (z h : List UInt8) : ∀ k, k ≤ ls.length → hkB (ls ++ [z]) h (k + 1) = hkB ls (nd z h) k
  | 0, _ => by simp [hkB]
  | k + 1, hk => by
    have ih := hkB_snoc ls z h k (by omega)
    show nd ((ls ++ [z]).getD ((ls ++ [z]).length - 1 - (k + 1)) []) (hkB (ls ++ [z]) h (k + 1)) = nd (ls.getD (ls.length - 1 - k) []) (hkB ls (nd z h) k)
    rw [ih]
    congr 1
    rw [List.length_append, List.length_singleton, List.getD_eq_getElem?_getD, List.getD_eq_getElem?_getD, List.getElem?_append_left (by omega)]
    congr 2
    omega
theorem tones_le_wt (f : Nat → List UInt8) : ∀ (t L : Nat), t < 18446744073709551616 → tones t ≤ (wtB f L t).length := by
  intro t
  induction t using Nat.strongRecOn with
  | _ t ih =>
    intro L ht
    by_cases ho : t % 2 = 1
    · rw [tones_odd ht ho, wtB_odd f L t ho, List.length_append, List.length_singleton]
      have := ih (t / 2) (by omega) (L + 1) (by omega)
      omega
    · rw [tones_even ho]; exact Nat.zero_le _
/-- the hashes that become whole are the trees' ones -/
theorem hkB_tr (f : Nat → List UInt8) : ∀ (t L : Nat), t < 18446744073709551616 → ∀ k, k ≤ tones t → hkB (wtB f L t) (trB f L t) k = trB f (L + k) (t / 2 ^ k) := by
  intro t
  induction t using Nat.strongRecOn with
  | _ t ih =>
    intro L ht k hk
    match k, hk with
    | 0, _ => simp [hkB]
    | k + 1, hk =>
      have ho : t % 2 = 1 := by
        rcases Nat.mod_two_eq_zero_or_one t with h | h
        · rw [tones_even (by omega)] at hk; omega
        · exact h
      rw [tones_odd ht ho] at hk
      have hle := tones_le_wt f (t / 2) (L + 1) (by omega)
      rw [wtB_odd f L t ho, hkB_snoc _ _ _ k (by omega)]
      have e : nd (trB f L (t - 1)) (trB f L t) = trB f (L + 1) (t / 2) := by
        show _ = nd (trB f L (2 * (t / 2))) (trB f L (2 * (t / 2) + 1))
        rw [show 2 * (t / 2) = t - 1 by omega, show t - 1 + 1 = t by omega]
      rw [e, ih (t / 2) (by omega) (L + 1) (by omega) k (by omega), show L + 1 + k = L + (k + 1) by omega, Nat.div_div_eq_div_mul, Nat.pow_succ, Nat.mul_comm 2]
theorem lsB_wt (f : Nat → List UInt8) : ∀ (t L : Nat), t + 1 < 18446744073709551616 → (wtB f L t).take ((wtB f L t).length - tones t) ++ [hkB (wtB f L t) (trB f L t) (tones t)] = wtB f L (t + 1) := by
  intro t
  induction t using Nat.strongRecOn with
  | _ t ih =>
    intro L ht
    by_cases ho : t % 2 = 1
    · have hle := tones_le_wt f (t / 2) (L + 1) (by omega)
      have e : nd (trB f L (t - 1)) (trB f L t) = trB f (L + 1) (t / 2) := by
        show _ = nd (trB f L (2 * (t / 2))) (trB f L (2 * (t / 2) + 1))
        rw [show 2 * (t / 2) = t - 1 by omega, show t - 1 + 1 = t by omega]
      have h1 := ih (t / 2) (by omega) (L + 1) (by omega)
      rw [tones_odd (by omega) ho, wtB_even f L (t + 1) (by omega), show (t + 1) / 2 = t / 2 + 1 by omega, ← h1, wtB_odd f L t ho, Nat.add_comm 1, hkB_snoc _ _ _ _ hle, e]
      congr 1
      rw [List.length_append, List.length_singleton, List.take_append_of_le_length (by omega)]
      congr 1
      omega
    · rw [tones_even ho, Nat.sub_zero, List.take_length, wtB_odd f L (t + 1) (by omega), wtB_even f L t (by omega), show (t + 1) / 2 = t / 2 by omega, Nat.add_sub_cancel]
      rfl
/-- all that is told of the first t leaves -/
def alB (f : Nat → List UInt8) : Nat → List (Nat × Nat × List UInt8)
  | 0 => []
  | t + 1 => alB f t ++ nodesB t (wtB f 0 t) (f t) (tones t + 1)
theorem alB_len (f : Nat → List UInt8) : ∀ t, t < 18446744073709551616 → (alB f t).length + pcnt t = 2 * t
  | 0, _ => by rw [pcnt_zero]; rfl
  | t + 1, ht => by
    have h1 := alB_len f t (by omega)
    have h2 := pcnt_succ ht
    have e : (alB f (t + 1)).length = (alB f t).length + (tones t + 1) := by
      show (alB f t ++ nodesB t (wtB f 0 t) (f t) (tones t + 1)).length = _
      rw [List.length_append, nodesB_length]
    omega
theorem lsB_wt0 (f : Nat → List UInt8) (t : Nat) (ht : t + 1 < 18446744073709551616) : lsB t (wtB f 0 t) (f t) = wtB f 0 (t + 1) := by
  unfold lsB
  exact lsB_wt f t 0 ht
theorem wtB_len (f : Nat → List UInt8) : ∀ t, t < 18446744073709551616 → (wtB f 0 t).length = pcnt t
  | 0, _ => by rw [wtB_zero, pcnt_zero]; rfl
  | t + 1, ht => by
    rw [← lsB_wt0 f t ht]
    exact lsB_length (f t) (wtB_len f t (by omega)) ht
theorem wtB_mem {f : Nat → List UInt8} (h : ∀ i, (f i).length = 32) : ∀ (t L : Nat), ∀ x ∈ wtB f L t, x.length = 32 := by
  intro t
  induction t using Nat.strongRecOn with
  | _ t ih =>
    intro L x hx
    by_cases h0 : t = 0
    · subst h0; rw [wtB_zero] at hx; cases hx
    · rcases Nat.mod_two_eq_zero_or_one t with ho | ho
      · rw [wtB_even f L t ho] at hx
        exact ih (t / 2) (by omega) (L + 1) x hx
      · rw [wtB_odd f L t ho] at hx
        rcases List.mem_append.1 hx with hx | hx
        · exact ih (t / 2) (by omega) (L + 1) x hx
        · rw [List.mem_singleton] at hx
          rw [hx]; exact trB_length h _ _
/-- so many ones at the end -/
theorem tones_mod : ∀ (k n : Nat), n < 18446744073709551616 → k ≤ tones n → n % 2 ^ k = 2 ^ k - 1
  | 0, n, _, _ => by simp [Nat.mod_one]
  | k + 1, n, hn, hk => by
    have ho : n % 2 = 1 := by
      rcases Nat.mod_two_eq_zero_or_one n with h | h
      · rw [tones_even (by omega)] at hk; omega
      · exact h
    rw [tones_odd hn ho] at hk
    have ih := tones_mod k (n / 2) (by omega) (by omega)
    have hp := Nat.two_pow_pos k
    have e := Nat.mod_mul (x := n) (a := 2) (b := 2 ^ k)
    rw [Nat.pow_succ, Nat.mul_comm, e, ih, ho]
    omega
theorem mod_tones : ∀ (k n : Nat), n < 18446744073709551616 → n % 2 ^ k = 2 ^ k - 1 → k ≤ tones n
  | 0, _, _, _ => Nat.zero_le _
  | k + 1, n, hn, h => by
    have hp := Nat.two_pow_pos k
    have e := Nat.mod_mul (x := n) (a := 2) (b := 2 ^ k)
    rw [Nat.pow_succ, Nat.mul_comm, e] at h
    have ho : n % 2 = 1 := by omega
    have ih := mod_tones k (n / 2) (by omega) (by omega)
    rw [tones_odd hn ho]
    omega
theorem span_end {n k : Nat} (hn : n < 18446744073709551616) (hk : k ≤ tones n) : (n / 2 ^ k + 1) * 2 ^ k = n + 1 := by
  have h := tones_mod k n hn hk
  have e := Nat.div_add_mod n (2 ^ k)
  have hp := Nat.two_pow_pos k
  rw [Nat.add_mul, Nat.one_mul, Nat.mul_comm]
  omega
/-- each node that is told is the tree that it says, and lies within the leaves -/
theorem alB_tree (f : Nat → List UInt8) : ∀ t, t < 18446744073709551616 → ∀ p ∈ alB f t, p.2.2 = trB f p.1 p.2.1 ∧ (p.2.1 + 1) * 2 ^ p.1 ≤ t
  | 0, _, p, hp => by cases hp
  | t + 1, ht, p, hp => by
    rcases List.mem_append.1 (show p ∈ alB f t ++ nodesB t (wtB f 0 t) (f t) (tones t + 1) from hp) with h | h
    · obtain ⟨h1, h2⟩ := alB_tree f t (by omega) p h
      exact ⟨h1, by omega⟩
    · unfold nodesB at h
      obtain ⟨k, hk, rfl⟩ := List.mem_map.1 h
      have hk' : k ≤ tones t := by have := List.mem_range.1 hk; omega
      refine ⟨?_, ?_⟩
      · have := hkB_tr f t 0 (by omega) k hk'
        rw [Nat.zero_add] at this
        exact this
      · show (t / 2 ^ k + 1) * 2 ^ k ≤ t + 1
        rw [span_end (by omega) hk']
        exact Nat.le_refl _
/-- each whole tree is told -/
theorem tree_alB (f : Nat → List UInt8) (L I : Nat) : ∀ t, t < 18446744073709551616 → (I + 1) * 2 ^ L ≤ t → (L, I, trB f L I) ∈ alB f t
  | 0, _, h => by
    have := Nat.two_pow_pos L
    have : 0 < (I + 1) * 2 ^ L := Nat.mul_pos (by omega) this
    omega
  | t + 1, ht, h => by
    show _ ∈ alB f t ++ nodesB t (wtB f 0 t) (f t) (tones t + 1)
    by_cases h1 : (I + 1) * 2 ^ L ≤ t
    · exact List.mem_append_left _ (tree_alB f L I t (by omega) h1)
    · have hp := Nat.two_pow_pos L
      have e : t = I * 2 ^ L + (2 ^ L - 1) := by
        have : (I + 1) * 2 ^ L = I * 2 ^ L + 2 ^ L := by rw [Nat.add_mul, Nat.one_mul]
        omega
      have hm : t % 2 ^ L = 2 ^ L - 1 := by
        rw [e, Nat.mul_comm, Nat.mul_add_mod, Nat.mod_eq_of_lt (by omega)]
      have hd : t / 2 ^ L = I := by
        rw [e, Nat.mul_comm, Nat.mul_add_div hp, Nat.div_eq_of_lt (by omega), Nat.add_zero]
      have hk := mod_tones L t (by omega) hm
      refine List.mem_append_right _ ?_
      unfold nodesB
      refine List.mem_map.2 ⟨L, List.mem_range.2 (by omega), ?_⟩
      have := hkB_tr f t 0 (by omega) L hk
      rw [Nat.zero_add] at this
      rw [hd] at this ⊢
      exact congrArg (fun z => (L, I, z)) this
/-- what find answers -/
def fdB (l : List (Nat × Nat × List UInt8)) (L I : Nat) : Option (Nat × Nat × List UInt8) := l.find? fun p => decide (p.1 = L ∧ p.2.1 = I)
theorem fdB_alB (f : Nat → List UInt8) (t : Nat) (ht : t < 18446744073709551616) (L I : Nat) (h : (I + 1) * 2 ^ L ≤ t) : ∃ p, fdB (alB f t) L I = some p ∧ p.2.2 = trB f L I := by
  have hm := tree_alB f L I t ht h
  unfold fdB
  cases e : (alB f t).find? fun p => decide (p.1 = L ∧ p.2.1 = I) with
  | none =>
    have := List.find?_eq_none.1 e _ hm
    simp at this
  | some p =>
    refine ⟨p, rfl, ?_⟩
    have h1 := List.find?_some e
    simp only [decide_eq_true_eq] at h1
    rw [(alB_tree f t ht p (List.mem_of_find?_eq_some e)).1, h1.1, h1.2]
theorem fdB_none {l : List (Nat × Nat × List UInt8)} {L I t : Nat} (h : fdB (l.drop t) L I = fdB l L I) (ht : t < l.length) (hn : ¬ ((l[t]).1 = L ∧ (l[t]).2.1 = I)) : fdB (l.drop (t + 1)) L I = fdB l L I := by
  rw [← h, List.drop_eq_getElem_cons ht]
  unfold fdB
  rw [List.find?_cons, decide_eq_false hn]
theorem fdB_hit {l : List (Nat × Nat × List UInt8)} {L I t : Nat} (h : fdB (l.drop t) L I = fdB l L I) (ht : t < l.length) (hn : (l[t]).1 = L ∧ (l[t]).2.1 = I) : fdB l L I = some l[t] := by
  rw [← h, List.drop_eq_getElem_cons ht]
  unfold fdB
  rw [List.find?_cons, decide_eq_true hn]
end Go.Proofs.YtbhcaalelfaceaaDoor
